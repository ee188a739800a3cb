/- The contracts of the functions that FnExactRaftPropose reaches (each: what it answers, said over values), printed by a program of this session (wip/sy/g/gen.py). -/
import Derived.Test.YtlmadhahghiedaaFFnExactRaftPropose2
set_option linter.unusedVariables false
set_option linter.unusedSimpArgs false
namespace Go.Proofs.Ytlmadhahghiedaa
open Go Go.Sy Go.Proofs
set_option maxRecDepth 100000 in
set_option maxHeartbeats 4000000 in
theorem impl_RaftOk_spec  (r : Raft) (hz : SmallR r) : FnSpec Try.prog 40 [.agg [.int .i64 r.id, .int .i64 r.of_, .int .i64 r.role, .int .i64 r.commit, .int .i64 r.hard.term, .int .i64 r.hard.vote, .sl false 6 (r.hard.log.map encEnt), .sl false 1 (r.yes.map encI), .sl false 1 (r.next.map encI), .sl false 1 (r.match_.map encI)]] [] (.bool (raftOk r)) [] := by
  obtain ⟨z1, z2, z3, z4⟩ := id hz
  refine FnSpec.of 105 Try.func40 rfl Try.ntmps40 (by simp) (AW.weakK ?_)
  refine AW.seq ?_
  refine AW.region (At.start ?_)
  refine At.auto 2 (by kernel_rfl) ?_
  refine At.done rfl ?_
  refine AW.seq ?_
  refine AW.region (At.start ?_)
  refine At.auto 4 (by kernel_rfl) ?_
  refine At.say 9 (.int .i64 (((r.hard.log.map encEnt).length : Nat) : Int)) (.int .i64 (r.hard.log.length : Int)) (by kernel_rfl) (sayLen _ _) ?_
  refine At.auto 1 (by kernel_rfl) ?_
  refine At.done rfl ?_
  refine AW.seq ?_
  refine AW.seq ?_
  refine AW.region (At.start ?_)
  refine At.auto 2 (by kernel_rfl) ?_
  refine At.call (impl_isOf_spec  r.of_ ) Try.call84 true [] [] [] (by kernel_rfl) (by kernel_rfl) (by kernel_rfl) (by kernel_rfl) (by kernel_rfl) trivial ?_
  refine At.auto 2 (by kernel_rfl) ?_
  by_cases h1 : (ofOk r.of_) = true
  · refine At.say 14 (.bool (!(ofOk r.of_))) (.bool false) (by kernel_rfl) (sayNF (sayB h1)) ?_
    have h1o := ofOk_iff.1 h1
    refine At.auto 5 (by kernel_rfl) ?_
    refine At.say 19 (.int .i64 (IntKind.i64.wrap (r.of_ - 1))) (.int .i64 (r.of_ - 1)) (by kernel_rfl) (sayI _ (by omega)) ?_
    refine At.call (impl_within_spec  r.id 0 (r.of_ - 1) ) Try.call85 true [] [] [] (by kernel_rfl) (by kernel_rfl) (by kernel_rfl) (by kernel_rfl) (by kernel_rfl) trivial ?_
    refine At.auto 3 (by kernel_rfl) ?_
    by_cases h2 : (inR r.id 0 (r.of_ - 1)) = true
    · refine At.say 23 (.bool (!(inR r.id 0 (r.of_ - 1)))) (.bool false) (by kernel_rfl) (sayNF (sayB h2)) ?_
      have h2i := inR_iff.1 h2
      refine At.auto 2 (by kernel_rfl) ?_
      refine At.call (impl_within_spec  r.role 1 3 ) Try.call85 true [] [] [] (by kernel_rfl) (by kernel_rfl) (by kernel_rfl) (by kernel_rfl) (by kernel_rfl) trivial ?_
      refine At.auto 3 (by kernel_rfl) ?_
      by_cases h3 : (inR r.role 1 3) = true
      · refine At.say 29 (.bool (!(inR r.role 1 3))) (.bool false) (by kernel_rfl) (sayNF (sayB h3)) ?_
        have h3i := inR_iff.1 h3
        refine At.auto 2 (by kernel_rfl) ?_
        refine At.call (impl_HardOk_spec  r.hard (by first | omega | (dsimp only; omega) | (simp only [List.length_map, List.length_append, List.length_take, List.length_drop, List.length_replicate, List.length_set, List.length_cons, List.length_nil]; omega))) Try.call86 true [] [] [] (by kernel_rfl) (by kernel_rfl) (by kernel_rfl) (by kernel_rfl) (by kernel_rfl) trivial ?_
        refine At.auto 3 (by kernel_rfl) ?_
        by_cases h4 : (hardOk r.hard) = true
        · refine At.say 35 (.bool (!(hardOk r.hard))) (.bool false) (by kernel_rfl) (sayNF (sayB h4)) ?_
          refine At.auto 3 (by kernel_rfl) ?_
          refine At.call (impl_within_spec  r.commit 0 (r.hard.log.length : Int) ) Try.call85 true [] [] [] (by kernel_rfl) (by kernel_rfl) (by kernel_rfl) (by kernel_rfl) (by kernel_rfl) trivial ?_
          refine At.auto 2 (by kernel_rfl) ?_
          refine At.done rfl ?_
          refine AW.cond (!(inR r.commit 0 (r.hard.log.length : Int))) (by kernel_rfl) (fun hb => ?_) (fun hb => ?_)
          · have h5 : (inR r.commit 0 (r.hard.log.length : Int)) = false := by simpa using hb
            clear hb
            refine AW.seq ?_
            refine AW.region (At.start ?_)
            refine At.auto 1 (by kernel_rfl) ?_
            refine At.done rfl ?_
            refine AW.ret ?_
            refine ⟨_, Sub.refl _ _, ?_⟩
            refine KF.conv (fun w => .bool w) (fun w => []) (show (false) = (raftOk r) from by grind [raft_all, raftOk3, allIn_zero]) ?_
            exact KF.mk (.inr rfl) [] [.bool false] (by kernel_rfl) (by kernel_rfl) (by kernel_rfl) (by kernel_rfl) (by kernel_rfl)
          · have h5 : (inR r.commit 0 (r.hard.log.length : Int)) = true := by simpa using hb
            clear hb
            have h5i := inR_iff.1 h5
            refine AW.skip ?_
            refine AW.seq ?_
            refine AW.seq ?_
            refine AW.cut [(101, 101)] [false, true, false, true] 65 (!(raftI2 r)) ?_ ?_
            · skip
              refine AW.region (At.start ?_)
              refine At.auto 4 (by kernel_rfl) ?_
              refine At.call (impl_nodesAscend_spec  r.yes r.of_ (by first | omega | (dsimp only; omega) | (simp only [List.length_map, List.length_append, List.length_take, List.length_drop, List.length_replicate, List.length_set, List.length_cons, List.length_nil]; omega)) (by first | omega | (dsimp only; omega) | (simp only [List.length_map, List.length_append, List.length_take, List.length_drop, List.length_replicate, List.length_set, List.length_cons, List.length_nil]; omega))) Try.call87 true [] [] [] (by kernel_rfl) (by kernel_rfl) (by kernel_rfl) (by kernel_rfl) (by kernel_rfl) trivial ?_
              refine At.auto 2 (by kernel_rfl) ?_
              by_cases h6 : (asc (r.of_ - 1) (-1) r.yes) = true
              · refine At.say 48 (.bool (!(asc (r.of_ - 1) (-1) r.yes))) (.bool false) (by kernel_rfl) (sayNF (sayB h6)) ?_
                refine At.auto 4 (by kernel_rfl) ?_
                refine At.call (slices_Contains_spec  r.yes r.id (by first | omega | (dsimp only; omega) | (simp only [List.length_map, List.length_append, List.length_take, List.length_drop, List.length_replicate, List.length_set, List.length_cons, List.length_nil]; omega))) Try.call88 true [] [] [] (by kernel_rfl) (by kernel_rfl) (by kernel_rfl) (by kernel_rfl) (by kernel_rfl) trivial ?_
                refine At.auto 2 (by kernel_rfl) ?_
                by_cases h7 : (hasI r.id r.yes) = true
                · refine At.say 55 (.bool (hasI r.id r.yes)) (.bool true) (by kernel_rfl) (sayB h7) ?_
                  refine At.auto 10 (by kernel_rfl) ?_
                  refine At.say 65 (.bool true) (.bool (!(raftI2 r))) (by kernel_rfl) (congrArg V.bool (by grind [raftI2])) ?_
                  refine At.done rfl ⟨rfl, ?_⟩
                  exact Sub.cut [(101, 101)] [false, true, false, true] 65 _ (by kernel_rfl) (by kernel_rfl) (by kernel_rfl) (by kernel_rfl)
                · refine At.say 55 (.bool (hasI r.id r.yes)) (.bool false) (by kernel_rfl) (sayB (Bool.eq_false_iff.2 h7)) ?_
                  replace h7 := Bool.eq_false_iff.2 h7
                  refine At.auto 3 (by kernel_rfl) ?_
                  refine At.say 58 (.int .i64 (((r.yes.map encI).length : Nat) : Int)) (.int .i64 (r.yes.length : Int)) (by kernel_rfl) (sayLen _ _) ?_
                  refine At.auto 2 (by kernel_rfl) ?_
                  by_cases h8 : (r.yes.length : Int) > 0
                  · refine At.say 60 (.bool (decide ((r.yes.length : Int) > 0))) (.bool true) (by kernel_rfl) (sayT h8) ?_
                    refine At.auto 5 (by kernel_rfl) ?_
                    refine At.say 65 (.bool (r.role != 2)) (.bool (!(raftI2 r))) (by kernel_rfl) (congrArg V.bool (by grind [raftI2])) ?_
                    refine At.done rfl ⟨rfl, ?_⟩
                    exact Sub.cut [(101, 101)] [false, true, false, true] 65 _ (by kernel_rfl) (by kernel_rfl) (by kernel_rfl) (by kernel_rfl)
                  · refine At.say 60 (.bool (decide ((r.yes.length : Int) > 0))) (.bool false) (by kernel_rfl) (sayF h8) ?_
                    refine At.auto 5 (by kernel_rfl) ?_
                    refine At.say 65 (.bool false) (.bool (!(raftI2 r))) (by kernel_rfl) (congrArg V.bool (by grind [raftI2])) ?_
                    refine At.done rfl ⟨rfl, ?_⟩
                    exact Sub.cut [(101, 101)] [false, true, false, true] 65 _ (by kernel_rfl) (by kernel_rfl) (by kernel_rfl) (by kernel_rfl)
              · refine At.say 48 (.bool (!(asc (r.of_ - 1) (-1) r.yes))) (.bool true) (by kernel_rfl) (sayNT (sayB (Bool.eq_false_iff.2 h6))) ?_
                replace h6 := Bool.eq_false_iff.2 h6
                refine At.auto 17 (by kernel_rfl) ?_
                refine At.say 65 (.bool true) (.bool (!(raftI2 r))) (by kernel_rfl) (congrArg V.bool (by grind [raftI2])) ?_
                refine At.done rfl ⟨rfl, ?_⟩
                exact Sub.cut [(101, 101)] [false, true, false, true] 65 _ (by kernel_rfl) (by kernel_rfl) (by kernel_rfl) (by kernel_rfl)
            refine AW.cond (!(raftI2 r)) (by kernel_rfl) (fun hb => ?_) (fun hb => ?_)
            · have h9 : (raftI2 r) = false := by simpa using hb
              clear hb
              refine AW.seq ?_
              refine AW.region (At.start ?_)
              refine At.auto 1 (by kernel_rfl) ?_
              refine At.done rfl ?_
              refine AW.ret ?_
              refine ⟨_, Sub.refl _ _, ?_⟩
              refine KF.conv (fun w => .bool w) (fun w => []) (show (false) = (raftOk r) from by grind [raft_all, raftOk3, allIn_zero]) ?_
              exact KF.mk (.inr rfl) [] [.bool false] (by kernel_rfl) (by kernel_rfl) (by kernel_rfl) (by kernel_rfl) (by kernel_rfl)
            · have h9 : (raftI2 r) = true := by simpa using hb
              clear hb
              refine AW.skip ?_
              refine AW.seq ?_
              refine AW.region (At.start ?_)
              refine At.auto 1 (by kernel_rfl) ?_
              refine At.done rfl ?_
              refine AW.seq ?_
              refine AW.seq ?_
              refine AW.region (At.start ?_)
              refine At.auto 3 (by kernel_rfl) ?_
              refine At.done rfl ?_
              refine AW.cond (r.role == 3) (by kernel_rfl) (fun hb => ?_) (fun hb => ?_)
              · have h10 : r.role = 3 := by simpa using hb
                clear hb
                refine AW.region (At.start ?_)
                refine At.auto 3 (by kernel_rfl) ?_
                refine At.done rfl ?_
                refine AW.seq ?_
                refine AW.cut [(101, 101)] [false, true, false, true, true] 5 (raftI4 r) ?_ ?_
                · skip
                  refine AW.region (At.start ?_)
                  refine At.auto 4 (by kernel_rfl) ?_
                  by_cases h11 : r.role = 1
                  · refine At.say 74 (.bool (r.role == 1)) (.bool true) (by kernel_rfl) (sayET h11) ?_
                    refine At.auto 15 (by kernel_rfl) ?_
                    refine At.say 5 (.bool true) (.bool (raftI4 r)) (by kernel_rfl) (congrArg V.bool (by grind [raftI4])) ?_
                    refine At.done rfl ⟨rfl, ?_⟩
                    exact Sub.cut [(101, 101)] [false, true, false, true, true] 5 _ (by kernel_rfl) (by kernel_rfl) (by kernel_rfl) (by kernel_rfl)
                  · refine At.say 74 (.bool (r.role == 1)) (.bool false) (by kernel_rfl) (sayEF h11) ?_
                    refine At.auto 5 (by kernel_rfl) ?_
                    by_cases h12 : r.hard.term ≥ 1
                    · refine At.say 79 (.bool (decide (r.hard.term ≥ 1))) (.bool true) (by kernel_rfl) (sayT h12) ?_
                      refine At.auto 6 (by kernel_rfl) ?_
                      refine At.say 85 (.int .i64 (IntKind.i64.wrap (r.id + 1))) (.int .i64 (r.id + 1)) (by kernel_rfl) (sayI _ (by omega)) ?_
                      refine At.auto 4 (by kernel_rfl) ?_
                      refine At.say 5 (.bool (r.hard.vote == (r.id + 1))) (.bool (raftI4 r)) (by kernel_rfl) (congrArg V.bool (by grind [raftI4])) ?_
                      refine At.done rfl ⟨rfl, ?_⟩
                      exact Sub.cut [(101, 101)] [false, true, false, true, true] 5 _ (by kernel_rfl) (by kernel_rfl) (by kernel_rfl) (by kernel_rfl)
                    · refine At.say 79 (.bool (decide (r.hard.term ≥ 1))) (.bool false) (by kernel_rfl) (sayF h12) ?_
                      refine At.auto 10 (by kernel_rfl) ?_
                      refine At.say 5 (.bool false) (.bool (raftI4 r)) (by kernel_rfl) (congrArg V.bool (by grind [raftI4])) ?_
                      refine At.done rfl ⟨rfl, ?_⟩
                      exact Sub.cut [(101, 101)] [false, true, false, true, true] 5 _ (by kernel_rfl) (by kernel_rfl) (by kernel_rfl) (by kernel_rfl)
                refine AW.seq ?_
                refine AW.region (At.start ?_)
                refine At.auto 2 (by kernel_rfl) ?_
                by_cases h13 : (raftI4 r) = true
                · refine At.say 90 (.bool (raftI4 r)) (.bool true) (by kernel_rfl) (sayB h13) ?_
                  refine At.auto 5 (by kernel_rfl) ?_
                  refine At.say 95 (.int .i64 (IntKind.i64.wrap ((r.hard.log.length : Int) + 1))) (.int .i64 ((r.hard.log.length : Int) + 1)) (by kernel_rfl) (sayI _ (by omega)) ?_
                  refine At.call (impl_numbersIn_spec  r.next r.of_ 1 ((r.hard.log.length : Int) + 1) (by first | omega | (dsimp only; omega) | (simp only [List.length_map, List.length_append, List.length_take, List.length_drop, List.length_replicate, List.length_set, List.length_cons, List.length_nil]; omega))) Try.call89 true [] [] [] (by kernel_rfl) (by kernel_rfl) (by kernel_rfl) (by kernel_rfl) (by kernel_rfl) trivial ?_
                  refine At.auto 2 (by kernel_rfl) ?_
                  by_cases h14 : (allIn 1 ((r.hard.log.length : Int) + 1) r.next && ((r.next.length : Int) == r.of_)) = true
                  · refine At.say 98 (.bool (allIn 1 ((r.hard.log.length : Int) + 1) r.next && ((r.next.length : Int) == r.of_))) (.bool true) (by kernel_rfl) (sayB h14) ?_
                    refine At.auto 4 (by kernel_rfl) ?_
                    refine At.call (impl_numbersIn_spec  r.match_ r.of_ 0 (r.hard.log.length : Int) (by first | omega | (dsimp only; omega) | (simp only [List.length_map, List.length_append, List.length_take, List.length_drop, List.length_replicate, List.length_set, List.length_cons, List.length_nil]; omega))) Try.call89 true [] [] [] (by kernel_rfl) (by kernel_rfl) (by kernel_rfl) (by kernel_rfl) (by kernel_rfl) trivial ?_
                    refine At.auto 2 (by kernel_rfl) ?_
                    refine At.done rfl ?_
                    refine AW.ret ?_
                    refine ⟨_, Sub.refl _ _, ?_⟩
                    refine KF.conv (fun w => .bool w) (fun w => []) (show (allIn 0 (r.hard.log.length : Int) r.match_ && ((r.match_.length : Int) == r.of_)) = (raftOk r) from by grind [raft_all, raftOk3, allIn_zero]) ?_
                    exact KF.mk (.inr rfl) [] [.bool (allIn 0 (r.hard.log.length : Int) r.match_ && ((r.match_.length : Int) == r.of_))] (by kernel_rfl) (by kernel_rfl) (by kernel_rfl) (by kernel_rfl) (by kernel_rfl)
                  · refine At.say 98 (.bool (allIn 1 ((r.hard.log.length : Int) + 1) r.next && ((r.next.length : Int) == r.of_))) (.bool false) (by kernel_rfl) (sayB (Bool.eq_false_iff.2 h14)) ?_
                    replace h14 := Bool.eq_false_iff.2 h14
                    refine At.auto 7 (by kernel_rfl) ?_
                    refine At.done rfl ?_
                    refine AW.ret ?_
                    refine ⟨_, Sub.refl _ _, ?_⟩
                    refine KF.conv (fun w => .bool w) (fun w => []) (show (false) = (raftOk r) from by grind [raft_all, raftOk3, allIn_zero]) ?_
                    exact KF.mk (.inr rfl) [] [.bool false] (by kernel_rfl) (by kernel_rfl) (by kernel_rfl) (by kernel_rfl) (by kernel_rfl)
                · refine At.say 90 (.bool (raftI4 r)) (.bool false) (by kernel_rfl) (sayB (Bool.eq_false_iff.2 h13)) ?_
                  replace h13 := Bool.eq_false_iff.2 h13
                  refine At.auto 15 (by kernel_rfl) ?_
                  refine At.done rfl ?_
                  refine AW.ret ?_
                  refine ⟨_, Sub.refl _ _, ?_⟩
                  refine KF.conv (fun w => .bool w) (fun w => []) (show (false) = (raftOk r) from by grind [raft_all, raftOk3, allIn_zero]) ?_
                  exact KF.mk (.inr rfl) [] [.bool false] (by kernel_rfl) (by kernel_rfl) (by kernel_rfl) (by kernel_rfl) (by kernel_rfl)
              · have h10 : ¬ (r.role = 3) := by simpa using hb
                clear hb
                refine AW.skip ?_
                refine AW.seq ?_
                refine AW.cut [(101, 101)] [false, true, false, true, true] 5 (raftI4 r) ?_ ?_
                · skip
                  refine AW.region (At.start ?_)
                  refine At.auto 4 (by kernel_rfl) ?_
                  by_cases h15 : r.role = 1
                  · refine At.say 74 (.bool (r.role == 1)) (.bool true) (by kernel_rfl) (sayET h15) ?_
                    refine At.auto 15 (by kernel_rfl) ?_
                    refine At.say 5 (.bool true) (.bool (raftI4 r)) (by kernel_rfl) (congrArg V.bool (by grind [raftI4])) ?_
                    refine At.done rfl ⟨rfl, ?_⟩
                    exact Sub.cut [(101, 101)] [false, true, false, true, true] 5 _ (by kernel_rfl) (by kernel_rfl) (by kernel_rfl) (by kernel_rfl)
                  · refine At.say 74 (.bool (r.role == 1)) (.bool false) (by kernel_rfl) (sayEF h15) ?_
                    refine At.auto 5 (by kernel_rfl) ?_
                    by_cases h16 : r.hard.term ≥ 1
                    · refine At.say 79 (.bool (decide (r.hard.term ≥ 1))) (.bool true) (by kernel_rfl) (sayT h16) ?_
                      refine At.auto 6 (by kernel_rfl) ?_
                      refine At.say 85 (.int .i64 (IntKind.i64.wrap (r.id + 1))) (.int .i64 (r.id + 1)) (by kernel_rfl) (sayI _ (by omega)) ?_
                      refine At.auto 4 (by kernel_rfl) ?_
                      refine At.say 5 (.bool (r.hard.vote == (r.id + 1))) (.bool (raftI4 r)) (by kernel_rfl) (congrArg V.bool (by grind [raftI4])) ?_
                      refine At.done rfl ⟨rfl, ?_⟩
                      exact Sub.cut [(101, 101)] [false, true, false, true, true] 5 _ (by kernel_rfl) (by kernel_rfl) (by kernel_rfl) (by kernel_rfl)
                    · refine At.say 79 (.bool (decide (r.hard.term ≥ 1))) (.bool false) (by kernel_rfl) (sayF h16) ?_
                      refine At.auto 10 (by kernel_rfl) ?_
                      refine At.say 5 (.bool false) (.bool (raftI4 r)) (by kernel_rfl) (congrArg V.bool (by grind [raftI4])) ?_
                      refine At.done rfl ⟨rfl, ?_⟩
                      exact Sub.cut [(101, 101)] [false, true, false, true, true] 5 _ (by kernel_rfl) (by kernel_rfl) (by kernel_rfl) (by kernel_rfl)
                refine AW.seq ?_
                refine AW.region (At.start ?_)
                refine At.auto 2 (by kernel_rfl) ?_
                by_cases h17 : (raftI4 r) = true
                · refine At.say 90 (.bool (raftI4 r)) (.bool true) (by kernel_rfl) (sayB h17) ?_
                  refine At.auto 5 (by kernel_rfl) ?_
                  refine At.say 95 (.int .i64 (IntKind.i64.wrap ((r.hard.log.length : Int) + 1))) (.int .i64 ((r.hard.log.length : Int) + 1)) (by kernel_rfl) (sayI _ (by omega)) ?_
                  refine At.call (impl_numbersIn_spec  r.next 0 1 ((r.hard.log.length : Int) + 1) (by first | omega | (dsimp only; omega) | (simp only [List.length_map, List.length_append, List.length_take, List.length_drop, List.length_replicate, List.length_set, List.length_cons, List.length_nil]; omega))) Try.call89 true [] [] [] (by kernel_rfl) (by kernel_rfl) (by kernel_rfl) (by kernel_rfl) (by kernel_rfl) trivial ?_
                  refine At.auto 2 (by kernel_rfl) ?_
                  by_cases h18 : (allIn 1 ((r.hard.log.length : Int) + 1) r.next && ((r.next.length : Int) == 0)) = true
                  · refine At.say 98 (.bool (allIn 1 ((r.hard.log.length : Int) + 1) r.next && ((r.next.length : Int) == 0))) (.bool true) (by kernel_rfl) (sayB h18) ?_
                    refine At.auto 4 (by kernel_rfl) ?_
                    refine At.call (impl_numbersIn_spec  r.match_ 0 0 (r.hard.log.length : Int) (by first | omega | (dsimp only; omega) | (simp only [List.length_map, List.length_append, List.length_take, List.length_drop, List.length_replicate, List.length_set, List.length_cons, List.length_nil]; omega))) Try.call89 true [] [] [] (by kernel_rfl) (by kernel_rfl) (by kernel_rfl) (by kernel_rfl) (by kernel_rfl) trivial ?_
                    refine At.auto 2 (by kernel_rfl) ?_
                    refine At.done rfl ?_
                    refine AW.ret ?_
                    refine ⟨_, Sub.refl _ _, ?_⟩
                    refine KF.conv (fun w => .bool w) (fun w => []) (show (allIn 0 (r.hard.log.length : Int) r.match_ && ((r.match_.length : Int) == 0)) = (raftOk r) from by grind [raft_all, raftOk3, allIn_zero]) ?_
                    exact KF.mk (.inr rfl) [] [.bool (allIn 0 (r.hard.log.length : Int) r.match_ && ((r.match_.length : Int) == 0))] (by kernel_rfl) (by kernel_rfl) (by kernel_rfl) (by kernel_rfl) (by kernel_rfl)
                  · refine At.say 98 (.bool (allIn 1 ((r.hard.log.length : Int) + 1) r.next && ((r.next.length : Int) == 0))) (.bool false) (by kernel_rfl) (sayB (Bool.eq_false_iff.2 h18)) ?_
                    replace h18 := Bool.eq_false_iff.2 h18
                    refine At.auto 7 (by kernel_rfl) ?_
                    refine At.done rfl ?_
                    refine AW.ret ?_
                    refine ⟨_, Sub.refl _ _, ?_⟩
                    refine KF.conv (fun w => .bool w) (fun w => []) (show (false) = (raftOk r) from by grind [raft_all, raftOk3, allIn_zero]) ?_
                    exact KF.mk (.inr rfl) [] [.bool false] (by kernel_rfl) (by kernel_rfl) (by kernel_rfl) (by kernel_rfl) (by kernel_rfl)
                · refine At.say 90 (.bool (raftI4 r)) (.bool false) (by kernel_rfl) (sayB (Bool.eq_false_iff.2 h17)) ?_
                  replace h17 := Bool.eq_false_iff.2 h17
                  refine At.auto 15 (by kernel_rfl) ?_
                  refine At.done rfl ?_
                  refine AW.ret ?_
                  refine ⟨_, Sub.refl _ _, ?_⟩
                  refine KF.conv (fun w => .bool w) (fun w => []) (show (false) = (raftOk r) from by grind [raft_all, raftOk3, allIn_zero]) ?_
                  exact KF.mk (.inr rfl) [] [.bool false] (by kernel_rfl) (by kernel_rfl) (by kernel_rfl) (by kernel_rfl) (by kernel_rfl)
        · refine At.say 35 (.bool (!(hardOk r.hard))) (.bool true) (by kernel_rfl) (sayNT (sayB (Bool.eq_false_iff.2 h4))) ?_
          replace h4 := Bool.eq_false_iff.2 h4
          refine At.auto 6 (by kernel_rfl) ?_
          refine At.done rfl ?_
          refine AW.cond true (by kernel_rfl) (fun _ => ?_) (fun h => by cases h)
          refine AW.seq ?_
          refine AW.region (At.start ?_)
          refine At.auto 1 (by kernel_rfl) ?_
          refine At.done rfl ?_
          refine AW.ret ?_
          refine ⟨_, Sub.refl _ _, ?_⟩
          refine KF.conv (fun w => .bool w) (fun w => []) (show (false) = (raftOk r) from by grind [raft_all, raftOk3, allIn_zero]) ?_
          exact KF.mk (.inr rfl) [] [.bool false] (by kernel_rfl) (by kernel_rfl) (by kernel_rfl) (by kernel_rfl) (by kernel_rfl)
      · refine At.say 29 (.bool (!(inR r.role 1 3))) (.bool true) (by kernel_rfl) (sayNT (sayB (Bool.eq_false_iff.2 h3))) ?_
        replace h3 := Bool.eq_false_iff.2 h3
        refine At.auto 12 (by kernel_rfl) ?_
        refine At.done rfl ?_
        refine AW.cond true (by kernel_rfl) (fun _ => ?_) (fun h => by cases h)
        refine AW.seq ?_
        refine AW.region (At.start ?_)
        refine At.auto 1 (by kernel_rfl) ?_
        refine At.done rfl ?_
        refine AW.ret ?_
        refine ⟨_, Sub.refl _ _, ?_⟩
        refine KF.conv (fun w => .bool w) (fun w => []) (show (false) = (raftOk r) from by grind [raft_all, raftOk3, allIn_zero]) ?_
        exact KF.mk (.inr rfl) [] [.bool false] (by kernel_rfl) (by kernel_rfl) (by kernel_rfl) (by kernel_rfl) (by kernel_rfl)
    · refine At.say 23 (.bool (!(inR r.id 0 (r.of_ - 1)))) (.bool true) (by kernel_rfl) (sayNT (sayB (Bool.eq_false_iff.2 h2))) ?_
      replace h2 := Bool.eq_false_iff.2 h2
      refine At.auto 18 (by kernel_rfl) ?_
      refine At.done rfl ?_
      refine AW.cond true (by kernel_rfl) (fun _ => ?_) (fun h => by cases h)
      refine AW.seq ?_
      refine AW.region (At.start ?_)
      refine At.auto 1 (by kernel_rfl) ?_
      refine At.done rfl ?_
      refine AW.ret ?_
      refine ⟨_, Sub.refl _ _, ?_⟩
      refine KF.conv (fun w => .bool w) (fun w => []) (show (false) = (raftOk r) from by grind [raft_all, raftOk3, allIn_zero]) ?_
      exact KF.mk (.inr rfl) [] [.bool false] (by kernel_rfl) (by kernel_rfl) (by kernel_rfl) (by kernel_rfl) (by kernel_rfl)
  · refine At.say 14 (.bool (!(ofOk r.of_))) (.bool true) (by kernel_rfl) (sayNT (sayB (Bool.eq_false_iff.2 h1))) ?_
    replace h1 := Bool.eq_false_iff.2 h1
    refine At.auto 27 (by kernel_rfl) ?_
    refine At.done rfl ?_
    refine AW.cond true (by kernel_rfl) (fun _ => ?_) (fun h => by cases h)
    refine AW.seq ?_
    refine AW.region (At.start ?_)
    refine At.auto 1 (by kernel_rfl) ?_
    refine At.done rfl ?_
    refine AW.ret ?_
    refine ⟨_, Sub.refl _ _, ?_⟩
    refine KF.conv (fun w => .bool w) (fun w => []) (show (false) = (raftOk r) from by grind [raft_all, raftOk3, allIn_zero]) ?_
    exact KF.mk (.inr rfl) [] [.bool false] (by kernel_rfl) (by kernel_rfl) (by kernel_rfl) (by kernel_rfl) (by kernel_rfl)
set_option maxRecDepth 100000 in
set_option maxHeartbeats 4000000 in
theorem impl_stepper_none_spec  (s : Stepper) (hz : SmallR s.was) : FnSpec Try.prog 56 [.ptr 0 0 0] [.box 73 [.int .i64 s.r.id, .int .i64 s.r.of_, .int .i64 s.r.role, .int .i64 s.r.commit, .int .i64 s.r.hard.term, .int .i64 s.r.hard.vote, .ref 1, .ref 2, .ref 3, .ref 4, .int .i64 s.was.id, .int .i64 s.was.of_, .int .i64 s.was.role, .int .i64 s.was.commit, .int .i64 s.was.hard.term, .int .i64 s.was.hard.vote, .sl false 6 (s.was.hard.log.map encEnt), .sl false 1 (s.was.yes.map encI), .sl false 1 (s.was.next.map encI), .sl false 1 (s.was.match_.map encI), .ref 5, .ref 6], .arr 88 6 (s.r.hard.log.map encEnt), .arr 3 1 (s.r.yes.map encI), .arr 3 1 (s.r.next.map encI), .arr 3 1 (s.r.match_.map encI), .arr 93 10 (s.recs.map encRec), .arr 76 17 (s.outs.map encOut)] (.tup [.agg [.int .i64 ((same s.was).id), .int .i64 ((same s.was).of_), .int .i64 ((same s.was).role), .int .i64 ((same s.was).commit), .int .i64 ((same s.was).hard.term), .int .i64 ((same s.was).hard.vote), .ref 7, .ref 8, .ref 9, .ref 10], .ref 11, .ref 12]) [.box 73 [.int .i64 s.r.id, .int .i64 s.r.of_, .int .i64 s.r.role, .int .i64 s.r.commit, .int .i64 s.r.hard.term, .int .i64 s.r.hard.vote, .ref 1, .ref 2, .ref 3, .ref 4, .int .i64 s.was.id, .int .i64 s.was.of_, .int .i64 s.was.role, .int .i64 s.was.commit, .int .i64 s.was.hard.term, .int .i64 s.was.hard.vote, .sl false 6 (s.was.hard.log.map encEnt), .sl false 1 (s.was.yes.map encI), .sl false 1 (s.was.next.map encI), .sl false 1 (s.was.match_.map encI), .ref 5, .ref 6], .arr 88 6 (s.r.hard.log.map encEnt), .arr 3 1 (s.r.yes.map encI), .arr 3 1 (s.r.next.map encI), .arr 3 1 (s.r.match_.map encI), .arr 93 10 (s.recs.map encRec), .arr 76 17 (s.outs.map encOut), .arr 88 6 (((same s.was).hard.log).map encEnt), .arr 3 1 (((same s.was).yes).map encI), .arr 3 1 (((same s.was).next).map encI), .arr 3 1 (((same s.was).match_).map encI), .arr 93 10 [], .arr 76 17 []] := by
  obtain ⟨z1, z2, z3, z4⟩ := id hz
  refine FnSpec.of 17 Try.func56 rfl Try.ntmps56 (by simp) (AW.weakK ?_)
  refine AW.seq ?_
  refine AW.region (At.start ?_)
  refine At.auto 3 (by kernel_rfl) ?_
  refine At.done rfl ?_
  refine AW.seq ?_
  refine AW.seq ?_
  refine AW.weak (Sub.nils [⟨true, 102, some 6, 5001, 88, 6⟩, ⟨true, 102, some 7, 5002, 3, 1⟩, ⟨true, 102, some 8, 5003, 3, 1⟩, ⟨true, 102, some 9, 5004, 3, 1⟩] (by kernel_rfl)) ?_
  refine AW.region (At.start ?_)
  refine At.auto 4 (by kernel_rfl) ?_
  refine At.call (impl_RaftOk_spec  s.was hz) Try.call40 true [] [] [] (by kernel_rfl) (by kernel_rfl) (by kernel_rfl) (by kernel_rfl) (by kernel_rfl) trivial ?_
  refine At.auto 1 (by kernel_rfl) ?_
  refine At.done rfl ?_
  refine AW.cond (!(raftOk s.was)) (by kernel_rfl) (fun hb => ?_) (fun hb => ?_)
  · have h1 : (raftOk s.was) = false := by simpa using hb
    clear hb
    refine AW.seq ?_
    refine AW.region (At.start ?_)
    refine At.auto 4 (by kernel_rfl) ?_
    refine At.done rfl ?_
    refine AW.ret ?_
    refine ⟨_, Sub.nils [⟨true, 102, some 6, 5005, 88, 6⟩, ⟨true, 102, some 7, 5006, 3, 1⟩, ⟨true, 102, some 8, 5007, 3, 1⟩, ⟨true, 102, some 9, 5008, 3, 1⟩, ⟨false, 3, none, 5009, 93, 10⟩, ⟨false, 4, none, 5010, 76, 17⟩] (by kernel_rfl), ?_⟩
    refine KF.conv (fun w => .tup [.agg [.int .i64 w.id, .int .i64 w.of_, .int .i64 w.role, .int .i64 w.commit, .int .i64 w.hard.term, .int .i64 w.hard.vote, .ref 7, .ref 8, .ref 9, .ref 10], .ref 11, .ref 12]) (fun w => [.box 73 [.int .i64 s.r.id, .int .i64 s.r.of_, .int .i64 s.r.role, .int .i64 s.r.commit, .int .i64 s.r.hard.term, .int .i64 s.r.hard.vote, .ref 1, .ref 2, .ref 3, .ref 4, .int .i64 s.was.id, .int .i64 s.was.of_, .int .i64 s.was.role, .int .i64 s.was.commit, .int .i64 s.was.hard.term, .int .i64 s.was.hard.vote, .sl false 6 (s.was.hard.log.map encEnt), .sl false 1 (s.was.yes.map encI), .sl false 1 (s.was.next.map encI), .sl false 1 (s.was.match_.map encI), .ref 5, .ref 6], .arr 88 6 (s.r.hard.log.map encEnt), .arr 3 1 (s.r.yes.map encI), .arr 3 1 (s.r.next.map encI), .arr 3 1 (s.r.match_.map encI), .arr 93 10 (s.recs.map encRec), .arr 76 17 (s.outs.map encOut), .arr 88 6 (w.hard.log.map encEnt), .arr 3 1 (w.yes.map encI), .arr 3 1 (w.next.map encI), .arr 3 1 (w.match_.map encI), .arr 93 10 [], .arr 76 17 []]) (show ((⟨0, 0, 0, 0, ⟨0, 0, []⟩, [], [], []⟩ : Raft)) = (same s.was) from by simp only [same, h1, if_true] <;> rfl) ?_
    exact KF.mk (.inr rfl) [(0, 0), (1, 1), (2, 2), (3, 3), (4, 4), (5, 5), (6, 6), (5005, 7), (5006, 8), (5007, 9), (5008, 10), (5009, 11), (5010, 12)] [.agg [.int .i64 0, .int .i64 0, .int .i64 0, .int .i64 0, .int .i64 0, .int .i64 0, .ref 5005, .ref 5006, .ref 5007, .ref 5008], .ref 5009, .ref 5010] (by kernel_rfl) (by kernel_rfl) (by kernel_rfl) (by kernel_rfl) (by kernel_rfl)
  · have h1 : (raftOk s.was) = true := by simpa using hb
    clear hb
    have h1n := raftOk1_nums (raftOk_1 h1)
    refine AW.skip ?_
    refine AW.seq ?_
    refine AW.region (At.start ?_)
    refine At.auto 4 (by kernel_rfl) ?_
    refine At.call (impl_copyRaft_spec  s.was hz) Try.call83 true [] [(1320, 0), (1321, 1), (1322, 2), (1323, 3)] [] (by kernel_rfl) (by kernel_rfl) (by kernel_rfl) (by kernel_rfl) (by kernel_rfl) trivial ?_
    refine At.auto 3 (by kernel_rfl) ?_
    refine At.done rfl ?_
    refine AW.ret ?_
    refine ⟨_, Sub.nils [⟨false, 3, none, 5011, 93, 10⟩, ⟨false, 4, none, 5012, 76, 17⟩] (by kernel_rfl), ?_⟩
    refine KF.conv (fun w => .tup [.agg [.int .i64 w.id, .int .i64 w.of_, .int .i64 w.role, .int .i64 w.commit, .int .i64 w.hard.term, .int .i64 w.hard.vote, .ref 7, .ref 8, .ref 9, .ref 10], .ref 11, .ref 12]) (fun w => [.box 73 [.int .i64 s.r.id, .int .i64 s.r.of_, .int .i64 s.r.role, .int .i64 s.r.commit, .int .i64 s.r.hard.term, .int .i64 s.r.hard.vote, .ref 1, .ref 2, .ref 3, .ref 4, .int .i64 s.was.id, .int .i64 s.was.of_, .int .i64 s.was.role, .int .i64 s.was.commit, .int .i64 s.was.hard.term, .int .i64 s.was.hard.vote, .sl false 6 (s.was.hard.log.map encEnt), .sl false 1 (s.was.yes.map encI), .sl false 1 (s.was.next.map encI), .sl false 1 (s.was.match_.map encI), .ref 5, .ref 6], .arr 88 6 (s.r.hard.log.map encEnt), .arr 3 1 (s.r.yes.map encI), .arr 3 1 (s.r.next.map encI), .arr 3 1 (s.r.match_.map encI), .arr 93 10 (s.recs.map encRec), .arr 76 17 (s.outs.map encOut), .arr 88 6 (w.hard.log.map encEnt), .arr 3 1 (w.yes.map encI), .arr 3 1 (w.next.map encI), .arr 3 1 (w.match_.map encI), .arr 93 10 [], .arr 76 17 []]) (show (s.was) = (same s.was) from by simp only [same, h1, if_true] <;> rfl) ?_
    exact KF.mk (.inr rfl) [(0, 0), (1, 1), (2, 2), (3, 3), (4, 4), (5, 5), (6, 6), (1320, 7), (1321, 8), (1322, 9), (1323, 10), (5011, 11), (5012, 12)] [.agg [.int .i64 s.was.id, .int .i64 s.was.of_, .int .i64 s.was.role, .int .i64 s.was.commit, .int .i64 s.was.hard.term, .int .i64 s.was.hard.vote, .ref 1320, .ref 1321, .ref 1322, .ref 1323], .ref 5011, .ref 5012] (by kernel_rfl) (by kernel_rfl) (by kernel_rfl) (by kernel_rfl) (by kernel_rfl)
set_option maxRecDepth 100000 in
set_option maxHeartbeats 4000000 in
theorem impl_stepper_none_T_spec  (s : Stepper) (hz : SmallR s.was) (hok : raftOk s.was = true) : FnSpec Try.prog 56 [.ptr 0 0 0] [.box 73 [.int .i64 s.r.id, .int .i64 s.r.of_, .int .i64 s.r.role, .int .i64 s.r.commit, .int .i64 s.r.hard.term, .int .i64 s.r.hard.vote, .ref 1, .ref 2, .ref 3, .ref 4, .int .i64 s.was.id, .int .i64 s.was.of_, .int .i64 s.was.role, .int .i64 s.was.commit, .int .i64 s.was.hard.term, .int .i64 s.was.hard.vote, .sl false 6 (s.was.hard.log.map encEnt), .sl false 1 (s.was.yes.map encI), .sl false 1 (s.was.next.map encI), .sl false 1 (s.was.match_.map encI), .ref 5, .ref 6], .arr 88 6 (s.r.hard.log.map encEnt), .arr 3 1 (s.r.yes.map encI), .arr 3 1 (s.r.next.map encI), .arr 3 1 (s.r.match_.map encI), .arr 93 10 (s.recs.map encRec), .arr 76 17 (s.outs.map encOut)] (.tup [.agg [.int .i64 s.was.id, .int .i64 s.was.of_, .int .i64 s.was.role, .int .i64 s.was.commit, .int .i64 s.was.hard.term, .int .i64 s.was.hard.vote, .ref 7, .ref 8, .ref 9, .ref 10], .ref 11, .ref 12]) [.box 73 [.int .i64 s.r.id, .int .i64 s.r.of_, .int .i64 s.r.role, .int .i64 s.r.commit, .int .i64 s.r.hard.term, .int .i64 s.r.hard.vote, .ref 1, .ref 2, .ref 3, .ref 4, .int .i64 s.was.id, .int .i64 s.was.of_, .int .i64 s.was.role, .int .i64 s.was.commit, .int .i64 s.was.hard.term, .int .i64 s.was.hard.vote, .sl false 6 (s.was.hard.log.map encEnt), .sl false 1 (s.was.yes.map encI), .sl false 1 (s.was.next.map encI), .sl false 1 (s.was.match_.map encI), .ref 5, .ref 6], .arr 88 6 (s.r.hard.log.map encEnt), .arr 3 1 (s.r.yes.map encI), .arr 3 1 (s.r.next.map encI), .arr 3 1 (s.r.match_.map encI), .arr 93 10 (s.recs.map encRec), .arr 76 17 (s.outs.map encOut), .arr 88 6 (s.was.hard.log.map encEnt), .arr 3 1 (s.was.yes.map encI), .arr 3 1 (s.was.next.map encI), .arr 3 1 (s.was.match_.map encI), .arr 93 10 [], .arr 76 17 []] := by have := impl_stepper_none_spec s hz; rw [show same s.was = s.was from if_pos hok] at this; exact this
set_option maxRecDepth 100000 in
set_option maxHeartbeats 4000000 in
theorem impl_stepper_none_F_spec  (s : Stepper) (hz : SmallR s.was) (hok : ¬ raftOk s.was = true) : FnSpec Try.prog 56 [.ptr 0 0 0] [.box 73 [.int .i64 s.r.id, .int .i64 s.r.of_, .int .i64 s.r.role, .int .i64 s.r.commit, .int .i64 s.r.hard.term, .int .i64 s.r.hard.vote, .ref 1, .ref 2, .ref 3, .ref 4, .int .i64 s.was.id, .int .i64 s.was.of_, .int .i64 s.was.role, .int .i64 s.was.commit, .int .i64 s.was.hard.term, .int .i64 s.was.hard.vote, .sl false 6 (s.was.hard.log.map encEnt), .sl false 1 (s.was.yes.map encI), .sl false 1 (s.was.next.map encI), .sl false 1 (s.was.match_.map encI), .ref 5, .ref 6], .arr 88 6 (s.r.hard.log.map encEnt), .arr 3 1 (s.r.yes.map encI), .arr 3 1 (s.r.next.map encI), .arr 3 1 (s.r.match_.map encI), .arr 93 10 (s.recs.map encRec), .arr 76 17 (s.outs.map encOut)] (.tup [.agg [.int .i64 0, .int .i64 0, .int .i64 0, .int .i64 0, .int .i64 0, .int .i64 0, .ref 7, .ref 8, .ref 9, .ref 10], .ref 11, .ref 12]) [.box 73 [.int .i64 s.r.id, .int .i64 s.r.of_, .int .i64 s.r.role, .int .i64 s.r.commit, .int .i64 s.r.hard.term, .int .i64 s.r.hard.vote, .ref 1, .ref 2, .ref 3, .ref 4, .int .i64 s.was.id, .int .i64 s.was.of_, .int .i64 s.was.role, .int .i64 s.was.commit, .int .i64 s.was.hard.term, .int .i64 s.was.hard.vote, .sl false 6 (s.was.hard.log.map encEnt), .sl false 1 (s.was.yes.map encI), .sl false 1 (s.was.next.map encI), .sl false 1 (s.was.match_.map encI), .ref 5, .ref 6], .arr 88 6 (s.r.hard.log.map encEnt), .arr 3 1 (s.r.yes.map encI), .arr 3 1 (s.r.next.map encI), .arr 3 1 (s.r.match_.map encI), .arr 93 10 (s.recs.map encRec), .arr 76 17 (s.outs.map encOut), .arr 88 6 [], .arr 3 1 [], .arr 3 1 [], .arr 3 1 [], .arr 93 10 [], .arr 76 17 []] := by have := impl_stepper_none_spec s hz; rw [show same s.was = zRaft from if_neg hok] at this; exact this
set_option maxRecDepth 100000 in
set_option maxHeartbeats 4000000 in
theorem impl_stepper_put_spec  (s : Stepper) (e : Ent) (hl : s.r.hard.log.length ≤ 1048576) (hr : s.recs.length ≤ 1048576) : FnSpec Try.prog 57 [.ptr 0 0 0, .agg [.int .i64 e.term, .int .i64 e.cmd.kind, .int .i64 e.cmd.release, .int .i64 e.cmd.node, .int .i64 e.cmd.size, .str e.cmd.digest]] [.box 73 [.int .i64 s.r.id, .int .i64 s.r.of_, .int .i64 s.r.role, .int .i64 s.r.commit, .int .i64 s.r.hard.term, .int .i64 s.r.hard.vote, .ref 1, .ref 2, .ref 3, .ref 4, .int .i64 s.was.id, .int .i64 s.was.of_, .int .i64 s.was.role, .int .i64 s.was.commit, .int .i64 s.was.hard.term, .int .i64 s.was.hard.vote, .sl false 6 (s.was.hard.log.map encEnt), .sl false 1 (s.was.yes.map encI), .sl false 1 (s.was.next.map encI), .sl false 1 (s.was.match_.map encI), .ref 5, .ref 6], .arr 88 6 (s.r.hard.log.map encEnt), .arr 3 1 (s.r.yes.map encI), .arr 3 1 (s.r.next.map encI), .arr 3 1 (s.r.match_.map encI), .arr 93 10 (s.recs.map encRec), .arr 76 17 (s.outs.map encOut)] (.tup []) [.box 73 [.int .i64 s.r.id, .int .i64 s.r.of_, .int .i64 s.r.role, .int .i64 s.r.commit, .int .i64 s.r.hard.term, .int .i64 s.r.hard.vote, .ref 7, .ref 2, .ref 3, .ref 4, .int .i64 s.was.id, .int .i64 s.was.of_, .int .i64 s.was.role, .int .i64 s.was.commit, .int .i64 s.was.hard.term, .int .i64 s.was.hard.vote, .sl false 6 (s.was.hard.log.map encEnt), .sl false 1 (s.was.yes.map encI), .sl false 1 (s.was.next.map encI), .sl false 1 (s.was.match_.map encI), .ref 8, .ref 6], .dead, .arr 3 1 (s.r.yes.map encI), .arr 3 1 (s.r.next.map encI), .arr 3 1 (s.r.match_.map encI), .dead, .arr 76 17 (s.outs.map encOut), .arr 88 6 ((s.r.hard.log ++ [e]).map encEnt), .arr 93 10 ((s.recs ++ [(⟨2, 0, 0, ((s.r.hard.log ++ [e]).length : Int), e⟩ : Rec)]).map encRec)] := by
  refine FnSpec.of 36 Try.func57 rfl Try.ntmps57 (by simp) (AW.weakK ?_)
  refine AW.seq ?_
  refine AW.region (At.start ?_)
  refine At.auto 1 (by kernel_rfl) ?_
  refine At.done rfl ?_
  refine AW.seq ?_
  refine AW.regionD Try_mix (At.start ?_)
  refine At.auto 8 (by kernel_rfl) ?_
  refine At.litK (t := 31) (d := 12) (e := 88) (es := 6) (bytes := 56) (n := 1) (parts := #[(0, .tmp 11)]) (88, 6) 112 [] [.int .i64 e.term, .int .i64 e.cmd.kind, .int .i64 e.cmd.release, .int .i64 e.cmd.node, .int .i64 e.cmd.size, .str e.cmd.digest] [.int .i64 e.term, .int .i64 e.cmd.kind, .int .i64 e.cmd.release, .int .i64 e.cmd.node, .int .i64 e.cmd.size, .str e.cmd.digest] [.int .i64 0, .int .i64 0, .int .i64 0, .int .i64 0, .int .i64 0, .str (⟨#[]⟩)] [.agg [.int .i64 e.term, .int .i64 e.cmd.kind, .int .i64 e.cmd.release, .int .i64 e.cmd.node, .int .i64 e.cmd.size, .str e.cmd.digest]] [] (by kernel_rfl) (by kernel_rfl) (by kernel_rfl) (by kernel_rfl) rfl (fun p hp => by cases hp) (by kernel_rfl) ?_
  refine At.append (t := 31) (d := 13) (e := 88) (es := 6) (bytes := 56) (s := .tmp 10) (x := .tmp 12) (S := .ref 1) (T := .ref 112) (xs := (s.r.hard.log.map encEnt)) (ys := (([e]).map encEnt)) 113 [1] [112] ((s.r.hard.log ++ ([e])).map encEnt) (by kernel_rfl) (by kernel_rfl) (by kernel_rfl) (by kernel_rfl) ⟨by kernel_rfl, rfl⟩ ⟨by kernel_rfl, .inr rfl⟩ (by kernel_rfl) (by kernel_rfl) (by simp) (by first | omega | (simp only [List.length_map, List.length_append, List.length_take, List.length_drop, List.length_replicate, List.length_set, List.length_cons, List.length_nil]; omega)) (by first | omega | (simp only [List.length_map, List.length_append, List.length_take, List.length_drop, List.length_replicate, List.length_set, List.length_cons, List.length_nil]; omega)) ?_
  refine At.auto 5 (by kernel_rfl) ?_
  refine At.done rfl ⟨by kernel_rfl, ?_⟩
  refine AW.regionD Try_mix (At.start ?_)
  refine At.auto 12 (by kernel_rfl) ?_
  refine At.say 29 (.int .i64 ((((s.r.hard.log ++ ([e])).map encEnt).length : Nat) : Int)) (.int .i64 ((s.r.hard.log ++ ([e])).length : Int)) (by kernel_rfl) (sayLen _ _) ?_
  refine At.auto 2 (by kernel_rfl) ?_
  refine At.litK (t := 45) (d := 32) (e := 93) (es := 10) (bytes := 88) (n := 1) (parts := #[(0, .tmp 31)]) (88, 6) 132 [] [.int .i64 2, .int .i64 0, .int .i64 0, .int .i64 ((s.r.hard.log ++ ([e])).length : Int), .int .i64 e.term, .int .i64 e.cmd.kind, .int .i64 e.cmd.release, .int .i64 e.cmd.node, .int .i64 e.cmd.size, .str e.cmd.digest] [.int .i64 2, .int .i64 0, .int .i64 0, .int .i64 ((s.r.hard.log ++ ([e])).length : Int), .int .i64 e.term, .int .i64 e.cmd.kind, .int .i64 e.cmd.release, .int .i64 e.cmd.node, .int .i64 e.cmd.size, .str e.cmd.digest] [.int .i64 0, .int .i64 0, .int .i64 0, .int .i64 0, .int .i64 0, .int .i64 0, .int .i64 0, .int .i64 0, .int .i64 0, .str (⟨#[]⟩)] [.agg [.int .i64 2, .int .i64 0, .int .i64 0, .int .i64 ((s.r.hard.log ++ ([e])).length : Int), .int .i64 e.term, .int .i64 e.cmd.kind, .int .i64 e.cmd.release, .int .i64 e.cmd.node, .int .i64 e.cmd.size, .str e.cmd.digest]] [] (by kernel_rfl) (by kernel_rfl) (by kernel_rfl) (by kernel_rfl) rfl (fun p hp => by cases hp) (by kernel_rfl) ?_
  refine At.append (t := 45) (d := 33) (e := 93) (es := 10) (bytes := 88) (s := .tmp 22) (x := .tmp 32) (S := .ref 5) (T := .ref 132) (xs := (s.recs.map encRec)) (ys := (([(⟨2, 0, 0, ((s.r.hard.log ++ ([e])).length : Int), e⟩ : Rec)]).map encRec)) 133 [5] [132] ((s.recs ++ ([(⟨2, 0, 0, ((s.r.hard.log ++ ([e])).length : Int), e⟩ : Rec)])).map encRec) (by kernel_rfl) (by kernel_rfl) (by kernel_rfl) (by kernel_rfl) ⟨by kernel_rfl, rfl⟩ ⟨by kernel_rfl, .inr rfl⟩ (by kernel_rfl) (by kernel_rfl) (by simp) (by first | omega | (simp only [List.length_map, List.length_append, List.length_take, List.length_drop, List.length_replicate, List.length_set, List.length_cons, List.length_nil]; omega)) (by first | omega | (simp only [List.length_map, List.length_append, List.length_take, List.length_drop, List.length_replicate, List.length_set, List.length_cons, List.length_nil]; omega)) ?_
  refine At.auto 3 (by kernel_rfl) ?_
  refine At.done rfl ⟨by kernel_rfl, ?_⟩
  refine ⟨_, Sub.refl _ _, ?_⟩
  refine KF.conv (fun w => .tup []) (fun w => [.box 73 [.int .i64 w.r.id, .int .i64 w.r.of_, .int .i64 w.r.role, .int .i64 w.r.commit, .int .i64 w.r.hard.term, .int .i64 w.r.hard.vote, .ref 7, .ref 2, .ref 3, .ref 4, .int .i64 w.was.id, .int .i64 w.was.of_, .int .i64 w.was.role, .int .i64 w.was.commit, .int .i64 w.was.hard.term, .int .i64 w.was.hard.vote, .sl false 6 (w.was.hard.log.map encEnt), .sl false 1 (w.was.yes.map encI), .sl false 1 (w.was.next.map encI), .sl false 1 (w.was.match_.map encI), .ref 8, .ref 6], .dead, .arr 3 1 (w.r.yes.map encI), .arr 3 1 (w.r.next.map encI), .arr 3 1 (w.r.match_.map encI), .dead, .arr 76 17 (w.outs.map encOut), .arr 88 6 (w.r.hard.log.map encEnt), .arr 93 10 (w.recs.map encRec)]) (show ((⟨⟨s.r.id, s.r.of_, s.r.role, s.r.commit, ⟨s.r.hard.term, s.r.hard.vote, s.r.hard.log ++ ([e])⟩, s.r.yes, s.r.next, s.r.match_⟩, s.was, s.recs ++ ([(⟨2, 0, 0, ((s.r.hard.log ++ ([e])).length : Int), e⟩ : Rec)]), s.outs⟩ : Stepper)) = (({ s with r := ({ s.r with hard := { s.r.hard with log := s.r.hard.log ++ [e] } } : Raft), recs := s.recs ++ [(⟨2, 0, 0, ((s.r.hard.log ++ [e]).length : Int), e⟩ : Rec)] } : Stepper)) from by first | rfl | simp [put, putRec]) ?_
  exact KF.mk (.inl rfl) [(0, 0), (1, 1), (2, 2), (3, 3), (4, 4), (5, 5), (6, 6), (113, 7), (133, 8)] [] (by kernel_rfl) (by kernel_rfl) (by kernel_rfl) (by kernel_rfl) (by kernel_rfl)
set_option maxRecDepth 100000 in
set_option maxHeartbeats 4000000 in
theorem impl_stepper_had_spec  (s : Stepper) (hi : 0 ≤ s.r.id ∧ s.r.id < s.r.match_.length) : FnSpec Try.prog 58 [.ptr 0 0 0] [.box 73 [.int .i64 s.r.id, .int .i64 s.r.of_, .int .i64 s.r.role, .int .i64 s.r.commit, .int .i64 s.r.hard.term, .int .i64 s.r.hard.vote, .ref 1, .ref 2, .ref 3, .ref 4, .int .i64 s.was.id, .int .i64 s.was.of_, .int .i64 s.was.role, .int .i64 s.was.commit, .int .i64 s.was.hard.term, .int .i64 s.was.hard.vote, .sl false 6 (s.was.hard.log.map encEnt), .sl false 1 (s.was.yes.map encI), .sl false 1 (s.was.next.map encI), .sl false 1 (s.was.match_.map encI), .ref 5, .ref 6], .arr 88 6 (s.r.hard.log.map encEnt), .arr 3 1 (s.r.yes.map encI), .arr 3 1 (s.r.next.map encI), .arr 3 1 (s.r.match_.map encI), .arr 93 10 (s.recs.map encRec), .arr 76 17 (s.outs.map encOut)] (.tup []) [.box 73 [.int .i64 s.r.id, .int .i64 s.r.of_, .int .i64 s.r.role, .int .i64 (if s.r.of_ = 1 then (s.r.hard.log.length : Int) else s.r.commit), .int .i64 s.r.hard.term, .int .i64 s.r.hard.vote, .ref 1, .ref 2, .ref 3, .ref 4, .int .i64 s.was.id, .int .i64 s.was.of_, .int .i64 s.was.role, .int .i64 s.was.commit, .int .i64 s.was.hard.term, .int .i64 s.was.hard.vote, .sl false 6 (s.was.hard.log.map encEnt), .sl false 1 (s.was.yes.map encI), .sl false 1 (s.was.next.map encI), .sl false 1 (s.was.match_.map encI), .ref 5, .ref 6], .arr 88 6 (s.r.hard.log.map encEnt), .arr 3 1 (s.r.yes.map encI), .arr 3 1 (s.r.next.map encI), .arr 3 1 ((s.r.match_.set (s.r.id).toNat (s.r.hard.log.length : Int)).map encI), .arr 93 10 (s.recs.map encRec), .arr 76 17 (s.outs.map encOut)] := by
  refine FnSpec.of 33 Try.func58 rfl Try.ntmps58 (by simp) (AW.weakK ?_)
  refine AW.seq ?_
  refine AW.region (At.start ?_)
  refine At.auto 7 (by kernel_rfl) ?_
  refine At.say 9 (.int .i64 (((s.r.hard.log.map encEnt).length : Nat) : Int)) (.int .i64 (s.r.hard.log.length : Int)) (by kernel_rfl) (sayLen _ _) ?_
  refine At.auto 1 (by kernel_rfl) ?_
  refine At.done rfl ?_
  refine AW.seq ?_
  refine AW.regionD Try_mix (At.start ?_)
  refine At.auto 11 (by kernel_rfl) ?_
  refine At.idxRef (t := 25) (d := 21) (x := .tmp 14) (y := .tmp 19) (j := 4) (xs := (s.r.match_.map encI)) (kd := .i64) (i := s.r.id) (e := 3) (es := 1) (by kernel_rfl) (by kernel_rfl) (by kernel_rfl) (by kernel_rfl) (by kernel_rfl) (by omega) (by first | omega | (simp only [List.length_map, List.length_append, List.length_take, List.length_drop, List.length_replicate, List.length_set, List.length_cons, List.length_nil]; omega)) ?_
  refine Exists.elim (show ∃ e, s.r.match_[(s.r.id).toNat]? = some e from ⟨_, List.getElem?_eq_getElem (by first | omega | (simp only [List.length_map, List.length_append, List.length_take, List.length_drop, List.length_replicate, List.length_set, List.length_cons, List.length_nil]; omega))⟩) fun e1 he1 => ?_
  refine At.stEl (t := 3) (i := 4) (e := 3) (es := 1) (j := (s.r.id).toNat) (off := 0) (x := .tmp 21) (y := .tmp 20) (xs := (s.r.match_.map encI)) (xs' := ((s.r.match_.set ((s.r.id).toNat) (s.r.hard.log.length : Int)).map encI)) (ys := [.int .i64 (s.r.hard.log.length : Int)]) (v := .int .i64 (s.r.hard.log.length : Int)) (encI e1) (encI (s.r.hard.log.length : Int)) (by kernel_rfl) (by kernel_rfl) (by kernel_rfl) (by kernel_rfl) (by kernel_rfl) (mapGet he1) (by kernel_rfl) setV ?_
  refine At.done rfl ⟨by kernel_rfl, ?_⟩
  refine AW.seq ?_
  refine AW.region (At.start ?_)
  refine At.auto 6 (by kernel_rfl) ?_
  refine At.done rfl ?_
  refine AW.cond (s.r.of_ == 1) (by kernel_rfl) (fun hb => ?_) (fun hb => ?_)
  · have h1 : s.r.of_ = 1 := by simpa using hb
    clear hb
    refine AW.region (At.start ?_)
    refine At.auto 6 (by kernel_rfl) ?_
    refine At.done rfl ?_
    refine ⟨_, Sub.refl _ _, ?_⟩
    refine KF.conv (fun w => .tup []) (fun w => [.box 73 [.int .i64 w.r.id, .int .i64 w.r.of_, .int .i64 w.r.role, .int .i64 w.r.commit, .int .i64 w.r.hard.term, .int .i64 w.r.hard.vote, .ref 1, .ref 2, .ref 3, .ref 4, .int .i64 w.was.id, .int .i64 w.was.of_, .int .i64 w.was.role, .int .i64 w.was.commit, .int .i64 w.was.hard.term, .int .i64 w.was.hard.vote, .sl false 6 (w.was.hard.log.map encEnt), .sl false 1 (w.was.yes.map encI), .sl false 1 (w.was.next.map encI), .sl false 1 (w.was.match_.map encI), .ref 5, .ref 6], .arr 88 6 (w.r.hard.log.map encEnt), .arr 3 1 (w.r.yes.map encI), .arr 3 1 (w.r.next.map encI), .arr 3 1 (w.r.match_.map encI), .arr 93 10 (w.recs.map encRec), .arr 76 17 (w.outs.map encOut)]) (show ((⟨⟨s.r.id, s.r.of_, s.r.role, (s.r.hard.log.length : Int), ⟨s.r.hard.term, s.r.hard.vote, s.r.hard.log⟩, s.r.yes, s.r.next, s.r.match_.set ((s.r.id).toNat) (s.r.hard.log.length : Int)⟩, s.was, s.recs, s.outs⟩ : Stepper)) = (({ s with r := ({ s.r with match_ := s.r.match_.set (s.r.id).toNat (s.r.hard.log.length : Int), commit := if s.r.of_ = 1 then (s.r.hard.log.length : Int) else s.r.commit } : Raft) } : Stepper)) from by simp [had, h1]) ?_
    exact KF.mk (.inl rfl) [(0, 0), (1, 1), (2, 2), (3, 3), (4, 4), (5, 5), (6, 6)] [] (by kernel_rfl) (by kernel_rfl) (by kernel_rfl) (by kernel_rfl) (by kernel_rfl)
  · have h1 : ¬ (s.r.of_ = 1) := by simpa using hb
    clear hb
    refine AW.skip ?_
    refine ⟨_, Sub.refl _ _, ?_⟩
    refine KF.conv (fun w => .tup []) (fun w => [.box 73 [.int .i64 w.r.id, .int .i64 w.r.of_, .int .i64 w.r.role, .int .i64 w.r.commit, .int .i64 w.r.hard.term, .int .i64 w.r.hard.vote, .ref 1, .ref 2, .ref 3, .ref 4, .int .i64 w.was.id, .int .i64 w.was.of_, .int .i64 w.was.role, .int .i64 w.was.commit, .int .i64 w.was.hard.term, .int .i64 w.was.hard.vote, .sl false 6 (w.was.hard.log.map encEnt), .sl false 1 (w.was.yes.map encI), .sl false 1 (w.was.next.map encI), .sl false 1 (w.was.match_.map encI), .ref 5, .ref 6], .arr 88 6 (w.r.hard.log.map encEnt), .arr 3 1 (w.r.yes.map encI), .arr 3 1 (w.r.next.map encI), .arr 3 1 (w.r.match_.map encI), .arr 93 10 (w.recs.map encRec), .arr 76 17 (w.outs.map encOut)]) (show ((⟨⟨s.r.id, s.r.of_, s.r.role, s.r.commit, ⟨s.r.hard.term, s.r.hard.vote, s.r.hard.log⟩, s.r.yes, s.r.next, s.r.match_.set ((s.r.id).toNat) (s.r.hard.log.length : Int)⟩, s.was, s.recs, s.outs⟩ : Stepper)) = (({ s with r := ({ s.r with match_ := s.r.match_.set (s.r.id).toNat (s.r.hard.log.length : Int), commit := if s.r.of_ = 1 then (s.r.hard.log.length : Int) else s.r.commit } : Raft) } : Stepper)) from by simp [had, h1]) ?_
    exact KF.mk (.inl rfl) [(0, 0), (1, 1), (2, 2), (3, 3), (4, 4), (5, 5), (6, 6)] [] (by kernel_rfl) (by kernel_rfl) (by kernel_rfl) (by kernel_rfl) (by kernel_rfl)
set_option maxRecDepth 100000 in
set_option maxHeartbeats 4000000 in
theorem impl_stepper_message_spec  (s : Stepper) (kind : Int) : FnSpec Try.prog 74 [.ptr 0 0 0, .int .i64 kind] [.box 73 [.int .i64 s.r.id, .int .i64 s.r.of_, .int .i64 s.r.role, .int .i64 s.r.commit, .int .i64 s.r.hard.term, .int .i64 s.r.hard.vote, .ref 1, .ref 2, .ref 3, .ref 4, .int .i64 s.was.id, .int .i64 s.was.of_, .int .i64 s.was.role, .int .i64 s.was.commit, .int .i64 s.was.hard.term, .int .i64 s.was.hard.vote, .sl false 6 (s.was.hard.log.map encEnt), .sl false 1 (s.was.yes.map encI), .sl false 1 (s.was.next.map encI), .sl false 1 (s.was.match_.map encI), .ref 5, .ref 6], .arr 88 6 (s.r.hard.log.map encEnt), .arr 3 1 (s.r.yes.map encI), .arr 3 1 (s.r.next.map encI), .arr 3 1 (s.r.match_.map encI), .arr 93 10 (s.recs.map encRec), .arr 76 17 (s.outs.map encOut)] (.agg [.int .i64 kind, .int .i64 s.r.id, .int .i64 s.r.hard.term, .int .i64 0, .int .i64 0, .int .i64 0, .bool false, .int .i64 0, .int .i64 0, .str (⟨#[]⟩), .int .i64 0, .int .i64 0, .int .i64 0, .int .i64 0, .str (⟨#[]⟩), .ref 7]) [.box 73 [.int .i64 s.r.id, .int .i64 s.r.of_, .int .i64 s.r.role, .int .i64 s.r.commit, .int .i64 s.r.hard.term, .int .i64 s.r.hard.vote, .ref 1, .ref 2, .ref 3, .ref 4, .int .i64 s.was.id, .int .i64 s.was.of_, .int .i64 s.was.role, .int .i64 s.was.commit, .int .i64 s.was.hard.term, .int .i64 s.was.hard.vote, .sl false 6 (s.was.hard.log.map encEnt), .sl false 1 (s.was.yes.map encI), .sl false 1 (s.was.next.map encI), .sl false 1 (s.was.match_.map encI), .ref 5, .ref 6], .arr 88 6 (s.r.hard.log.map encEnt), .arr 3 1 (s.r.yes.map encI), .arr 3 1 (s.r.next.map encI), .arr 3 1 (s.r.match_.map encI), .arr 93 10 (s.recs.map encRec), .arr 76 17 (s.outs.map encOut), .arr 88 6 []] := by
  refine FnSpec.of 18 Try.func74 rfl Try.ntmps74 (by simp) (AW.weakK ?_)
  refine AW.seq ?_
  refine AW.region (At.start ?_)
  refine At.auto 1 (by kernel_rfl) ?_
  refine At.done rfl ?_
  refine AW.seq ?_
  refine AW.weak (Sub.nils [⟨true, 104, some 15, 5001, 88, 6⟩] (by kernel_rfl)) ?_
  refine AW.regionD Try_mix (At.start ?_)
  refine At.auto 14 (by kernel_rfl) ?_
  refine At.done rfl ⟨by kernel_rfl, ?_⟩
  refine AW.ret ?_
  refine ⟨_, Sub.nils [⟨true, 104, some 15, 5002, 88, 6⟩] (by kernel_rfl), ?_⟩
  exact KF.mk (.inr rfl) [(0, 0), (1, 1), (2, 2), (3, 3), (4, 4), (5, 5), (6, 6), (5002, 7)] [.agg [.int .i64 kind, .int .i64 s.r.id, .int .i64 s.r.hard.term, .int .i64 0, .int .i64 0, .int .i64 0, .bool false, .int .i64 0, .int .i64 0, .str (⟨#[]⟩), .int .i64 0, .int .i64 0, .int .i64 0, .int .i64 0, .str (⟨#[]⟩), .ref 5002]] (by kernel_rfl) (by kernel_rfl) (by kernel_rfl) (by kernel_rfl) (by kernel_rfl)
set_option maxRecDepth 100000 in
set_option maxHeartbeats 4000000 in
theorem impl_termAt_spec  (l : List Ent) (at_ : Int) (hl : l.length ≤ 1048576) (ha : 0 ≤ at_ ∧ at_ ≤ l.length) : FnSpec Try.prog 110 [.sl false 6 (l.map encEnt), .int .i64 at_] [] (.int .i64 (termAt l at_)) [] := by
  refine FnSpec.of 13 Try.func110 rfl Try.ntmps110 (by simp) (AW.weakK ?_)
  refine AW.seq ?_
  refine AW.region (At.start ?_)
  refine At.auto 1 (by kernel_rfl) ?_
  refine At.done rfl ?_
  refine AW.seq ?_
  refine AW.seq ?_
  refine AW.region (At.start ?_)
  refine At.auto 2 (by kernel_rfl) ?_
  refine At.done rfl ?_
  refine AW.cond (at_ == 0) (by kernel_rfl) (fun hb => ?_) (fun hb => ?_)
  · have h1 : at_ = 0 := by simpa using hb
    clear hb
    refine AW.seq ?_
    refine AW.region (At.start ?_)
    refine At.auto 1 (by kernel_rfl) ?_
    refine At.done rfl ?_
    refine AW.ret ?_
    refine ⟨_, Sub.refl _ _, ?_⟩
    refine KF.conv (fun w => .int .i64 w) (fun w => []) (show (0) = (termAt l at_) from by unfold termAt; first | (rw [if_pos (by omega)]; done) | (rw [if_neg (by omega), he1]; rfl)) ?_
    exact KF.mk (.inr rfl) [] [.int .i64 0] (by kernel_rfl) (by kernel_rfl) (by kernel_rfl) (by kernel_rfl) (by kernel_rfl)
  · have h1 : ¬ (at_ = 0) := by simpa using hb
    clear hb
    refine AW.skip ?_
    refine AW.seq ?_
    refine AW.region (At.start ?_)
    refine At.auto 3 (by kernel_rfl) ?_
    refine At.say 9 (.int .i64 (IntKind.i64.wrap (at_ - 1))) (.int .i64 (at_ - 1)) (by kernel_rfl) (sayI _ (by omega)) ?_
    refine At.idxSl (t := 31) (d := 10) (x := .tmp 7) (y := .tmp 9) (p := false) (es := 6) (xs := (l.map encEnt)) (kd := .i64) (i := at_ - 1) (e := 88) (by kernel_rfl) (by kernel_rfl) (by kernel_rfl) (by kernel_rfl) (by omega) (by first | omega | (simp only [List.length_map, List.length_append, List.length_take, List.length_drop, List.length_replicate, List.length_set, List.length_cons, List.length_nil]; omega)) ?_
    refine At.auto 1 (by kernel_rfl) ?_
    refine Exists.elim (show ∃ e, l[(at_ - 1).toNat]? = some e from ⟨_, List.getElem?_eq_getElem (by first | omega | (simp only [List.length_map, List.length_append, List.length_take, List.length_drop, List.length_replicate, List.length_set, List.length_cons, List.length_nil]; omega))⟩) fun e1 he1 => ?_
    refine At.ldVp (t := 3) (d := 12) (x := .tmp 11) (p := false) (es := 6) (xs := (l.map encEnt)) (j := (at_ - 1).toNat) (off := 0) (b := false) (m := 1) (encEnt e1) (.int .i64 e1.term) (by kernel_rfl) (by kernel_rfl) (by kernel_rfl) (by kernel_rfl) (mapGet he1) (by kernel_rfl) ?_
    refine At.auto 1 (by kernel_rfl) ?_
    refine At.done rfl ?_
    refine AW.ret ?_
    refine ⟨_, Sub.refl _ _, ?_⟩
    refine KF.conv (fun w => .int .i64 w) (fun w => []) (show (e1.term) = (termAt l at_) from by unfold termAt; first | (rw [if_pos (by omega)]; done) | (rw [if_neg (by omega), he1]; rfl)) ?_
    exact KF.mk (.inr rfl) [] [.int .i64 e1.term] (by kernel_rfl) (by kernel_rfl) (by kernel_rfl) (by kernel_rfl) (by kernel_rfl)
set_option maxRecDepth 100000 in
set_option maxHeartbeats 4000000 in
theorem impl_stepper_send_spec  (s : Stepper) (i : Int) (hz : SmallR s.r) (hi : 0 ≤ i ∧ i < s.r.next.length) (hn : NextOk s.r) (ho : s.outs.length ≤ 2000) : FnSpec Try.prog 90 [.ptr 0 0 0, .int .i64 i] [.box 73 [.int .i64 s.r.id, .int .i64 s.r.of_, .int .i64 s.r.role, .int .i64 s.r.commit, .int .i64 s.r.hard.term, .int .i64 s.r.hard.vote, .ref 1, .ref 2, .ref 3, .ref 4, .int .i64 s.was.id, .int .i64 s.was.of_, .int .i64 s.was.role, .int .i64 s.was.commit, .int .i64 s.was.hard.term, .int .i64 s.was.hard.vote, .sl false 6 (s.was.hard.log.map encEnt), .sl false 1 (s.was.yes.map encI), .sl false 1 (s.was.next.map encI), .sl false 1 (s.was.match_.map encI), .ref 5, .ref 6], .arr 88 6 (s.r.hard.log.map encEnt), .arr 3 1 (s.r.yes.map encI), .arr 3 1 (s.r.next.map encI), .arr 3 1 (s.r.match_.map encI), .arr 93 10 (s.recs.map encRec), .arr 76 17 (s.outs.map encOut)] (.tup []) [.box 73 [.int .i64 s.r.id, .int .i64 s.r.of_, .int .i64 s.r.role, .int .i64 s.r.commit, .int .i64 s.r.hard.term, .int .i64 s.r.hard.vote, .ref 1, .ref 2, .ref 3, .ref 4, .int .i64 s.was.id, .int .i64 s.was.of_, .int .i64 s.was.role, .int .i64 s.was.commit, .int .i64 s.was.hard.term, .int .i64 s.was.hard.vote, .sl false 6 (s.was.hard.log.map encEnt), .sl false 1 (s.was.yes.map encI), .sl false 1 (s.was.next.map encI), .sl false 1 (s.was.match_.map encI), .ref 5, .ref 7], .arr 88 6 (s.r.hard.log.map encEnt), .arr 3 1 (s.r.yes.map encI), .arr 3 1 (s.r.next.map encI), .arr 3 1 (s.r.match_.map encI), .arr 93 10 (s.recs.map encRec), .dead, .arr 76 17 ((s.outs ++ [sendOf s.r i]).map encOut)] := by
  obtain ⟨z1, z2, z3, z4⟩ := id hz
  refine FnSpec.of 59 Try.func90 rfl Try.ntmps90 (by simp) (AW.weakK ?_)
  refine AW.seq ?_
  refine AW.region (At.start ?_)
  refine At.auto 7 (by kernel_rfl) ?_
  refine At.done rfl ?_
  refine AW.seq ?_
  refine AW.region (At.start ?_)
  refine At.auto 1 (by kernel_rfl) ?_
  refine At.call (impl_stepper_message_spec  s 3 ) Try.call74 true [(0, 0), (1, 1), (2, 2), (3, 3), (4, 4), (5, 5), (6, 6)] [(1260, 7)] [] (by kernel_rfl) (by kernel_rfl) (by kernel_rfl) (by kernel_rfl) (by kernel_rfl) trivial ?_
  refine At.auto 2 (by kernel_rfl) ?_
  refine At.done rfl ?_
  refine AW.seq ?_
  refine AW.region (At.start ?_)
  refine At.auto 6 (by kernel_rfl) ?_
  refine At.idxRef (t := 25) (d := 20) (x := .tmp 18) (y := .tmp 19) (j := 3) (xs := (s.r.next.map encI)) (kd := .i64) (i := i) (e := 3) (es := 1) (by kernel_rfl) (by kernel_rfl) (by kernel_rfl) (by kernel_rfl) (by kernel_rfl) (by omega) (by first | omega | (simp only [List.length_map, List.length_append, List.length_take, List.length_drop, List.length_replicate, List.length_set, List.length_cons, List.length_nil]; omega)) ?_
  refine Exists.elim (show ∃ e, s.r.next[(i).toNat]? = some e from ⟨_, List.getElem?_eq_getElem (by first | omega | (simp only [List.length_map, List.length_append, List.length_take, List.length_drop, List.length_replicate, List.length_set, List.length_cons, List.length_nil]; omega))⟩) fun e1 he1 => ?_
  have hxe1 := hn _ (List.mem_of_getElem? he1)
  refine At.ldEl (t := 3) (d := 21) (x := .tmp 20) (i := 3) (e := 3) (es := 1) (xs := (s.r.next.map encI)) (j := (i).toNat) (off := 0) (b := false) (m := 1) (encI e1) (.int .i64 e1) (by kernel_rfl) (by kernel_rfl) (by kernel_rfl) (by kernel_rfl) (by kernel_rfl) (mapGet he1) (by kernel_rfl) ?_
  refine At.auto 1 (by kernel_rfl) ?_
  refine At.say 22 (.int .i64 (IntKind.i64.wrap (e1 - 1))) (.int .i64 (e1 - 1)) (by kernel_rfl) (sayI _ (by omega)) ?_
  refine At.auto 2 (by kernel_rfl) ?_
  refine At.done rfl ?_
  refine AW.seq ?_
  refine AW.regionD Try_mix (At.start ?_)
  refine At.auto 3 (by kernel_rfl) ?_
  refine At.call (impl_termAt_spec  s.r.hard.log (e1 - 1) (by first | omega | (dsimp only; omega) | (simp only [List.length_map, List.length_append, List.length_take, List.length_drop, List.length_replicate, List.length_set, List.length_cons, List.length_nil]; omega)) (by first | omega | (dsimp only; omega) | (simp only [List.length_map, List.length_append, List.length_take, List.length_drop, List.length_replicate, List.length_set, List.length_cons, List.length_nil]; omega))) Try.call110 false [] [] [(1, 6, (s.r.hard.log.map encEnt))] (by kernel_rfl) (by kernel_rfl) (by kernel_rfl) (by kernel_rfl) (by kernel_rfl) ⟨rfl, ⟨88, (s.r.hard.log.map encEnt), by kernel_rfl, FrzIs.same (allP_encEnt _)⟩, trivial⟩ ?_
  refine At.auto 9 (by kernel_rfl) ?_
  refine At.done rfl ⟨by kernel_rfl, ?_⟩
  refine AW.seq ?_
  refine AW.region (At.start ?_)
  refine At.auto 6 (by kernel_rfl) ?_
  refine At.say 40 (.int .i64 (IntKind.i64.wrap ((e1 - 1) + 6))) (.int .i64 (e1 + 5)) (by kernel_rfl) (sayJ _ (by omega) (by omega)) ?_
  refine At.auto 2 (by kernel_rfl) ?_
  refine At.say 42 (.int .i64 (((s.r.hard.log.map encEnt).length : Nat) : Int)) (.int .i64 (s.r.hard.log.length : Int)) (by kernel_rfl) (sayLen _ _) ?_
  refine At.mm (d := 43) (b := .min) (x := .tmp 40) (y := .tmp 42) (ats := #[3, 3]) (q := .i64) (m := e1 + 5) (n := (s.r.hard.log.length : Int)) (if (s.r.hard.log.length : Int) < (e1 + 5) then (s.r.hard.log.length : Int) else e1 + 5) (by kernel_rfl) (by kernel_rfl) (by kernel_rfl) (by kernel_rfl) (.inl ⟨rfl, rfl⟩) ?_
  refine At.say 43 (.int .i64 (if (s.r.hard.log.length : Int) < (e1 + 5) then (s.r.hard.log.length : Int) else e1 + 5)) (.int .i64 (min (e1 + 5) (s.r.hard.log.length : Int))) (by kernel_rfl) (congrArg (V.int .i64) (by omega)) ?_
  refine At.sliceRef (t := 31) (d := 44) (e := 88) (es := 6) (i := 1) (x := .tmp 35) (lx := some (.tmp 37)) (hx := some (.tmp 43)) (xs := (s.r.hard.log.map encEnt)) (vl := .int .i64 (e1 - 1)) (vh := .int .i64 (min (e1 + 5) (s.r.hard.log.length : Int))) ((e1 - 1).toNat) ((min (e1 + 5) (s.r.hard.log.length : Int)).toNat) (by kernel_rfl) (by kernel_rfl) (by kernel_rfl) (by kernel_rfl) (by kernel_rfl) (.inr ⟨_, _, rfl, sayNat (by omega)⟩) (.inr ⟨_, _, rfl, sayNat (by omega)⟩) (by first | omega | (simp only [List.length_map, List.length_append, List.length_take, List.length_drop, List.length_replicate, List.length_set, List.length_cons, List.length_nil]; omega)) (by first | omega | (simp only [List.length_map, List.length_append, List.length_take, List.length_drop, List.length_replicate, List.length_set, List.length_cons, List.length_nil]; omega)) ?_
  refine At.call (impl_copyLog_spec  ((s.r.hard.log.drop ((e1 - 1).toNat)).take (((min (e1 + 5) (s.r.hard.log.length : Int)).toNat) - ((e1 - 1).toNat))) (by first | omega | (dsimp only; omega) | (simp only [List.length_map, List.length_append, List.length_take, List.length_drop, List.length_replicate, List.length_set, List.length_cons, List.length_nil]; omega))) Try.call111 false [] [(1900, 0)] [(1, 6, (s.r.hard.log.map encEnt))] (by kernel_rfl) (by kernel_rfl) (Eq.trans (b := [.sl false 6 (((s.r.hard.log.map encEnt).drop ((e1 - 1).toNat)).take (((min (e1 + 5) (s.r.hard.log.length : Int)).toNat) - ((e1 - 1).toNat)))]) (by kernel_rfl) (by simp only [List.map_take, List.map_drop])) (by kernel_rfl) (by kernel_rfl) ⟨rfl, ⟨88, (s.r.hard.log.map encEnt), by kernel_rfl, FrzIs.same (allP_encEnt _)⟩, trivial⟩ ?_
  refine At.auto 2 (by kernel_rfl) ?_
  refine At.done rfl ?_
  refine AW.regionD Try_mix (At.start ?_)
  refine At.auto 8 (by kernel_rfl) ?_
  refine At.litK (t := 29) (d := 55) (e := 76) (es := 17) (bytes := 168) (n := 1) (parts := #[(0, .tmp 54)]) (88, 6) 155 [1900] [.int .i64 i, .int .i64 3, .int .i64 s.r.id, .int .i64 s.r.hard.term, .int .i64 (e1 - 1), .int .i64 (termAt s.r.hard.log (e1 - 1)), .int .i64 s.r.commit, .bool false, .int .i64 0, .int .i64 0, .str (⟨#[]⟩), .int .i64 0, .int .i64 0, .int .i64 0, .int .i64 0, .str (⟨#[]⟩), .ref 1900] [.int .i64 i, .int .i64 3, .int .i64 s.r.id, .int .i64 s.r.hard.term, .int .i64 (e1 - 1), .int .i64 (termAt s.r.hard.log (e1 - 1)), .int .i64 s.r.commit, .bool false, .int .i64 0, .int .i64 0, .str (⟨#[]⟩), .int .i64 0, .int .i64 0, .int .i64 0, .int .i64 0, .str (⟨#[]⟩), .own 88 6 (((s.r.hard.log.drop ((e1 - 1).toNat)).take (((min (e1 + 5) (s.r.hard.log.length : Int)).toNat) - ((e1 - 1).toNat))).map encEnt)] [.int .i64 0, .int .i64 0, .int .i64 0, .int .i64 0, .int .i64 0, .int .i64 0, .int .i64 0, .bool false, .int .i64 0, .int .i64 0, .str (⟨#[]⟩), .int .i64 0, .int .i64 0, .int .i64 0, .int .i64 0, .str (⟨#[]⟩), .nil] [.agg [.int .i64 i, .int .i64 3, .int .i64 s.r.id, .int .i64 s.r.hard.term, .int .i64 (e1 - 1), .int .i64 (termAt s.r.hard.log (e1 - 1)), .int .i64 s.r.commit, .bool false, .int .i64 0, .int .i64 0, .str (⟨#[]⟩), .int .i64 0, .int .i64 0, .int .i64 0, .int .i64 0, .str (⟨#[]⟩), .own 88 6 (((s.r.hard.log.drop ((e1 - 1).toNat)).take (((min (e1 + 5) (s.r.hard.log.length : Int)).toNat) - ((e1 - 1).toNat))).map encEnt)]] [(88, 6, (((s.r.hard.log.drop ((e1 - 1).toNat)).take (((min (e1 + 5) (s.r.hard.log.length : Int)).toNat) - ((e1 - 1).toNat))).map encEnt))] (by kernel_rfl) (by kernel_rfl) (by kernel_rfl) (by kernel_rfl) (by kernel_rfl) (by intro p hp; simp only [List.mem_cons, List.not_mem_nil, or_false] at hp; subst hp; all_goals first | exact flatEnts | (intro x hx; cases hx)) (by kernel_rfl) ?_
  refine At.append (t := 29) (d := 56) (e := 76) (es := 17) (bytes := 168) (s := .tmp 51) (x := .tmp 55) (S := .ref 6) (T := .ref 155) (xs := (s.outs.map encOut)) (ys := (([(⟨i, ⟨3, s.r.id, s.r.hard.term, e1 - 1, termAt s.r.hard.log (e1 - 1), s.r.commit, false, 0, 0, ⟨#[]⟩, ⟨0, 0, 0, 0, ⟨#[]⟩⟩, ((s.r.hard.log.drop ((e1 - 1).toNat)).take (((min (e1 + 5) (s.r.hard.log.length : Int)).toNat) - ((e1 - 1).toNat)))⟩⟩ : Out)]).map encOut)) 156 [6] [155] ((s.outs ++ ([(⟨i, ⟨3, s.r.id, s.r.hard.term, e1 - 1, termAt s.r.hard.log (e1 - 1), s.r.commit, false, 0, 0, ⟨#[]⟩, ⟨0, 0, 0, 0, ⟨#[]⟩⟩, ((s.r.hard.log.drop ((e1 - 1).toNat)).take (((min (e1 + 5) (s.r.hard.log.length : Int)).toNat) - ((e1 - 1).toNat)))⟩⟩ : Out)])).map encOut) (by kernel_rfl) (by kernel_rfl) (by kernel_rfl) (by kernel_rfl) ⟨by kernel_rfl, rfl⟩ ⟨by kernel_rfl, .inr rfl⟩ (by kernel_rfl) (by kernel_rfl) (by simp) (by first | omega | (simp only [List.length_map, List.length_append, List.length_take, List.length_drop, List.length_replicate, List.length_set, List.length_cons, List.length_nil]; omega)) (by first | omega | (simp only [List.length_map, List.length_append, List.length_take, List.length_drop, List.length_replicate, List.length_set, List.length_cons, List.length_nil]; omega)) ?_
  refine At.auto 3 (by kernel_rfl) ?_
  refine At.done rfl ⟨by kernel_rfl, ?_⟩
  refine ⟨_, Sub.refl _ _, ?_⟩
  refine KF.conv (fun w => .tup []) (fun w => [.box 73 [.int .i64 w.r.id, .int .i64 w.r.of_, .int .i64 w.r.role, .int .i64 w.r.commit, .int .i64 w.r.hard.term, .int .i64 w.r.hard.vote, .ref 1, .ref 2, .ref 3, .ref 4, .int .i64 w.was.id, .int .i64 w.was.of_, .int .i64 w.was.role, .int .i64 w.was.commit, .int .i64 w.was.hard.term, .int .i64 w.was.hard.vote, .sl false 6 (w.was.hard.log.map encEnt), .sl false 1 (w.was.yes.map encI), .sl false 1 (w.was.next.map encI), .sl false 1 (w.was.match_.map encI), .ref 5, .ref 7], .arr 88 6 (w.r.hard.log.map encEnt), .arr 3 1 (w.r.yes.map encI), .arr 3 1 (w.r.next.map encI), .arr 3 1 (w.r.match_.map encI), .arr 93 10 (w.recs.map encRec), .dead, .arr 76 17 (w.outs.map encOut)]) (show ((⟨s.r, s.was, s.recs, s.outs ++ ([(⟨i, ⟨3, s.r.id, s.r.hard.term, e1 - 1, termAt s.r.hard.log (e1 - 1), s.r.commit, false, 0, 0, ⟨#[]⟩, ⟨0, 0, 0, 0, ⟨#[]⟩⟩, ((s.r.hard.log.drop ((e1 - 1).toNat)).take (((min (e1 + 5) (s.r.hard.log.length : Int)).toNat) - ((e1 - 1).toNat)))⟩⟩ : Out)])⟩ : Stepper)) = (({ s with outs := s.outs ++ [sendOf s.r i] } : Stepper)) from by simp only [sendOf, nextOf, he1, Option.getD_some]; rw [takeMin _ _ 6 _ (by omega)]; rfl) ?_
  exact KF.mk (.inl rfl) [(0, 0), (1, 1), (2, 2), (3, 3), (4, 4), (5, 5), (6, 6), (156, 7)] [] (by kernel_rfl) (by kernel_rfl) (by kernel_rfl) (by kernel_rfl) (by kernel_rfl)
set_option maxRecDepth 100000 in
set_option maxHeartbeats 4000000 in
theorem impl_stepper_sendAll_spec  (s : Stepper) (hz : SmallR s.r) (hf : 0 ≤ s.r.of_ ∧ s.r.of_ ≤ 5) (hx : s.r.of_ ≤ s.r.next.length) (hn : NextOk s.r) (ho : s.outs.length ≤ 1000) : FnSpec Try.prog 41 [.ptr 0 0 0] [.box 73 [.int .i64 s.r.id, .int .i64 s.r.of_, .int .i64 s.r.role, .int .i64 s.r.commit, .int .i64 s.r.hard.term, .int .i64 s.r.hard.vote, .ref 1, .ref 2, .ref 3, .ref 4, .int .i64 s.was.id, .int .i64 s.was.of_, .int .i64 s.was.role, .int .i64 s.was.commit, .int .i64 s.was.hard.term, .int .i64 s.was.hard.vote, .sl false 6 (s.was.hard.log.map encEnt), .sl false 1 (s.was.yes.map encI), .sl false 1 (s.was.next.map encI), .sl false 1 (s.was.match_.map encI), .ref 5, .ref 6], .arr 88 6 (s.r.hard.log.map encEnt), .arr 3 1 (s.r.yes.map encI), .arr 3 1 (s.r.next.map encI), .arr 3 1 (s.r.match_.map encI), .arr 93 10 (s.recs.map encRec), .arr 76 17 (s.outs.map encOut)] (.tup []) [.box 73 [.int .i64 s.r.id, .int .i64 s.r.of_, .int .i64 s.r.role, .int .i64 s.r.commit, .int .i64 s.r.hard.term, .int .i64 s.r.hard.vote, .ref 1, .ref 2, .ref 3, .ref 4, .int .i64 s.was.id, .int .i64 s.was.of_, .int .i64 s.was.role, .int .i64 s.was.commit, .int .i64 s.was.hard.term, .int .i64 s.was.hard.vote, .sl false 6 (s.was.hard.log.map encEnt), .sl false 1 (s.was.yes.map encI), .sl false 1 (s.was.next.map encI), .sl false 1 (s.was.match_.map encI), .ref 5, .ref 7], .arr 88 6 (s.r.hard.log.map encEnt), .arr 3 1 (s.r.yes.map encI), .arr 3 1 (s.r.next.map encI), .arr 3 1 (s.r.match_.map encI), .arr 93 10 (s.recs.map encRec), .dead, .arr 76 17 ((s.outs ++ sendAll s.r).map encOut)] := by
  obtain ⟨z1, z2, z3, z4⟩ := id hz
  refine FnSpec.of 22 Try.func41 rfl Try.ntmps41 (by simp) (AW.weakK ?_)
  refine AW.seq ?_
  refine AW.region (At.start ?_)
  refine At.auto 6 (by kernel_rfl) ?_
  refine At.done rfl ?_
  refine AW.block ?_
  refine AW.weak (Sub.mv 6 7000 (by kernel_rfl) (by decide)) ?_
  refine AW.loopW (fun (x : Nat × List Out) => match x with | (k, o) => Go.Sy.mk [.ptr 0 0 0, .un, .un, .un, .un, .un, .un, .int .i64 s.r.of_, .int .i64 (k : Int)] [(0, .box 73 [.int .i64 s.r.id, .int .i64 s.r.of_, .int .i64 s.r.role, .int .i64 s.r.commit, .int .i64 s.r.hard.term, .int .i64 s.r.hard.vote, .ref 1, .ref 2, .ref 3, .ref 4, .int .i64 s.was.id, .int .i64 s.was.of_, .int .i64 s.was.role, .int .i64 s.was.commit, .int .i64 s.was.hard.term, .int .i64 s.was.hard.vote, .sl false 6 (s.was.hard.log.map encEnt), .sl false 1 (s.was.yes.map encI), .sl false 1 (s.was.next.map encI), .sl false 1 (s.was.match_.map encI), .ref 5, .ref 7000]), (1, .arr 88 6 (s.r.hard.log.map encEnt)), (2, .arr 3 1 (s.r.yes.map encI)), (3, .arr 3 1 (s.r.next.map encI)), (4, .arr 3 1 (s.r.match_.map encI)), (5, .arr 93 10 (s.recs.map encRec)), (6, .dead), (7000, .arr 76 17 (o.map encOut))]) (fun (x : Nat × List Out) => match x with | (k, o) => (k : Int) ≤ s.r.of_ ∧ o = s.outs ++ sendUp s.r k) (fun (x : Nat × List Out) => match x with | (k, o) => s.r.of_.toNat - k) (0, s.outs) ⟨by omega, by simp [sendUp]⟩ (Sub.of [(0, 0), (1, 1), (2, 2), (3, 3), (4, 4), (5, 5), (6, 6), (7000, 7000)] [true, false, false, false, false, false, false, true, true] _ _ (by kernel_rfl) (by kernel_rfl) (by kernel_rfl)) ?_
  rintro ⟨k, o⟩ ⟨hk, hR⟩
  have hlen := sendUp_len s.r k
  have hlen2 := congrArg List.length hR
  try rw [List.length_append] at hlen2
  refine AW.seq ?_
  refine AW.region (At.start ?_)
  refine At.auto 1 (by kernel_rfl) ?_
  refine At.done rfl ?_
  refine AW.seq ?_
  refine AW.cond (decide ((k : Int) < s.r.of_)) (by kernel_rfl) (fun hb => ?_) (fun hb => ?_)
  · have h1 : (k : Int) < s.r.of_ := by simpa using hb
    clear hb
    refine AW.skip ?_
    refine AW.seq ?_
    refine AW.block ?_
    refine AW.seq ?_
    refine AW.region (At.start ?_)
    refine At.auto 2 (by kernel_rfl) ?_
    refine At.done rfl ?_
    refine AW.seq ?_
    refine AW.region (At.start ?_)
    refine At.auto 7 (by kernel_rfl) ?_
    refine At.done rfl ?_
    refine AW.cond ((k : Int) != s.r.id) (by kernel_rfl) (fun hb => ?_) (fun hb => ?_)
    · have h2 : ¬ ((k : Int) = s.r.id) := by simpa using hb
      clear hb
      refine AW.region (At.start ?_)
      refine At.auto 2 (by kernel_rfl) ?_
      refine At.call (impl_stepper_send_spec  (⟨s.r, s.was, s.recs, o⟩ : Stepper) (k : Int) hz (by first | omega | (dsimp only; omega) | (simp only [List.length_map, List.length_append, List.length_take, List.length_drop, List.length_replicate, List.length_set, List.length_cons, List.length_nil]; omega)) hn (by first | omega | (dsimp only; omega) | (simp only [List.length_map, List.length_append, List.length_take, List.length_drop, List.length_replicate, List.length_set, List.length_cons, List.length_nil]; omega))) Try.call90 true [(0, 0), (1, 1), (2, 2), (3, 3), (4, 4), (5, 5), (7000, 6)] [(1400, 7)] [] (by kernel_rfl) (by kernel_rfl) (by kernel_rfl) (by kernel_rfl) (by kernel_rfl) trivial ?_
      refine At.done rfl ?_
      refine AW.region (At.start ?_)
      refine At.auto 1 (by kernel_rfl) ?_
      refine At.say 21 (.int .i64 (IntKind.i64.wrap ((k : Int) + 1))) (.int .i64 ((k : Int) + 1)) (by kernel_rfl) (sayI _ (by omega)) ?_
      refine At.auto 1 (by kernel_rfl) ?_
      refine At.done rfl ?_
      exact ⟨(k + 1, (o ++ [sendOf s.r (k : Int)])), ⟨by omega, by first | (rw [hR, sendUp, if_pos (by grind)]; simp; done) | (rw [hR, sendUp, if_neg (by grind)]; done) | (rw [hR, sendUp, if_neg (by grind)]; (try rw [termAt_end]); first | rfl | exact List.append_assoc _ _ _)⟩, (by simp only; omega), Sub.of [(0, 0), (1, 1), (2, 2), (3, 3), (4, 4), (5, 5), (6, 6), (1400, 7000)] [true, false, false, false, false, false, false, true, true] _ _ (by kernel_rfl) (by kernel_rfl) (by kernel_rfl)⟩
    · have h2 : (k : Int) = s.r.id := by simpa using hb
      clear hb
      refine AW.skip ?_
      refine AW.region (At.start ?_)
      refine At.auto 1 (by kernel_rfl) ?_
      refine At.say 21 (.int .i64 (IntKind.i64.wrap ((k : Int) + 1))) (.int .i64 ((k : Int) + 1)) (by kernel_rfl) (sayI _ (by omega)) ?_
      refine At.auto 1 (by kernel_rfl) ?_
      refine At.done rfl ?_
      exact ⟨(k + 1, o), ⟨by omega, by first | (rw [hR, sendUp, if_pos (by grind)]; simp; done) | (rw [hR, sendUp, if_neg (by grind)]; done) | (rw [hR, sendUp, if_neg (by grind)]; (try rw [termAt_end]); first | rfl | exact List.append_assoc _ _ _)⟩, (by simp only; omega), Sub.of [(0, 0), (1, 1), (2, 2), (3, 3), (4, 4), (5, 5), (6, 6), (7000, 7000)] [true, false, false, false, false, false, false, true, true] _ _ (by kernel_rfl) (by kernel_rfl) (by kernel_rfl)⟩
  · have h1 : ¬ ((k : Int) < s.r.of_) := by simpa using hb
    clear hb
    refine AW.exit ?_
    refine ⟨_, Sub.refl _ _, ?_⟩
    refine KF.conv (fun w => .tup []) (fun w => [.box 73 [.int .i64 w.r.id, .int .i64 w.r.of_, .int .i64 w.r.role, .int .i64 w.r.commit, .int .i64 w.r.hard.term, .int .i64 w.r.hard.vote, .ref 1, .ref 2, .ref 3, .ref 4, .int .i64 w.was.id, .int .i64 w.was.of_, .int .i64 w.was.role, .int .i64 w.was.commit, .int .i64 w.was.hard.term, .int .i64 w.was.hard.vote, .sl false 6 (w.was.hard.log.map encEnt), .sl false 1 (w.was.yes.map encI), .sl false 1 (w.was.next.map encI), .sl false 1 (w.was.match_.map encI), .ref 5, .ref 7], .arr 88 6 (w.r.hard.log.map encEnt), .arr 3 1 (w.r.yes.map encI), .arr 3 1 (w.r.next.map encI), .arr 3 1 (w.r.match_.map encI), .arr 93 10 (w.recs.map encRec), .dead, .arr 76 17 (w.outs.map encOut)]) (show ((⟨s.r, s.was, s.recs, o⟩ : Stepper)) = (({ s with outs := s.outs ++ sendAll s.r } : Stepper)) from by rw [hR, sendAll, show s.r.of_.toNat = k from by omega]) ?_
    exact KF.mk (.inl rfl) [(0, 0), (1, 1), (2, 2), (3, 3), (4, 4), (5, 5), (6, 6), (7000, 7)] [] (by kernel_rfl) (by kernel_rfl) (by kernel_rfl) (by kernel_rfl) (by kernel_rfl)
set_option maxRecDepth 100000 in
set_option maxHeartbeats 4000000 in
theorem impl_stepper_end_spec  (s : Stepper) (hr : s.recs.length ≤ 1048576) : FnSpec Try.prog 59 [.ptr 0 0 0] [.box 73 [.int .i64 s.r.id, .int .i64 s.r.of_, .int .i64 s.r.role, .int .i64 s.r.commit, .int .i64 s.r.hard.term, .int .i64 s.r.hard.vote, .ref 1, .ref 2, .ref 3, .ref 4, .int .i64 s.was.id, .int .i64 s.was.of_, .int .i64 s.was.role, .int .i64 s.was.commit, .int .i64 s.was.hard.term, .int .i64 s.was.hard.vote, .sl false 6 (s.was.hard.log.map encEnt), .sl false 1 (s.was.yes.map encI), .sl false 1 (s.was.next.map encI), .sl false 1 (s.was.match_.map encI), .ref 5, .ref 6], .arr 88 6 (s.r.hard.log.map encEnt), .arr 3 1 (s.r.yes.map encI), .arr 3 1 (s.r.next.map encI), .arr 3 1 (s.r.match_.map encI), .arr 93 10 (s.recs.map encRec), .arr 76 17 (s.outs.map encOut)] (.tup [.agg [.int .i64 s.r.id, .int .i64 s.r.of_, .int .i64 s.r.role, .int .i64 s.r.commit, .int .i64 s.r.hard.term, .int .i64 s.r.hard.vote, .ref 1, .ref 2, .ref 3, .ref 4], .ref 7, .ref 6]) [.box 73 [.int .i64 s.r.id, .int .i64 s.r.of_, .int .i64 s.r.role, .int .i64 s.r.commit, .int .i64 s.r.hard.term, .int .i64 s.r.hard.vote, .ref 1, .ref 2, .ref 3, .ref 4, .int .i64 s.was.id, .int .i64 s.was.of_, .int .i64 s.was.role, .int .i64 s.was.commit, .int .i64 s.was.hard.term, .int .i64 s.was.hard.vote, .sl false 6 (s.was.hard.log.map encEnt), .sl false 1 (s.was.yes.map encI), .sl false 1 (s.was.next.map encI), .sl false 1 (s.was.match_.map encI), .un, .ref 6], .arr 88 6 (s.r.hard.log.map encEnt), .arr 3 1 (s.r.yes.map encI), .arr 3 1 (s.r.next.map encI), .arr 3 1 (s.r.match_.map encI), .dead, .arr 76 17 (s.outs.map encOut), .arr 93 10 ((endRecs s).map encRec)] := by
  refine FnSpec.of 60 Try.func59 rfl Try.ntmps59 (by simp) (AW.weakK ?_)
  refine AW.seq ?_
  refine AW.region (At.start ?_)
  refine At.auto 3 (by kernel_rfl) ?_
  refine At.done rfl ?_
  refine AW.seq ?_
  refine AW.weak (Sub.nils [⟨true, 102, some 6, 5001, 88, 6⟩, ⟨true, 102, some 7, 5002, 3, 1⟩, ⟨true, 102, some 8, 5003, 3, 1⟩, ⟨true, 102, some 9, 5004, 3, 1⟩] (by kernel_rfl)) ?_
  refine AW.regionD Try_mix (At.start ?_)
  refine At.auto 14 (by kernel_rfl) ?_
  refine At.done rfl ⟨by kernel_rfl, ?_⟩
  refine AW.seq ?_
  refine AW.seq ?_
  refine AW.region (At.start ?_)
  refine At.auto 6 (by kernel_rfl) ?_
  by_cases h1 : s.r.hard.term = s.was.hard.term
  · refine At.say 22 (.bool (s.r.hard.term == s.was.hard.term)) (.bool true) (by kernel_rfl) (sayET h1) ?_
    refine At.auto 6 (by kernel_rfl) ?_
    refine At.done rfl ?_
    refine AW.cond (s.r.hard.vote == s.was.hard.vote) (by kernel_rfl) (fun hb => ?_) (fun hb => ?_)
    · have h2 : s.r.hard.vote = s.was.hard.vote := by simpa using hb
      clear hb
      refine AW.seq ?_
      refine AW.regionD Try_mix (At.start ?_)
      refine At.auto 15 (by kernel_rfl) ?_
      refine At.done rfl ⟨by kernel_rfl, ?_⟩
      refine AW.ret ?_
      refine ⟨_, (Sub.trans (Sub.trans (Sub.refl _ _) (Sub.mv 5 8005 (by kernel_rfl) (by decide))) (Sub.un1 0 20 73 [.int .i64 s.r.id, .int .i64 s.r.of_, .int .i64 s.r.role, .int .i64 s.r.commit, .int .i64 s.r.hard.term, .int .i64 s.r.hard.vote, .ref 1, .ref 2, .ref 3, .ref 4, .int .i64 s.was.id, .int .i64 s.was.of_, .int .i64 s.was.role, .int .i64 s.was.commit, .int .i64 s.was.hard.term, .int .i64 s.was.hard.vote, .sl false 6 (s.was.hard.log.map encEnt), .sl false 1 (s.was.yes.map encI), .sl false 1 (s.was.next.map encI), .sl false 1 (s.was.match_.map encI), .ref 8005, .ref 6] (by kernel_rfl))), ?_⟩
      refine KF.conv (fun w => .tup [.agg [.int .i64 s.r.id, .int .i64 s.r.of_, .int .i64 s.r.role, .int .i64 s.r.commit, .int .i64 s.r.hard.term, .int .i64 s.r.hard.vote, .ref 1, .ref 2, .ref 3, .ref 4], .ref 7, .ref 6]) (fun w => [.box 73 [.int .i64 s.r.id, .int .i64 s.r.of_, .int .i64 s.r.role, .int .i64 s.r.commit, .int .i64 s.r.hard.term, .int .i64 s.r.hard.vote, .ref 1, .ref 2, .ref 3, .ref 4, .int .i64 s.was.id, .int .i64 s.was.of_, .int .i64 s.was.role, .int .i64 s.was.commit, .int .i64 s.was.hard.term, .int .i64 s.was.hard.vote, .sl false 6 (s.was.hard.log.map encEnt), .sl false 1 (s.was.yes.map encI), .sl false 1 (s.was.next.map encI), .sl false 1 (s.was.match_.map encI), .un, .ref 6], .arr 88 6 (s.r.hard.log.map encEnt), .arr 3 1 (s.r.yes.map encI), .arr 3 1 (s.r.next.map encI), .arr 3 1 (s.r.match_.map encI), .dead, .arr 76 17 (s.outs.map encOut), .arr 93 10 (w.map encRec)]) (show (s.recs) = (endRecs s) from by simp [endRecs, voteRec, h1, h2]; try rfl) ?_
      exact KF.mk (.inr rfl) [(0, 0), (1, 1), (2, 2), (3, 3), (4, 4), (5, 5), (6, 6), (8005, 7)] [.agg [.int .i64 s.r.id, .int .i64 s.r.of_, .int .i64 s.r.role, .int .i64 s.r.commit, .int .i64 s.r.hard.term, .int .i64 s.r.hard.vote, .ref 1, .ref 2, .ref 3, .ref 4], .ref 8005, .ref 6] (by kernel_rfl) (by kernel_rfl) (by kernel_rfl) (by kernel_rfl) (by kernel_rfl)
    · have h2 : ¬ (s.r.hard.vote = s.was.hard.vote) := by simpa using hb
      clear hb
      refine AW.skip ?_
      refine AW.seq ?_
      refine AW.regionD Try_mix (At.start ?_)
      refine At.auto 9 (by kernel_rfl) ?_
      refine At.litK (t := 45) (d := 50) (e := 93) (es := 10) (bytes := 88) (n := 1) (parts := #[(0, .tmp 49)]) (88, 6) 150 [] [.int .i64 1, .int .i64 s.r.hard.term, .int .i64 s.r.hard.vote, .int .i64 0, .int .i64 0, .int .i64 0, .int .i64 0, .int .i64 0, .int .i64 0, .str (⟨#[]⟩)] [.int .i64 1, .int .i64 s.r.hard.term, .int .i64 s.r.hard.vote, .int .i64 0, .int .i64 0, .int .i64 0, .int .i64 0, .int .i64 0, .int .i64 0, .str (⟨#[]⟩)] [.int .i64 0, .int .i64 0, .int .i64 0, .int .i64 0, .int .i64 0, .int .i64 0, .int .i64 0, .int .i64 0, .int .i64 0, .str (⟨#[]⟩)] [.agg [.int .i64 1, .int .i64 s.r.hard.term, .int .i64 s.r.hard.vote, .int .i64 0, .int .i64 0, .int .i64 0, .int .i64 0, .int .i64 0, .int .i64 0, .str (⟨#[]⟩)]] [] (by kernel_rfl) (by kernel_rfl) (by kernel_rfl) (by kernel_rfl) rfl (fun p hp => by cases hp) (by kernel_rfl) ?_
      refine At.auto 4 (by kernel_rfl) ?_
      refine At.append (t := 45) (d := 55) (e := 93) (es := 10) (bytes := 88) (s := .tmp 50) (x := .tmp 54) (S := .ref 150) (T := .ref 5) (xs := (([(⟨1, s.r.hard.term, s.r.hard.vote, 0, ⟨0, ⟨0, 0, 0, 0, ⟨#[]⟩⟩⟩⟩ : Rec)]).map encRec)) (ys := (s.recs.map encRec)) 155 [150] [] ((([(⟨1, s.r.hard.term, s.r.hard.vote, 0, ⟨0, ⟨0, 0, 0, 0, ⟨#[]⟩⟩⟩⟩ : Rec)]) ++ s.recs).map encRec) (by kernel_rfl) (by kernel_rfl) (by kernel_rfl) (by kernel_rfl) ⟨by kernel_rfl, rfl⟩ ⟨by kernel_rfl, .inl ⟨rfl, (allP_encRec _)⟩⟩ (by kernel_rfl) (by kernel_rfl) (by simp) (by first | omega | (simp only [List.length_map, List.length_append, List.length_take, List.length_drop, List.length_replicate, List.length_set, List.length_cons, List.length_nil]; omega)) (by first | omega | (simp only [List.length_map, List.length_append, List.length_take, List.length_drop, List.length_replicate, List.length_set, List.length_cons, List.length_nil]; omega)) ?_
      refine At.auto 7 (by kernel_rfl) ?_
      refine At.done rfl ⟨by kernel_rfl, ?_⟩
      refine AW.ret ?_
      refine ⟨_, (Sub.trans (Sub.trans (Sub.refl _ _) (Sub.mv 5 8005 (by kernel_rfl) (by decide))) (Sub.un1 0 20 73 [.int .i64 s.r.id, .int .i64 s.r.of_, .int .i64 s.r.role, .int .i64 s.r.commit, .int .i64 s.r.hard.term, .int .i64 s.r.hard.vote, .ref 1, .ref 2, .ref 3, .ref 4, .int .i64 s.was.id, .int .i64 s.was.of_, .int .i64 s.was.role, .int .i64 s.was.commit, .int .i64 s.was.hard.term, .int .i64 s.was.hard.vote, .sl false 6 (s.was.hard.log.map encEnt), .sl false 1 (s.was.yes.map encI), .sl false 1 (s.was.next.map encI), .sl false 1 (s.was.match_.map encI), .ref 8005, .ref 6] (by kernel_rfl))), ?_⟩
      refine KF.conv (fun w => .tup [.agg [.int .i64 s.r.id, .int .i64 s.r.of_, .int .i64 s.r.role, .int .i64 s.r.commit, .int .i64 s.r.hard.term, .int .i64 s.r.hard.vote, .ref 1, .ref 2, .ref 3, .ref 4], .ref 7, .ref 6]) (fun w => [.box 73 [.int .i64 s.r.id, .int .i64 s.r.of_, .int .i64 s.r.role, .int .i64 s.r.commit, .int .i64 s.r.hard.term, .int .i64 s.r.hard.vote, .ref 1, .ref 2, .ref 3, .ref 4, .int .i64 s.was.id, .int .i64 s.was.of_, .int .i64 s.was.role, .int .i64 s.was.commit, .int .i64 s.was.hard.term, .int .i64 s.was.hard.vote, .sl false 6 (s.was.hard.log.map encEnt), .sl false 1 (s.was.yes.map encI), .sl false 1 (s.was.next.map encI), .sl false 1 (s.was.match_.map encI), .un, .ref 6], .arr 88 6 (s.r.hard.log.map encEnt), .arr 3 1 (s.r.yes.map encI), .arr 3 1 (s.r.next.map encI), .arr 3 1 (s.r.match_.map encI), .dead, .arr 76 17 (s.outs.map encOut), .arr 93 10 (w.map encRec)]) (show (([(⟨1, s.r.hard.term, s.r.hard.vote, 0, ⟨0, ⟨0, 0, 0, 0, ⟨#[]⟩⟩⟩⟩ : Rec)]) ++ s.recs) = (endRecs s) from by simp [endRecs, voteRec, h1, h2]; try rfl) ?_
      exact KF.mk (.inr rfl) [(0, 0), (1, 1), (2, 2), (3, 3), (4, 4), (5, 5), (6, 6), (155, 7)] [.agg [.int .i64 s.r.id, .int .i64 s.r.of_, .int .i64 s.r.role, .int .i64 s.r.commit, .int .i64 s.r.hard.term, .int .i64 s.r.hard.vote, .ref 1, .ref 2, .ref 3, .ref 4], .ref 155, .ref 6] (by kernel_rfl) (by kernel_rfl) (by kernel_rfl) (by kernel_rfl) (by kernel_rfl)
  · refine At.say 22 (.bool (s.r.hard.term == s.was.hard.term)) (.bool false) (by kernel_rfl) (sayEF h1) ?_
    refine At.auto 6 (by kernel_rfl) ?_
    refine At.done rfl ?_
    refine AW.cond false (by kernel_rfl) (fun h => by cases h) (fun _ => ?_)
    refine AW.skip ?_
    refine AW.seq ?_
    refine AW.regionD Try_mix (At.start ?_)
    refine At.auto 9 (by kernel_rfl) ?_
    refine At.litK (t := 45) (d := 50) (e := 93) (es := 10) (bytes := 88) (n := 1) (parts := #[(0, .tmp 49)]) (88, 6) 150 [] [.int .i64 1, .int .i64 s.r.hard.term, .int .i64 s.r.hard.vote, .int .i64 0, .int .i64 0, .int .i64 0, .int .i64 0, .int .i64 0, .int .i64 0, .str (⟨#[]⟩)] [.int .i64 1, .int .i64 s.r.hard.term, .int .i64 s.r.hard.vote, .int .i64 0, .int .i64 0, .int .i64 0, .int .i64 0, .int .i64 0, .int .i64 0, .str (⟨#[]⟩)] [.int .i64 0, .int .i64 0, .int .i64 0, .int .i64 0, .int .i64 0, .int .i64 0, .int .i64 0, .int .i64 0, .int .i64 0, .str (⟨#[]⟩)] [.agg [.int .i64 1, .int .i64 s.r.hard.term, .int .i64 s.r.hard.vote, .int .i64 0, .int .i64 0, .int .i64 0, .int .i64 0, .int .i64 0, .int .i64 0, .str (⟨#[]⟩)]] [] (by kernel_rfl) (by kernel_rfl) (by kernel_rfl) (by kernel_rfl) rfl (fun p hp => by cases hp) (by kernel_rfl) ?_
    refine At.auto 4 (by kernel_rfl) ?_
    refine At.append (t := 45) (d := 55) (e := 93) (es := 10) (bytes := 88) (s := .tmp 50) (x := .tmp 54) (S := .ref 150) (T := .ref 5) (xs := (([(⟨1, s.r.hard.term, s.r.hard.vote, 0, ⟨0, ⟨0, 0, 0, 0, ⟨#[]⟩⟩⟩⟩ : Rec)]).map encRec)) (ys := (s.recs.map encRec)) 155 [150] [] ((([(⟨1, s.r.hard.term, s.r.hard.vote, 0, ⟨0, ⟨0, 0, 0, 0, ⟨#[]⟩⟩⟩⟩ : Rec)]) ++ s.recs).map encRec) (by kernel_rfl) (by kernel_rfl) (by kernel_rfl) (by kernel_rfl) ⟨by kernel_rfl, rfl⟩ ⟨by kernel_rfl, .inl ⟨rfl, (allP_encRec _)⟩⟩ (by kernel_rfl) (by kernel_rfl) (by simp) (by first | omega | (simp only [List.length_map, List.length_append, List.length_take, List.length_drop, List.length_replicate, List.length_set, List.length_cons, List.length_nil]; omega)) (by first | omega | (simp only [List.length_map, List.length_append, List.length_take, List.length_drop, List.length_replicate, List.length_set, List.length_cons, List.length_nil]; omega)) ?_
    refine At.auto 7 (by kernel_rfl) ?_
    refine At.done rfl ⟨by kernel_rfl, ?_⟩
    refine AW.ret ?_
    refine ⟨_, (Sub.trans (Sub.trans (Sub.refl _ _) (Sub.mv 5 8005 (by kernel_rfl) (by decide))) (Sub.un1 0 20 73 [.int .i64 s.r.id, .int .i64 s.r.of_, .int .i64 s.r.role, .int .i64 s.r.commit, .int .i64 s.r.hard.term, .int .i64 s.r.hard.vote, .ref 1, .ref 2, .ref 3, .ref 4, .int .i64 s.was.id, .int .i64 s.was.of_, .int .i64 s.was.role, .int .i64 s.was.commit, .int .i64 s.was.hard.term, .int .i64 s.was.hard.vote, .sl false 6 (s.was.hard.log.map encEnt), .sl false 1 (s.was.yes.map encI), .sl false 1 (s.was.next.map encI), .sl false 1 (s.was.match_.map encI), .ref 8005, .ref 6] (by kernel_rfl))), ?_⟩
    refine KF.conv (fun w => .tup [.agg [.int .i64 s.r.id, .int .i64 s.r.of_, .int .i64 s.r.role, .int .i64 s.r.commit, .int .i64 s.r.hard.term, .int .i64 s.r.hard.vote, .ref 1, .ref 2, .ref 3, .ref 4], .ref 7, .ref 6]) (fun w => [.box 73 [.int .i64 s.r.id, .int .i64 s.r.of_, .int .i64 s.r.role, .int .i64 s.r.commit, .int .i64 s.r.hard.term, .int .i64 s.r.hard.vote, .ref 1, .ref 2, .ref 3, .ref 4, .int .i64 s.was.id, .int .i64 s.was.of_, .int .i64 s.was.role, .int .i64 s.was.commit, .int .i64 s.was.hard.term, .int .i64 s.was.hard.vote, .sl false 6 (s.was.hard.log.map encEnt), .sl false 1 (s.was.yes.map encI), .sl false 1 (s.was.next.map encI), .sl false 1 (s.was.match_.map encI), .un, .ref 6], .arr 88 6 (s.r.hard.log.map encEnt), .arr 3 1 (s.r.yes.map encI), .arr 3 1 (s.r.next.map encI), .arr 3 1 (s.r.match_.map encI), .dead, .arr 76 17 (s.outs.map encOut), .arr 93 10 (w.map encRec)]) (show (([(⟨1, s.r.hard.term, s.r.hard.vote, 0, ⟨0, ⟨0, 0, 0, 0, ⟨#[]⟩⟩⟩⟩ : Rec)]) ++ s.recs) = (endRecs s) from by simp [endRecs, voteRec, h1]; try rfl) ?_
    exact KF.mk (.inr rfl) [(0, 0), (1, 1), (2, 2), (3, 3), (4, 4), (5, 5), (6, 6), (155, 7)] [.agg [.int .i64 s.r.id, .int .i64 s.r.of_, .int .i64 s.r.role, .int .i64 s.r.commit, .int .i64 s.r.hard.term, .int .i64 s.r.hard.vote, .ref 1, .ref 2, .ref 3, .ref 4], .ref 155, .ref 6] (by kernel_rfl) (by kernel_rfl) (by kernel_rfl) (by kernel_rfl) (by kernel_rfl)
set_option maxRecDepth 100000 in
set_option maxHeartbeats 4000000 in
theorem impl_RaftPropose_spec  (r : Raft) (c : Cmd) (hz : SmallR r) : FnSpec Try.prog 19 [.agg [.int .i64 r.id, .int .i64 r.of_, .int .i64 r.role, .int .i64 r.commit, .int .i64 r.hard.term, .int .i64 r.hard.vote, .sl false 6 (r.hard.log.map encEnt), .sl false 1 (r.yes.map encI), .sl false 1 (r.next.map encI), .sl false 1 (r.match_.map encI)], .agg [.int .i64 c.kind, .int .i64 c.release, .int .i64 c.node, .int .i64 c.size, .str c.digest]] [] (.tup [.agg [.int .i64 ((propR r c).id), .int .i64 ((propR r c).of_), .int .i64 ((propR r c).role), .int .i64 ((propR r c).commit), .int .i64 ((propR r c).hard.term), .int .i64 ((propR r c).hard.vote), .ref 0, .ref 1, .ref 2, .ref 3], .ref 4, .ref 5, .bool (propOk r c)]) [.arr 88 6 (((propR r c).hard.log).map encEnt), .arr 3 1 (((propR r c).yes).map encI), .arr 3 1 (((propR r c).next).map encI), .arr 3 1 (((propR r c).match_).map encI), .arr 93 10 ((propRecs r c).map encRec), .arr 76 17 ((propOuts r c).map encOut)] := by
  obtain ⟨z1, z2, z3, z4⟩ := id hz
  refine FnSpec.of 64 Try.func19 rfl Try.ntmps19 (by simp) (AW.weakK ?_)
  by_cases hok : raftOk r = true
  · skip
    have hokn := raftOk1_nums (raftOk_1 hok)
    refine AW.seq ?_
    refine AW.region (At.start ?_)
    refine At.auto 6 (by kernel_rfl) ?_
    refine At.done rfl ?_
    refine AW.seq ?_
    refine AW.weak (Sub.nils [⟨true, 104, some 6, 5001, 88, 6⟩, ⟨true, 104, some 7, 5002, 3, 1⟩, ⟨true, 104, some 8, 5003, 3, 1⟩, ⟨true, 104, some 9, 5004, 3, 1⟩] (by kernel_rfl)) ?_
    refine AW.region (At.start ?_)
    refine At.auto 1 (by kernel_rfl) ?_
    refine At.call (impl_stepOf_spec  r (by first | exact hz | (unfold SmallR; simp only [List.length_append, List.length_set, List.length_cons, List.length_nil]; omega))) Try.call39 true [] [(1320, 0), (1321, 1), (1322, 2), (1323, 3), (1324, 4), (1325, 5), (1326, 6)] [] (by kernel_rfl) (by kernel_rfl) (by kernel_rfl) (by kernel_rfl) (by kernel_rfl) trivial ?_
    refine At.auto 1 (by kernel_rfl) ?_
    refine At.done rfl ?_
    refine AW.seq ?_
    refine AW.seq ?_
    refine AW.region (At.start ?_)
    refine At.auto 1 (by kernel_rfl) ?_
    refine At.call (impl_RaftOk_spec  r (by first | exact hz | (unfold SmallR; simp only [List.length_append, List.length_set, List.length_cons, List.length_nil]; omega))) Try.call40 true [] [] [] (by kernel_rfl) (by kernel_rfl) (by kernel_rfl) (by kernel_rfl) (by kernel_rfl) trivial ?_
    refine At.auto 2 (by kernel_rfl) ?_
    refine At.say 20 (.bool (!(raftOk r))) (.bool false) (by kernel_rfl) (sayB (by rw [show (raftOk r) = true from hok]; rfl)) ?_
    refine At.auto 5 (by kernel_rfl) ?_
    by_cases h1 : r.role = 3
    · refine At.say 25 (.bool (r.role != 3)) (.bool false) (by kernel_rfl) (sayUF h1) ?_
      have hnx := raftOk_next hok h1
      refine At.auto 1 (by kernel_rfl) ?_
      refine At.call (impl_CmdOk_spec  c ) Try.call55 true [] [] [] (by kernel_rfl) (by kernel_rfl) (by kernel_rfl) (by kernel_rfl) (by kernel_rfl) trivial ?_
      refine At.auto 3 (by kernel_rfl) ?_
      by_cases h2 : (cmdOk c) = true
      · refine At.say 30 (.bool (!(cmdOk c))) (.bool false) (by kernel_rfl) (sayNF (sayB h2)) ?_
        refine At.auto 4 (by kernel_rfl) ?_
        refine At.say 34 (.int .i64 (((r.hard.log.map encEnt).length : Nat) : Int)) (.int .i64 (r.hard.log.length : Int)) (by kernel_rfl) (sayLen _ _) ?_
        refine At.auto 2 (by kernel_rfl) ?_
        refine At.done rfl ?_
        refine AW.cond (decide ((r.hard.log.length : Int) ≥ 80)) (by kernel_rfl) (fun hb => ?_) (fun hb => ?_)
        · have h3 : (r.hard.log.length : Int) ≥ 80 := by simpa using hb
          clear hb
          refine AW.seq ?_
          refine AW.region (At.start ?_)
          refine At.auto 1 (by kernel_rfl) ?_
          refine At.call (impl_stepper_none_T_spec  (⟨r, r, [], []⟩ : Stepper) (by first | exact hz | (unfold SmallR; simp only [List.length_append, List.length_set, List.length_cons, List.length_nil]; omega)) hok) Try.call56 true [(1320, 0), (1321, 1), (1322, 2), (1323, 3), (1324, 4), (1325, 5), (1326, 6)] [(1780, 7), (1781, 8), (1782, 9), (1783, 10), (1784, 11), (1785, 12)] [] (by kernel_rfl) (by kernel_rfl) (by kernel_rfl) (by kernel_rfl) (by kernel_rfl) trivial ?_
          refine At.auto 8 (by kernel_rfl) ?_
          refine At.done rfl ?_
          refine AW.seq ?_
          refine AW.region (At.start ?_)
          refine At.auto 5 (by kernel_rfl) ?_
          refine At.done rfl ?_
          refine AW.ret ?_
          refine ⟨_, Sub.nils [⟨false, 5, none, 5005, 93, 10⟩, ⟨false, 6, none, 5006, 76, 17⟩] (by kernel_rfl), ?_⟩
          refine KF.conv (fun w => .tup [.agg [.int .i64 w.id, .int .i64 w.of_, .int .i64 w.role, .int .i64 w.commit, .int .i64 w.hard.term, .int .i64 w.hard.vote, .ref 0, .ref 1, .ref 2, .ref 3], .ref 4, .ref 5, .bool (propOk r c)]) (fun w => [.arr 88 6 (w.hard.log.map encEnt), .arr 3 1 (w.yes.map encI), .arr 3 1 (w.next.map encI), .arr 3 1 (w.match_.map encI), .arr 93 10 ((propRecs r c).map encRec), .arr 76 17 ((propOuts r c).map encOut)]) (show (r) = (propR r c) from by first | (have q : propOk r c = true := (by grind [propOk]); first | exact q.symm | (simp only [propR, propRecs, propOuts, if_pos q]; done) | (simp only [propR, propRecs, propOuts, if_pos q]; first | rfl | (simp [endRecs, had, put, propE, putRec, h1, h2, h3]; done) | simp [endRecs, had, put, propE, putRec])) | (have q : propOk r c = false := (by grind [propOk]); simp [propR, propRecs, propOuts, same, hok, q])) ?_
          refine KF.conv (fun w => .tup [.agg [.int .i64 r.id, .int .i64 r.of_, .int .i64 r.role, .int .i64 r.commit, .int .i64 r.hard.term, .int .i64 r.hard.vote, .ref 0, .ref 1, .ref 2, .ref 3], .ref 4, .ref 5, .bool (propOk r c)]) (fun w => [.arr 88 6 (r.hard.log.map encEnt), .arr 3 1 (r.yes.map encI), .arr 3 1 (r.next.map encI), .arr 3 1 (r.match_.map encI), .arr 93 10 (w.map encRec), .arr 76 17 ((propOuts r c).map encOut)]) (show ([]) = (propRecs r c) from by first | (have q : propOk r c = true := (by grind [propOk]); first | exact q.symm | (simp only [propR, propRecs, propOuts, if_pos q]; done) | (simp only [propR, propRecs, propOuts, if_pos q]; first | rfl | (simp [endRecs, had, put, propE, putRec, h1, h2, h3]; done) | simp [endRecs, had, put, propE, putRec])) | (have q : propOk r c = false := (by grind [propOk]); simp [propR, propRecs, propOuts, same, hok, q])) ?_
          refine KF.conv (fun w => .tup [.agg [.int .i64 r.id, .int .i64 r.of_, .int .i64 r.role, .int .i64 r.commit, .int .i64 r.hard.term, .int .i64 r.hard.vote, .ref 0, .ref 1, .ref 2, .ref 3], .ref 4, .ref 5, .bool (propOk r c)]) (fun w => [.arr 88 6 (r.hard.log.map encEnt), .arr 3 1 (r.yes.map encI), .arr 3 1 (r.next.map encI), .arr 3 1 (r.match_.map encI), .arr 93 10 [], .arr 76 17 (w.map encOut)]) (show ([]) = (propOuts r c) from by first | (have q : propOk r c = true := (by grind [propOk]); first | exact q.symm | (simp only [propR, propRecs, propOuts, if_pos q]; done) | (simp only [propR, propRecs, propOuts, if_pos q]; first | rfl | (simp [endRecs, had, put, propE, putRec, h1, h2, h3]; done) | simp [endRecs, had, put, propE, putRec])) | (have q : propOk r c = false := (by grind [propOk]); simp [propR, propRecs, propOuts, same, hok, q])) ?_
          refine KF.conv (fun w => .tup [.agg [.int .i64 r.id, .int .i64 r.of_, .int .i64 r.role, .int .i64 r.commit, .int .i64 r.hard.term, .int .i64 r.hard.vote, .ref 0, .ref 1, .ref 2, .ref 3], .ref 4, .ref 5, .bool w]) (fun w => [.arr 88 6 (r.hard.log.map encEnt), .arr 3 1 (r.yes.map encI), .arr 3 1 (r.next.map encI), .arr 3 1 (r.match_.map encI), .arr 93 10 [], .arr 76 17 []]) (show (false) = (propOk r c) from by first | (have q : propOk r c = true := (by grind [propOk]); first | exact q.symm | (simp only [propR, propRecs, propOuts, if_pos q]; done) | (simp only [propR, propRecs, propOuts, if_pos q]; first | rfl | (simp [endRecs, had, put, propE, putRec, h1, h2, h3]; done) | simp [endRecs, had, put, propE, putRec])) | (have q : propOk r c = false := (by grind [propOk]); simp [propR, propRecs, propOuts, same, hok, q])) ?_
          exact KF.mk (.inr rfl) [(1780, 0), (1781, 1), (1782, 2), (1783, 3), (5005, 4), (5006, 5)] [.agg [.int .i64 r.id, .int .i64 r.of_, .int .i64 r.role, .int .i64 r.commit, .int .i64 r.hard.term, .int .i64 r.hard.vote, .ref 1780, .ref 1781, .ref 1782, .ref 1783], .ref 5005, .ref 5006, .bool false] (by kernel_rfl) (by kernel_rfl) (by kernel_rfl) (by kernel_rfl) (by kernel_rfl)
        · have h3 : ¬ ((r.hard.log.length : Int) ≥ 80) := by simpa using hb
          clear hb
          refine AW.skip ?_
          refine AW.seq ?_
          refine AW.region (At.start ?_)
          refine At.auto 6 (by kernel_rfl) ?_
          refine At.call (impl_stepper_put_spec  (⟨r, r, [], []⟩ : Stepper) (⟨r.hard.term, c⟩ : Ent) (by first | omega | (dsimp only; omega) | (simp only [List.length_map, List.length_append, List.length_take, List.length_drop, List.length_replicate, List.length_set, List.length_cons, List.length_nil]; omega)) (by first | omega | (dsimp only; omega) | (simp only [List.length_map, List.length_append, List.length_take, List.length_drop, List.length_replicate, List.length_set, List.length_cons, List.length_nil]; omega))) Try.call57 true [(1320, 0), (1321, 1), (1322, 2), (1323, 3), (1324, 4), (1325, 5), (1326, 6)] [(2000, 7), (2001, 8)] [] (by kernel_rfl) (by kernel_rfl) (by kernel_rfl) (by kernel_rfl) (by kernel_rfl) trivial ?_
          refine At.done rfl ?_
          refine AW.seq ?_
          refine AW.region (At.start ?_)
          refine At.auto 1 (by kernel_rfl) ?_
          refine At.call (impl_stepper_had_spec  (⟨⟨r.id, r.of_, r.role, r.commit, ⟨r.hard.term, r.hard.vote, r.hard.log ++ [(⟨r.hard.term, c⟩ : Ent)]⟩, r.yes, r.next, r.match_⟩, r, ([]) ++ [(⟨2, 0, 0, ((r.hard.log ++ [(⟨r.hard.term, c⟩ : Ent)]).length : Int), (⟨r.hard.term, c⟩ : Ent)⟩ : Rec)], []⟩ : Stepper) (by first | omega | (dsimp only; omega) | (simp only [List.length_map, List.length_append, List.length_take, List.length_drop, List.length_replicate, List.length_set, List.length_cons, List.length_nil]; omega))) Try.call58 true [(1320, 0), (2000, 1), (1322, 2), (1323, 3), (1324, 4), (2001, 5), (1326, 6)] [] [] (by kernel_rfl) (by kernel_rfl) (by kernel_rfl) (by kernel_rfl) (by kernel_rfl) trivial ?_
          refine At.done rfl ?_
          refine AW.seq ?_
          refine AW.region (At.start ?_)
          refine At.auto 1 (by kernel_rfl) ?_
          refine At.call (impl_stepper_sendAll_spec  (⟨⟨r.id, r.of_, r.role, if r.of_ = 1 then ((r.hard.log ++ [(⟨r.hard.term, c⟩ : Ent)]).length : Int) else r.commit, ⟨r.hard.term, r.hard.vote, r.hard.log ++ [(⟨r.hard.term, c⟩ : Ent)]⟩, r.yes, r.next, r.match_.set (r.id).toNat ((r.hard.log ++ [(⟨r.hard.term, c⟩ : Ent)]).length : Int)⟩, r, ([]) ++ [(⟨2, 0, 0, ((r.hard.log ++ [(⟨r.hard.term, c⟩ : Ent)]).length : Int), (⟨r.hard.term, c⟩ : Ent)⟩ : Rec)], []⟩ : Stepper) (by first | exact hz | (unfold SmallR; simp only [List.length_append, List.length_set, List.length_cons, List.length_nil]; omega)) (by first | omega | (dsimp only; omega) | (simp only [List.length_map, List.length_append, List.length_take, List.length_drop, List.length_replicate, List.length_set, List.length_cons, List.length_nil]; omega)) (by dsimp only; omega) (had_next (e := propE r c) hnx.2.1) (by first | omega | (dsimp only; omega) | (simp only [List.length_map, List.length_append, List.length_take, List.length_drop, List.length_replicate, List.length_set, List.length_cons, List.length_nil]; omega))) Try.call41 true [(1320, 0), (2000, 1), (1322, 2), (1323, 3), (1324, 4), (2001, 5), (1326, 6)] [(2080, 7)] [] (by kernel_rfl) (by kernel_rfl) (by kernel_rfl) (by kernel_rfl) (by kernel_rfl) trivial ?_
          refine At.done rfl ?_
          refine AW.seq ?_
          refine AW.region (At.start ?_)
          refine At.auto 1 (by kernel_rfl) ?_
          refine At.call (impl_stepper_end_spec  (⟨⟨r.id, r.of_, r.role, if r.of_ = 1 then ((r.hard.log ++ [(⟨r.hard.term, c⟩ : Ent)]).length : Int) else r.commit, ⟨r.hard.term, r.hard.vote, r.hard.log ++ [(⟨r.hard.term, c⟩ : Ent)]⟩, r.yes, r.next, r.match_.set (r.id).toNat ((r.hard.log ++ [(⟨r.hard.term, c⟩ : Ent)]).length : Int)⟩, r, ([]) ++ [(⟨2, 0, 0, ((r.hard.log ++ [(⟨r.hard.term, c⟩ : Ent)]).length : Int), (⟨r.hard.term, c⟩ : Ent)⟩ : Rec)], ([]) ++ sendAll (⟨r.id, r.of_, r.role, if r.of_ = 1 then ((r.hard.log ++ [(⟨r.hard.term, c⟩ : Ent)]).length : Int) else r.commit, ⟨r.hard.term, r.hard.vote, r.hard.log ++ [(⟨r.hard.term, c⟩ : Ent)]⟩, r.yes, r.next, r.match_.set (r.id).toNat ((r.hard.log ++ [(⟨r.hard.term, c⟩ : Ent)]).length : Int)⟩)⟩ : Stepper) (by first | omega | (dsimp only; omega) | (simp only [List.length_map, List.length_append, List.length_take, List.length_drop, List.length_replicate, List.length_set, List.length_cons, List.length_nil]; omega))) Try.call59 true [(1320, 0), (2000, 1), (1322, 2), (1323, 3), (1324, 4), (2001, 5), (2080, 6)] [(2140, 7)] [] (by kernel_rfl) (by kernel_rfl) (by kernel_rfl) (by kernel_rfl) (by kernel_rfl) trivial ?_
          refine At.auto 8 (by kernel_rfl) ?_
          refine At.done rfl ?_
          refine AW.seq ?_
          refine AW.region (At.start ?_)
          refine At.auto 7 (by kernel_rfl) ?_
          refine At.done rfl ?_
          refine AW.ret ?_
          refine ⟨_, Sub.refl _ _, ?_⟩
          refine KF.conv (fun w => .tup [.agg [.int .i64 w.id, .int .i64 w.of_, .int .i64 w.role, .int .i64 w.commit, .int .i64 w.hard.term, .int .i64 w.hard.vote, .ref 0, .ref 1, .ref 2, .ref 3], .ref 4, .ref 5, .bool (propOk r c)]) (fun w => [.arr 88 6 (w.hard.log.map encEnt), .arr 3 1 (w.yes.map encI), .arr 3 1 (w.next.map encI), .arr 3 1 (w.match_.map encI), .arr 93 10 ((propRecs r c).map encRec), .arr 76 17 ((propOuts r c).map encOut)]) (show ((⟨r.id, r.of_, r.role, if r.of_ = 1 then ((r.hard.log ++ [(⟨r.hard.term, c⟩ : Ent)]).length : Int) else r.commit, ⟨r.hard.term, r.hard.vote, r.hard.log ++ [(⟨r.hard.term, c⟩ : Ent)]⟩, r.yes, r.next, r.match_.set (r.id).toNat ((r.hard.log ++ [(⟨r.hard.term, c⟩ : Ent)]).length : Int)⟩ : Raft)) = (propR r c) from by first | (have q : propOk r c = true := (by grind [propOk]); first | exact q.symm | (simp only [propR, propRecs, propOuts, if_pos q]; done) | (simp only [propR, propRecs, propOuts, if_pos q]; first | rfl | (simp [endRecs, had, put, propE, putRec, h1, h2, h3]; done) | simp [endRecs, had, put, propE, putRec])) | (have q : propOk r c = false := (by grind [propOk]); simp [propR, propRecs, propOuts, same, hok, q])) ?_
          refine KF.conv (fun w => .tup [.agg [.int .i64 r.id, .int .i64 r.of_, .int .i64 r.role, .int .i64 (if r.of_ = 1 then ((r.hard.log ++ [(⟨r.hard.term, c⟩ : Ent)]).length : Int) else r.commit), .int .i64 r.hard.term, .int .i64 r.hard.vote, .ref 0, .ref 1, .ref 2, .ref 3], .ref 4, .ref 5, .bool (propOk r c)]) (fun w => [.arr 88 6 ((r.hard.log ++ [(⟨r.hard.term, c⟩ : Ent)]).map encEnt), .arr 3 1 (r.yes.map encI), .arr 3 1 (r.next.map encI), .arr 3 1 ((r.match_.set (r.id).toNat ((r.hard.log ++ [(⟨r.hard.term, c⟩ : Ent)]).length : Int)).map encI), .arr 93 10 (w.map encRec), .arr 76 17 ((propOuts r c).map encOut)]) (show (endRecs (⟨⟨r.id, r.of_, r.role, if r.of_ = 1 then ((r.hard.log ++ [(⟨r.hard.term, c⟩ : Ent)]).length : Int) else r.commit, ⟨r.hard.term, r.hard.vote, r.hard.log ++ [(⟨r.hard.term, c⟩ : Ent)]⟩, r.yes, r.next, r.match_.set (r.id).toNat ((r.hard.log ++ [(⟨r.hard.term, c⟩ : Ent)]).length : Int)⟩, r, ([]) ++ [(⟨2, 0, 0, ((r.hard.log ++ [(⟨r.hard.term, c⟩ : Ent)]).length : Int), (⟨r.hard.term, c⟩ : Ent)⟩ : Rec)], ([]) ++ sendAll (⟨r.id, r.of_, r.role, if r.of_ = 1 then ((r.hard.log ++ [(⟨r.hard.term, c⟩ : Ent)]).length : Int) else r.commit, ⟨r.hard.term, r.hard.vote, r.hard.log ++ [(⟨r.hard.term, c⟩ : Ent)]⟩, r.yes, r.next, r.match_.set (r.id).toNat ((r.hard.log ++ [(⟨r.hard.term, c⟩ : Ent)]).length : Int)⟩)⟩ : Stepper)) = (propRecs r c) from by first | (have q : propOk r c = true := (by grind [propOk]); first | exact q.symm | (simp only [propR, propRecs, propOuts, if_pos q]; done) | (simp only [propR, propRecs, propOuts, if_pos q]; first | rfl | (simp [endRecs, had, put, propE, putRec, h1, h2, h3]; done) | simp [endRecs, had, put, propE, putRec])) | (have q : propOk r c = false := (by grind [propOk]); simp [propR, propRecs, propOuts, same, hok, q])) ?_
          refine KF.conv (fun w => .tup [.agg [.int .i64 r.id, .int .i64 r.of_, .int .i64 r.role, .int .i64 (if r.of_ = 1 then ((r.hard.log ++ [(⟨r.hard.term, c⟩ : Ent)]).length : Int) else r.commit), .int .i64 r.hard.term, .int .i64 r.hard.vote, .ref 0, .ref 1, .ref 2, .ref 3], .ref 4, .ref 5, .bool (propOk r c)]) (fun w => [.arr 88 6 ((r.hard.log ++ [(⟨r.hard.term, c⟩ : Ent)]).map encEnt), .arr 3 1 (r.yes.map encI), .arr 3 1 (r.next.map encI), .arr 3 1 ((r.match_.set (r.id).toNat ((r.hard.log ++ [(⟨r.hard.term, c⟩ : Ent)]).length : Int)).map encI), .arr 93 10 ((endRecs (⟨⟨r.id, r.of_, r.role, if r.of_ = 1 then ((r.hard.log ++ [(⟨r.hard.term, c⟩ : Ent)]).length : Int) else r.commit, ⟨r.hard.term, r.hard.vote, r.hard.log ++ [(⟨r.hard.term, c⟩ : Ent)]⟩, r.yes, r.next, r.match_.set (r.id).toNat ((r.hard.log ++ [(⟨r.hard.term, c⟩ : Ent)]).length : Int)⟩, r, ([]) ++ [(⟨2, 0, 0, ((r.hard.log ++ [(⟨r.hard.term, c⟩ : Ent)]).length : Int), (⟨r.hard.term, c⟩ : Ent)⟩ : Rec)], ([]) ++ sendAll (⟨r.id, r.of_, r.role, if r.of_ = 1 then ((r.hard.log ++ [(⟨r.hard.term, c⟩ : Ent)]).length : Int) else r.commit, ⟨r.hard.term, r.hard.vote, r.hard.log ++ [(⟨r.hard.term, c⟩ : Ent)]⟩, r.yes, r.next, r.match_.set (r.id).toNat ((r.hard.log ++ [(⟨r.hard.term, c⟩ : Ent)]).length : Int)⟩)⟩ : Stepper)).map encRec), .arr 76 17 (w.map encOut)]) (show (([]) ++ sendAll (⟨r.id, r.of_, r.role, if r.of_ = 1 then ((r.hard.log ++ [(⟨r.hard.term, c⟩ : Ent)]).length : Int) else r.commit, ⟨r.hard.term, r.hard.vote, r.hard.log ++ [(⟨r.hard.term, c⟩ : Ent)]⟩, r.yes, r.next, r.match_.set (r.id).toNat ((r.hard.log ++ [(⟨r.hard.term, c⟩ : Ent)]).length : Int)⟩)) = (propOuts r c) from by first | (have q : propOk r c = true := (by grind [propOk]); first | exact q.symm | (simp only [propR, propRecs, propOuts, if_pos q]; done) | (simp only [propR, propRecs, propOuts, if_pos q]; first | rfl | (simp [endRecs, had, put, propE, putRec, h1, h2, h3]; done) | simp [endRecs, had, put, propE, putRec])) | (have q : propOk r c = false := (by grind [propOk]); simp [propR, propRecs, propOuts, same, hok, q])) ?_
          refine KF.conv (fun w => .tup [.agg [.int .i64 r.id, .int .i64 r.of_, .int .i64 r.role, .int .i64 (if r.of_ = 1 then ((r.hard.log ++ [(⟨r.hard.term, c⟩ : Ent)]).length : Int) else r.commit), .int .i64 r.hard.term, .int .i64 r.hard.vote, .ref 0, .ref 1, .ref 2, .ref 3], .ref 4, .ref 5, .bool w]) (fun w => [.arr 88 6 ((r.hard.log ++ [(⟨r.hard.term, c⟩ : Ent)]).map encEnt), .arr 3 1 (r.yes.map encI), .arr 3 1 (r.next.map encI), .arr 3 1 ((r.match_.set (r.id).toNat ((r.hard.log ++ [(⟨r.hard.term, c⟩ : Ent)]).length : Int)).map encI), .arr 93 10 ((endRecs (⟨⟨r.id, r.of_, r.role, if r.of_ = 1 then ((r.hard.log ++ [(⟨r.hard.term, c⟩ : Ent)]).length : Int) else r.commit, ⟨r.hard.term, r.hard.vote, r.hard.log ++ [(⟨r.hard.term, c⟩ : Ent)]⟩, r.yes, r.next, r.match_.set (r.id).toNat ((r.hard.log ++ [(⟨r.hard.term, c⟩ : Ent)]).length : Int)⟩, r, ([]) ++ [(⟨2, 0, 0, ((r.hard.log ++ [(⟨r.hard.term, c⟩ : Ent)]).length : Int), (⟨r.hard.term, c⟩ : Ent)⟩ : Rec)], ([]) ++ sendAll (⟨r.id, r.of_, r.role, if r.of_ = 1 then ((r.hard.log ++ [(⟨r.hard.term, c⟩ : Ent)]).length : Int) else r.commit, ⟨r.hard.term, r.hard.vote, r.hard.log ++ [(⟨r.hard.term, c⟩ : Ent)]⟩, r.yes, r.next, r.match_.set (r.id).toNat ((r.hard.log ++ [(⟨r.hard.term, c⟩ : Ent)]).length : Int)⟩)⟩ : Stepper)).map encRec), .arr 76 17 ((([]) ++ sendAll (⟨r.id, r.of_, r.role, if r.of_ = 1 then ((r.hard.log ++ [(⟨r.hard.term, c⟩ : Ent)]).length : Int) else r.commit, ⟨r.hard.term, r.hard.vote, r.hard.log ++ [(⟨r.hard.term, c⟩ : Ent)]⟩, r.yes, r.next, r.match_.set (r.id).toNat ((r.hard.log ++ [(⟨r.hard.term, c⟩ : Ent)]).length : Int)⟩)).map encOut)]) (show (true) = (propOk r c) from by first | (have q : propOk r c = true := (by grind [propOk]); first | exact q.symm | (simp only [propR, propRecs, propOuts, if_pos q]; done) | (simp only [propR, propRecs, propOuts, if_pos q]; first | rfl | (simp [endRecs, had, put, propE, putRec, h1, h2, h3]; done) | simp [endRecs, had, put, propE, putRec])) | (have q : propOk r c = false := (by grind [propOk]); simp [propR, propRecs, propOuts, same, hok, q])) ?_
          exact KF.mk (.inr rfl) [(2000, 0), (1322, 1), (1323, 2), (1324, 3), (2140, 4), (2080, 5)] [.agg [.int .i64 r.id, .int .i64 r.of_, .int .i64 r.role, .int .i64 (if r.of_ = 1 then ((r.hard.log ++ [(⟨r.hard.term, c⟩ : Ent)]).length : Int) else r.commit), .int .i64 r.hard.term, .int .i64 r.hard.vote, .ref 2000, .ref 1322, .ref 1323, .ref 1324], .ref 2140, .ref 2080, .bool true] (by kernel_rfl) (by kernel_rfl) (by kernel_rfl) (by kernel_rfl) (by kernel_rfl)
      · refine At.say 30 (.bool (!(cmdOk c))) (.bool true) (by kernel_rfl) (sayNT (sayB (Bool.eq_false_iff.2 h2))) ?_
        replace h2 := Bool.eq_false_iff.2 h2
        refine At.auto 6 (by kernel_rfl) ?_
        refine At.done rfl ?_
        refine AW.cond true (by kernel_rfl) (fun _ => ?_) (fun h => by cases h)
        refine AW.seq ?_
        refine AW.region (At.start ?_)
        refine At.auto 1 (by kernel_rfl) ?_
        refine At.call (impl_stepper_none_T_spec  (⟨r, r, [], []⟩ : Stepper) (by first | exact hz | (unfold SmallR; simp only [List.length_append, List.length_set, List.length_cons, List.length_nil]; omega)) hok) Try.call56 true [(1320, 0), (1321, 1), (1322, 2), (1323, 3), (1324, 4), (1325, 5), (1326, 6)] [(1780, 7), (1781, 8), (1782, 9), (1783, 10), (1784, 11), (1785, 12)] [] (by kernel_rfl) (by kernel_rfl) (by kernel_rfl) (by kernel_rfl) (by kernel_rfl) trivial ?_
        refine At.auto 8 (by kernel_rfl) ?_
        refine At.done rfl ?_
        refine AW.seq ?_
        refine AW.region (At.start ?_)
        refine At.auto 5 (by kernel_rfl) ?_
        refine At.done rfl ?_
        refine AW.ret ?_
        refine ⟨_, Sub.nils [⟨false, 5, none, 5007, 93, 10⟩, ⟨false, 6, none, 5008, 76, 17⟩] (by kernel_rfl), ?_⟩
        refine KF.conv (fun w => .tup [.agg [.int .i64 w.id, .int .i64 w.of_, .int .i64 w.role, .int .i64 w.commit, .int .i64 w.hard.term, .int .i64 w.hard.vote, .ref 0, .ref 1, .ref 2, .ref 3], .ref 4, .ref 5, .bool (propOk r c)]) (fun w => [.arr 88 6 (w.hard.log.map encEnt), .arr 3 1 (w.yes.map encI), .arr 3 1 (w.next.map encI), .arr 3 1 (w.match_.map encI), .arr 93 10 ((propRecs r c).map encRec), .arr 76 17 ((propOuts r c).map encOut)]) (show (r) = (propR r c) from by first | (have q : propOk r c = true := (by grind [propOk]); first | exact q.symm | (simp only [propR, propRecs, propOuts, if_pos q]; done) | (simp only [propR, propRecs, propOuts, if_pos q]; first | rfl | (simp [endRecs, had, put, propE, putRec, h1, h2]; done) | simp [endRecs, had, put, propE, putRec])) | (have q : propOk r c = false := (by grind [propOk]); simp [propR, propRecs, propOuts, same, hok, q])) ?_
        refine KF.conv (fun w => .tup [.agg [.int .i64 r.id, .int .i64 r.of_, .int .i64 r.role, .int .i64 r.commit, .int .i64 r.hard.term, .int .i64 r.hard.vote, .ref 0, .ref 1, .ref 2, .ref 3], .ref 4, .ref 5, .bool (propOk r c)]) (fun w => [.arr 88 6 (r.hard.log.map encEnt), .arr 3 1 (r.yes.map encI), .arr 3 1 (r.next.map encI), .arr 3 1 (r.match_.map encI), .arr 93 10 (w.map encRec), .arr 76 17 ((propOuts r c).map encOut)]) (show ([]) = (propRecs r c) from by first | (have q : propOk r c = true := (by grind [propOk]); first | exact q.symm | (simp only [propR, propRecs, propOuts, if_pos q]; done) | (simp only [propR, propRecs, propOuts, if_pos q]; first | rfl | (simp [endRecs, had, put, propE, putRec, h1, h2]; done) | simp [endRecs, had, put, propE, putRec])) | (have q : propOk r c = false := (by grind [propOk]); simp [propR, propRecs, propOuts, same, hok, q])) ?_
        refine KF.conv (fun w => .tup [.agg [.int .i64 r.id, .int .i64 r.of_, .int .i64 r.role, .int .i64 r.commit, .int .i64 r.hard.term, .int .i64 r.hard.vote, .ref 0, .ref 1, .ref 2, .ref 3], .ref 4, .ref 5, .bool (propOk r c)]) (fun w => [.arr 88 6 (r.hard.log.map encEnt), .arr 3 1 (r.yes.map encI), .arr 3 1 (r.next.map encI), .arr 3 1 (r.match_.map encI), .arr 93 10 [], .arr 76 17 (w.map encOut)]) (show ([]) = (propOuts r c) from by first | (have q : propOk r c = true := (by grind [propOk]); first | exact q.symm | (simp only [propR, propRecs, propOuts, if_pos q]; done) | (simp only [propR, propRecs, propOuts, if_pos q]; first | rfl | (simp [endRecs, had, put, propE, putRec, h1, h2]; done) | simp [endRecs, had, put, propE, putRec])) | (have q : propOk r c = false := (by grind [propOk]); simp [propR, propRecs, propOuts, same, hok, q])) ?_
        refine KF.conv (fun w => .tup [.agg [.int .i64 r.id, .int .i64 r.of_, .int .i64 r.role, .int .i64 r.commit, .int .i64 r.hard.term, .int .i64 r.hard.vote, .ref 0, .ref 1, .ref 2, .ref 3], .ref 4, .ref 5, .bool w]) (fun w => [.arr 88 6 (r.hard.log.map encEnt), .arr 3 1 (r.yes.map encI), .arr 3 1 (r.next.map encI), .arr 3 1 (r.match_.map encI), .arr 93 10 [], .arr 76 17 []]) (show (false) = (propOk r c) from by first | (have q : propOk r c = true := (by grind [propOk]); first | exact q.symm | (simp only [propR, propRecs, propOuts, if_pos q]; done) | (simp only [propR, propRecs, propOuts, if_pos q]; first | rfl | (simp [endRecs, had, put, propE, putRec, h1, h2]; done) | simp [endRecs, had, put, propE, putRec])) | (have q : propOk r c = false := (by grind [propOk]); simp [propR, propRecs, propOuts, same, hok, q])) ?_
        exact KF.mk (.inr rfl) [(1780, 0), (1781, 1), (1782, 2), (1783, 3), (5007, 4), (5008, 5)] [.agg [.int .i64 r.id, .int .i64 r.of_, .int .i64 r.role, .int .i64 r.commit, .int .i64 r.hard.term, .int .i64 r.hard.vote, .ref 1780, .ref 1781, .ref 1782, .ref 1783], .ref 5007, .ref 5008, .bool false] (by kernel_rfl) (by kernel_rfl) (by kernel_rfl) (by kernel_rfl) (by kernel_rfl)
    · refine At.say 25 (.bool (r.role != 3)) (.bool true) (by kernel_rfl) (sayUT h1) ?_
      refine At.auto 11 (by kernel_rfl) ?_
      refine At.done rfl ?_
      refine AW.cond true (by kernel_rfl) (fun _ => ?_) (fun h => by cases h)
      refine AW.seq ?_
      refine AW.region (At.start ?_)
      refine At.auto 1 (by kernel_rfl) ?_
      refine At.call (impl_stepper_none_T_spec  (⟨r, r, [], []⟩ : Stepper) (by first | exact hz | (unfold SmallR; simp only [List.length_append, List.length_set, List.length_cons, List.length_nil]; omega)) hok) Try.call56 true [(1320, 0), (1321, 1), (1322, 2), (1323, 3), (1324, 4), (1325, 5), (1326, 6)] [(1780, 7), (1781, 8), (1782, 9), (1783, 10), (1784, 11), (1785, 12)] [] (by kernel_rfl) (by kernel_rfl) (by kernel_rfl) (by kernel_rfl) (by kernel_rfl) trivial ?_
      refine At.auto 8 (by kernel_rfl) ?_
      refine At.done rfl ?_
      refine AW.seq ?_
      refine AW.region (At.start ?_)
      refine At.auto 5 (by kernel_rfl) ?_
      refine At.done rfl ?_
      refine AW.ret ?_
      refine ⟨_, Sub.nils [⟨false, 5, none, 5009, 93, 10⟩, ⟨false, 6, none, 5010, 76, 17⟩] (by kernel_rfl), ?_⟩
      refine KF.conv (fun w => .tup [.agg [.int .i64 w.id, .int .i64 w.of_, .int .i64 w.role, .int .i64 w.commit, .int .i64 w.hard.term, .int .i64 w.hard.vote, .ref 0, .ref 1, .ref 2, .ref 3], .ref 4, .ref 5, .bool (propOk r c)]) (fun w => [.arr 88 6 (w.hard.log.map encEnt), .arr 3 1 (w.yes.map encI), .arr 3 1 (w.next.map encI), .arr 3 1 (w.match_.map encI), .arr 93 10 ((propRecs r c).map encRec), .arr 76 17 ((propOuts r c).map encOut)]) (show (r) = (propR r c) from by first | (have q : propOk r c = true := (by grind [propOk]); first | exact q.symm | (simp only [propR, propRecs, propOuts, if_pos q]; done) | (simp only [propR, propRecs, propOuts, if_pos q]; first | rfl | (simp [endRecs, had, put, propE, putRec, h1]; done) | simp [endRecs, had, put, propE, putRec])) | (have q : propOk r c = false := (by grind [propOk]); simp [propR, propRecs, propOuts, same, hok, q])) ?_
      refine KF.conv (fun w => .tup [.agg [.int .i64 r.id, .int .i64 r.of_, .int .i64 r.role, .int .i64 r.commit, .int .i64 r.hard.term, .int .i64 r.hard.vote, .ref 0, .ref 1, .ref 2, .ref 3], .ref 4, .ref 5, .bool (propOk r c)]) (fun w => [.arr 88 6 (r.hard.log.map encEnt), .arr 3 1 (r.yes.map encI), .arr 3 1 (r.next.map encI), .arr 3 1 (r.match_.map encI), .arr 93 10 (w.map encRec), .arr 76 17 ((propOuts r c).map encOut)]) (show ([]) = (propRecs r c) from by first | (have q : propOk r c = true := (by grind [propOk]); first | exact q.symm | (simp only [propR, propRecs, propOuts, if_pos q]; done) | (simp only [propR, propRecs, propOuts, if_pos q]; first | rfl | (simp [endRecs, had, put, propE, putRec, h1]; done) | simp [endRecs, had, put, propE, putRec])) | (have q : propOk r c = false := (by grind [propOk]); simp [propR, propRecs, propOuts, same, hok, q])) ?_
      refine KF.conv (fun w => .tup [.agg [.int .i64 r.id, .int .i64 r.of_, .int .i64 r.role, .int .i64 r.commit, .int .i64 r.hard.term, .int .i64 r.hard.vote, .ref 0, .ref 1, .ref 2, .ref 3], .ref 4, .ref 5, .bool (propOk r c)]) (fun w => [.arr 88 6 (r.hard.log.map encEnt), .arr 3 1 (r.yes.map encI), .arr 3 1 (r.next.map encI), .arr 3 1 (r.match_.map encI), .arr 93 10 [], .arr 76 17 (w.map encOut)]) (show ([]) = (propOuts r c) from by first | (have q : propOk r c = true := (by grind [propOk]); first | exact q.symm | (simp only [propR, propRecs, propOuts, if_pos q]; done) | (simp only [propR, propRecs, propOuts, if_pos q]; first | rfl | (simp [endRecs, had, put, propE, putRec, h1]; done) | simp [endRecs, had, put, propE, putRec])) | (have q : propOk r c = false := (by grind [propOk]); simp [propR, propRecs, propOuts, same, hok, q])) ?_
      refine KF.conv (fun w => .tup [.agg [.int .i64 r.id, .int .i64 r.of_, .int .i64 r.role, .int .i64 r.commit, .int .i64 r.hard.term, .int .i64 r.hard.vote, .ref 0, .ref 1, .ref 2, .ref 3], .ref 4, .ref 5, .bool w]) (fun w => [.arr 88 6 (r.hard.log.map encEnt), .arr 3 1 (r.yes.map encI), .arr 3 1 (r.next.map encI), .arr 3 1 (r.match_.map encI), .arr 93 10 [], .arr 76 17 []]) (show (false) = (propOk r c) from by first | (have q : propOk r c = true := (by grind [propOk]); first | exact q.symm | (simp only [propR, propRecs, propOuts, if_pos q]; done) | (simp only [propR, propRecs, propOuts, if_pos q]; first | rfl | (simp [endRecs, had, put, propE, putRec, h1]; done) | simp [endRecs, had, put, propE, putRec])) | (have q : propOk r c = false := (by grind [propOk]); simp [propR, propRecs, propOuts, same, hok, q])) ?_
      exact KF.mk (.inr rfl) [(1780, 0), (1781, 1), (1782, 2), (1783, 3), (5009, 4), (5010, 5)] [.agg [.int .i64 r.id, .int .i64 r.of_, .int .i64 r.role, .int .i64 r.commit, .int .i64 r.hard.term, .int .i64 r.hard.vote, .ref 1780, .ref 1781, .ref 1782, .ref 1783], .ref 5009, .ref 5010, .bool false] (by kernel_rfl) (by kernel_rfl) (by kernel_rfl) (by kernel_rfl) (by kernel_rfl)
  · skip
    refine AW.seq ?_
    refine AW.region (At.start ?_)
    refine At.auto 6 (by kernel_rfl) ?_
    refine At.done rfl ?_
    refine AW.seq ?_
    refine AW.weak (Sub.nils [⟨true, 104, some 6, 5001, 88, 6⟩, ⟨true, 104, some 7, 5002, 3, 1⟩, ⟨true, 104, some 8, 5003, 3, 1⟩, ⟨true, 104, some 9, 5004, 3, 1⟩] (by kernel_rfl)) ?_
    refine AW.region (At.start ?_)
    refine At.auto 1 (by kernel_rfl) ?_
    refine At.call (impl_stepOf_spec  r (by first | exact hz | (unfold SmallR; simp only [List.length_append, List.length_set, List.length_cons, List.length_nil]; omega))) Try.call39 true [] [(1320, 0), (1321, 1), (1322, 2), (1323, 3), (1324, 4), (1325, 5), (1326, 6)] [] (by kernel_rfl) (by kernel_rfl) (by kernel_rfl) (by kernel_rfl) (by kernel_rfl) trivial ?_
    refine At.auto 1 (by kernel_rfl) ?_
    refine At.done rfl ?_
    refine AW.seq ?_
    refine AW.seq ?_
    refine AW.region (At.start ?_)
    refine At.auto 1 (by kernel_rfl) ?_
    refine At.call (impl_RaftOk_spec  r (by first | exact hz | (unfold SmallR; simp only [List.length_append, List.length_set, List.length_cons, List.length_nil]; omega))) Try.call40 true [] [] [] (by kernel_rfl) (by kernel_rfl) (by kernel_rfl) (by kernel_rfl) (by kernel_rfl) trivial ?_
    refine At.auto 2 (by kernel_rfl) ?_
    refine At.say 20 (.bool (!(raftOk r))) (.bool true) (by kernel_rfl) (sayB (by rw [show (raftOk r) = false from (Bool.eq_false_iff.2 hok)]; rfl)) ?_
    refine At.auto 16 (by kernel_rfl) ?_
    refine At.done rfl ?_
    refine AW.cond true (by kernel_rfl) (fun _ => ?_) (fun h => by cases h)
    refine AW.seq ?_
    refine AW.region (At.start ?_)
    refine At.auto 1 (by kernel_rfl) ?_
    refine At.call (impl_stepper_none_F_spec  (⟨r, r, [], []⟩ : Stepper) (by first | exact hz | (unfold SmallR; simp only [List.length_append, List.length_set, List.length_cons, List.length_nil]; omega)) hok) Try.call56 true [(1320, 0), (1321, 1), (1322, 2), (1323, 3), (1324, 4), (1325, 5), (1326, 6)] [(1780, 7), (1781, 8), (1782, 9), (1783, 10), (1784, 11), (1785, 12)] [] (by kernel_rfl) (by kernel_rfl) (by kernel_rfl) (by kernel_rfl) (by kernel_rfl) trivial ?_
    refine At.auto 8 (by kernel_rfl) ?_
    refine At.done rfl ?_
    refine AW.seq ?_
    refine AW.region (At.start ?_)
    refine At.auto 5 (by kernel_rfl) ?_
    refine At.done rfl ?_
    refine AW.ret ?_
    refine ⟨_, Sub.nils [⟨false, 5, none, 5005, 93, 10⟩, ⟨false, 6, none, 5006, 76, 17⟩] (by kernel_rfl), ?_⟩
    refine KF.conv (fun w => .tup [.agg [.int .i64 w.id, .int .i64 w.of_, .int .i64 w.role, .int .i64 w.commit, .int .i64 w.hard.term, .int .i64 w.hard.vote, .ref 0, .ref 1, .ref 2, .ref 3], .ref 4, .ref 5, .bool (propOk r c)]) (fun w => [.arr 88 6 (w.hard.log.map encEnt), .arr 3 1 (w.yes.map encI), .arr 3 1 (w.next.map encI), .arr 3 1 (w.match_.map encI), .arr 93 10 ((propRecs r c).map encRec), .arr 76 17 ((propOuts r c).map encOut)]) (show ((⟨0, 0, 0, 0, ⟨0, 0, []⟩, [], [], []⟩ : Raft)) = (propR r c) from by simp [propR, propRecs, propOuts, propOk, same, hok]; try rfl) ?_
    refine KF.conv (fun w => .tup [.agg [.int .i64 0, .int .i64 0, .int .i64 0, .int .i64 0, .int .i64 0, .int .i64 0, .ref 0, .ref 1, .ref 2, .ref 3], .ref 4, .ref 5, .bool (propOk r c)]) (fun w => [.arr 88 6 [], .arr 3 1 [], .arr 3 1 [], .arr 3 1 [], .arr 93 10 (w.map encRec), .arr 76 17 ((propOuts r c).map encOut)]) (show ([]) = (propRecs r c) from by simp [propR, propRecs, propOuts, propOk, same, hok]; try rfl) ?_
    refine KF.conv (fun w => .tup [.agg [.int .i64 0, .int .i64 0, .int .i64 0, .int .i64 0, .int .i64 0, .int .i64 0, .ref 0, .ref 1, .ref 2, .ref 3], .ref 4, .ref 5, .bool (propOk r c)]) (fun w => [.arr 88 6 [], .arr 3 1 [], .arr 3 1 [], .arr 3 1 [], .arr 93 10 [], .arr 76 17 (w.map encOut)]) (show ([]) = (propOuts r c) from by simp [propR, propRecs, propOuts, propOk, same, hok]; try rfl) ?_
    refine KF.conv (fun w => .tup [.agg [.int .i64 0, .int .i64 0, .int .i64 0, .int .i64 0, .int .i64 0, .int .i64 0, .ref 0, .ref 1, .ref 2, .ref 3], .ref 4, .ref 5, .bool w]) (fun w => [.arr 88 6 [], .arr 3 1 [], .arr 3 1 [], .arr 3 1 [], .arr 93 10 [], .arr 76 17 []]) (show (false) = (propOk r c) from by simp [propR, propRecs, propOuts, propOk, same, hok]; try rfl) ?_
    exact KF.mk (.inr rfl) [(1780, 0), (1781, 1), (1782, 2), (1783, 3), (5005, 4), (5006, 5)] [.agg [.int .i64 0, .int .i64 0, .int .i64 0, .int .i64 0, .int .i64 0, .int .i64 0, .ref 1780, .ref 1781, .ref 1782, .ref 1783], .ref 5005, .ref 5006, .bool false] (by kernel_rfl) (by kernel_rfl) (by kernel_rfl) (by kernel_rfl) (by kernel_rfl)
set_option maxRecDepth 100000 in
set_option maxHeartbeats 4000000 in
theorem laws_eqCmd_spec  (a : Cmd) (b : Cmd) : FnSpec Try.prog 75 [.agg [.int .i64 a.kind, .int .i64 a.release, .int .i64 a.node, .int .i64 a.size, .str a.digest], .agg [.int .i64 b.kind, .int .i64 b.release, .int .i64 b.node, .int .i64 b.size, .str b.digest]] [] (.bool (cmdEq a b)) [] := by
  refine FnSpec.of 30 Try.func75 rfl Try.ntmps75 (by simp) (AW.weakK ?_)
  refine AW.seq ?_
  refine AW.region (At.start ?_)
  refine At.auto 3 (by kernel_rfl) ?_
  refine At.done rfl ?_
  refine AW.seq ?_
  refine AW.seq ?_
  refine AW.region (At.start ?_)
  refine At.auto 5 (by kernel_rfl) ?_
  refine At.done rfl ?_
  refine AW.cond (a.kind != b.kind) (by kernel_rfl) (fun hb => ?_) (fun hb => ?_)
  · have h1 : ¬ (a.kind = b.kind) := by simpa using hb
    clear hb
    refine AW.seq ?_
    refine AW.region (At.start ?_)
    refine At.auto 1 (by kernel_rfl) ?_
    refine At.done rfl ?_
    refine AW.ret ?_
    refine ⟨_, Sub.refl _ _, ?_⟩
    refine KF.conv (fun w => .bool w) (fun w => []) (show (false) = (cmdEq a b) from by simp [cmdEq, *]) ?_
    exact KF.mk (.inr rfl) [] [.bool false] (by kernel_rfl) (by kernel_rfl) (by kernel_rfl) (by kernel_rfl) (by kernel_rfl)
  · have h1 : a.kind = b.kind := by simpa using hb
    clear hb
    refine AW.skip ?_
    refine AW.seq ?_
    refine AW.seq ?_
    refine AW.region (At.start ?_)
    refine At.auto 5 (by kernel_rfl) ?_
    refine At.done rfl ?_
    refine AW.cond (a.release != b.release) (by kernel_rfl) (fun hb => ?_) (fun hb => ?_)
    · have h2 : ¬ (a.release = b.release) := by simpa using hb
      clear hb
      refine AW.seq ?_
      refine AW.region (At.start ?_)
      refine At.auto 1 (by kernel_rfl) ?_
      refine At.done rfl ?_
      refine AW.ret ?_
      refine ⟨_, Sub.refl _ _, ?_⟩
      refine KF.conv (fun w => .bool w) (fun w => []) (show (false) = (cmdEq a b) from by simp [cmdEq, *]) ?_
      exact KF.mk (.inr rfl) [] [.bool false] (by kernel_rfl) (by kernel_rfl) (by kernel_rfl) (by kernel_rfl) (by kernel_rfl)
    · have h2 : a.release = b.release := by simpa using hb
      clear hb
      refine AW.skip ?_
      refine AW.seq ?_
      refine AW.seq ?_
      refine AW.region (At.start ?_)
      refine At.auto 5 (by kernel_rfl) ?_
      refine At.done rfl ?_
      refine AW.cond (a.node != b.node) (by kernel_rfl) (fun hb => ?_) (fun hb => ?_)
      · have h3 : ¬ (a.node = b.node) := by simpa using hb
        clear hb
        refine AW.seq ?_
        refine AW.region (At.start ?_)
        refine At.auto 1 (by kernel_rfl) ?_
        refine At.done rfl ?_
        refine AW.ret ?_
        refine ⟨_, Sub.refl _ _, ?_⟩
        refine KF.conv (fun w => .bool w) (fun w => []) (show (false) = (cmdEq a b) from by simp [cmdEq, *]) ?_
        exact KF.mk (.inr rfl) [] [.bool false] (by kernel_rfl) (by kernel_rfl) (by kernel_rfl) (by kernel_rfl) (by kernel_rfl)
      · have h3 : a.node = b.node := by simpa using hb
        clear hb
        refine AW.skip ?_
        refine AW.seq ?_
        refine AW.seq ?_
        refine AW.region (At.start ?_)
        refine At.auto 5 (by kernel_rfl) ?_
        refine At.done rfl ?_
        refine AW.cond (a.size != b.size) (by kernel_rfl) (fun hb => ?_) (fun hb => ?_)
        · have h4 : ¬ (a.size = b.size) := by simpa using hb
          clear hb
          refine AW.seq ?_
          refine AW.region (At.start ?_)
          refine At.auto 1 (by kernel_rfl) ?_
          refine At.done rfl ?_
          refine AW.ret ?_
          refine ⟨_, Sub.refl _ _, ?_⟩
          refine KF.conv (fun w => .bool w) (fun w => []) (show (false) = (cmdEq a b) from by simp [cmdEq, *]) ?_
          exact KF.mk (.inr rfl) [] [.bool false] (by kernel_rfl) (by kernel_rfl) (by kernel_rfl) (by kernel_rfl) (by kernel_rfl)
        · have h4 : a.size = b.size := by simpa using hb
          clear hb
          refine AW.skip ?_
          refine AW.seq ?_
          refine AW.seq ?_
          refine AW.region (At.start ?_)
          refine At.auto 5 (by kernel_rfl) ?_
          refine At.done rfl ?_
          refine AW.cond (!(a.digest.toList == b.digest.toList)) (by kernel_rfl) (fun hb => ?_) (fun hb => ?_)
          · have h5 : ¬ (a.digest.toList = b.digest.toList) := by simpa using hb
            clear hb
            refine AW.seq ?_
            refine AW.region (At.start ?_)
            refine At.auto 1 (by kernel_rfl) ?_
            refine At.done rfl ?_
            refine AW.ret ?_
            refine ⟨_, Sub.refl _ _, ?_⟩
            refine KF.conv (fun w => .bool w) (fun w => []) (show (false) = (cmdEq a b) from by simp [cmdEq, *]) ?_
            exact KF.mk (.inr rfl) [] [.bool false] (by kernel_rfl) (by kernel_rfl) (by kernel_rfl) (by kernel_rfl) (by kernel_rfl)
          · have h5 : a.digest.toList = b.digest.toList := by simpa using hb
            clear hb
            refine AW.skip ?_
            refine AW.seq ?_
            refine AW.region (At.start ?_)
            refine At.auto 1 (by kernel_rfl) ?_
            refine At.done rfl ?_
            refine AW.ret ?_
            refine ⟨_, Sub.refl _ _, ?_⟩
            refine KF.conv (fun w => .bool w) (fun w => []) (show (true) = (cmdEq a b) from by simp [cmdEq, *]) ?_
            exact KF.mk (.inr rfl) [] [.bool true] (by kernel_rfl) (by kernel_rfl) (by kernel_rfl) (by kernel_rfl) (by kernel_rfl)
set_option maxRecDepth 100000 in
set_option maxHeartbeats 4000000 in
theorem laws_eqEntry_spec  (a : Ent) (b : Ent) : FnSpec Try.prog 95 [.agg [.int .i64 a.term, .int .i64 a.cmd.kind, .int .i64 a.cmd.release, .int .i64 a.cmd.node, .int .i64 a.cmd.size, .str a.cmd.digest], .agg [.int .i64 b.term, .int .i64 b.cmd.kind, .int .i64 b.cmd.release, .int .i64 b.cmd.node, .int .i64 b.cmd.size, .str b.cmd.digest]] [] (.bool (entEq a b)) [] := by
  refine FnSpec.of 16 Try.func95 rfl Try.ntmps95 (by simp) (AW.weakK ?_)
  refine AW.seq ?_
  refine AW.region (At.start ?_)
  refine At.auto 3 (by kernel_rfl) ?_
  refine At.done rfl ?_
  refine AW.seq ?_
  refine AW.seq ?_
  refine AW.region (At.start ?_)
  refine At.auto 5 (by kernel_rfl) ?_
  refine At.done rfl ?_
  refine AW.cond (a.term != b.term) (by kernel_rfl) (fun hb => ?_) (fun hb => ?_)
  · have h1 : ¬ (a.term = b.term) := by simpa using hb
    clear hb
    refine AW.seq ?_
    refine AW.region (At.start ?_)
    refine At.auto 1 (by kernel_rfl) ?_
    refine At.done rfl ?_
    refine AW.ret ?_
    refine ⟨_, Sub.refl _ _, ?_⟩
    refine KF.conv (fun w => .bool w) (fun w => []) (show (false) = (entEq a b) from by simp [entEq, *]) ?_
    exact KF.mk (.inr rfl) [] [.bool false] (by kernel_rfl) (by kernel_rfl) (by kernel_rfl) (by kernel_rfl) (by kernel_rfl)
  · have h1 : a.term = b.term := by simpa using hb
    clear hb
    refine AW.skip ?_
    refine AW.seq ?_
    refine AW.seq ?_
    refine AW.region (At.start ?_)
    refine At.auto 4 (by kernel_rfl) ?_
    refine At.call (laws_eqCmd_spec  a.cmd b.cmd ) Try.call75 true [] [] [] (by kernel_rfl) (by kernel_rfl) (by kernel_rfl) (by kernel_rfl) (by kernel_rfl) trivial ?_
    refine At.auto 1 (by kernel_rfl) ?_
    refine At.done rfl ?_
    refine AW.cond (!(cmdEq a.cmd b.cmd)) (by kernel_rfl) (fun hb => ?_) (fun hb => ?_)
    · have h2 : (cmdEq a.cmd b.cmd) = false := by simpa using hb
      clear hb
      refine AW.seq ?_
      refine AW.region (At.start ?_)
      refine At.auto 1 (by kernel_rfl) ?_
      refine At.done rfl ?_
      refine AW.ret ?_
      refine ⟨_, Sub.refl _ _, ?_⟩
      refine KF.conv (fun w => .bool w) (fun w => []) (show (false) = (entEq a b) from by simp [entEq, *]) ?_
      exact KF.mk (.inr rfl) [] [.bool false] (by kernel_rfl) (by kernel_rfl) (by kernel_rfl) (by kernel_rfl) (by kernel_rfl)
    · have h2 : (cmdEq a.cmd b.cmd) = true := by simpa using hb
      clear hb
      refine AW.skip ?_
      refine AW.seq ?_
      refine AW.region (At.start ?_)
      refine At.auto 1 (by kernel_rfl) ?_
      refine At.done rfl ?_
      refine AW.ret ?_
      refine ⟨_, Sub.refl _ _, ?_⟩
      refine KF.conv (fun w => .bool w) (fun w => []) (show (true) = (entEq a b) from by simp [entEq, *]) ?_
      exact KF.mk (.inr rfl) [] [.bool true] (by kernel_rfl) (by kernel_rfl) (by kernel_rfl) (by kernel_rfl) (by kernel_rfl)
set_option maxRecDepth 100000 in
set_option maxHeartbeats 4000000 in
theorem laws_eqEntryS_spec  (a : List Ent) (b : List Ent) (ha : a.length ≤ 1048576) (hb : b.length ≤ 1048576) : FnSpec Try.prog 76 [.sl false 6 (a.map encEnt), .sl false 6 (b.map encEnt)] [] (.bool (listEq entEq a b)) [] := by
  refine FnSpec.of 27 Try.func76 rfl Try.ntmps76 (by simp) (AW.weakK ?_)
  refine AW.seq ?_
  refine AW.region (At.start ?_)
  refine At.auto 1 (by kernel_rfl) ?_
  refine At.done rfl ?_
  refine AW.seq ?_
  refine AW.seq ?_
  refine AW.region (At.start ?_)
  refine At.auto 2 (by kernel_rfl) ?_
  refine At.say 7 (.int .i64 (((a.map encEnt).length : Nat) : Int)) (.int .i64 (a.length : Int)) (by kernel_rfl) (sayLen _ _) ?_
  refine At.auto 2 (by kernel_rfl) ?_
  refine At.say 9 (.int .i64 (((b.map encEnt).length : Nat) : Int)) (.int .i64 (b.length : Int)) (by kernel_rfl) (sayLen _ _) ?_
  refine At.auto 1 (by kernel_rfl) ?_
  refine At.done rfl ?_
  refine AW.cond ((a.length : Int) != (b.length : Int)) (by kernel_rfl) (fun hb => ?_) (fun hb => ?_)
  · have h1 : ¬ ((a.length : Int) = (b.length : Int)) := by simpa using hb
    clear hb
    refine AW.seq ?_
    refine AW.region (At.start ?_)
    refine At.auto 1 (by kernel_rfl) ?_
    refine At.done rfl ?_
    refine AW.ret ?_
    refine ⟨_, Sub.refl _ _, ?_⟩
    refine KF.conv (fun w => .bool w) (fun w => []) (show (false) = (listEq entEq a b) from by first | (rw [listEq_len (by omega)]; done) | (rw [hR, dropCons he1, dropCons he2, listEq]; simp [eqI, *]; done) | (rw [hR, List.drop_of_length_le (by omega), List.drop_of_length_le (by omega)]; rfl)) ?_
    exact KF.mk (.inr rfl) [] [.bool false] (by kernel_rfl) (by kernel_rfl) (by kernel_rfl) (by kernel_rfl) (by kernel_rfl)
  · have h1 : (a.length : Int) = (b.length : Int) := by simpa using hb
    clear hb
    refine AW.skip ?_
    refine AW.seq ?_
    refine AW.seq ?_
    refine AW.region (At.start ?_)
    refine At.auto 1 (by kernel_rfl) ?_
    refine At.done rfl ?_
    refine AW.block ?_
    refine AW.loopW (fun (k : Nat) => Go.Sy.mk [.sl false 6 (a.map encEnt), .sl false 6 (b.map encEnt), .un, .un, .un, .int .i64 (k : Int)] []) (fun (k : Nat) => k ≤ a.length ∧ listEq entEq a b = listEq entEq (a.drop k) (b.drop k)) (fun (k : Nat) => a.length - k) 0 ⟨by omega, by rw [List.drop_zero, List.drop_zero]⟩ (Sub.of [] [true, true, false, false, false, true] _ _ (by kernel_rfl) (by kernel_rfl) (by kernel_rfl)) ?_
    rintro k ⟨hk, hR⟩
    refine AW.seq ?_
    refine AW.seq ?_
    refine AW.region (At.start ?_)
    refine At.auto 3 (by kernel_rfl) ?_
    refine At.say 13 (.int .i64 (((a.map encEnt).length : Nat) : Int)) (.int .i64 (a.length : Int)) (by kernel_rfl) (sayLen _ _) ?_
    refine At.auto 1 (by kernel_rfl) ?_
    refine At.done rfl ?_
    refine AW.cond (decide ((k : Int) < (a.length : Int))) (by kernel_rfl) (fun hb => ?_) (fun hb => ?_)
    · have h2 : (k : Int) < (a.length : Int) := by simpa using hb
      clear hb
      refine AW.skip ?_
      refine AW.seq ?_
      refine AW.block ?_
      refine AW.seq ?_
      refine AW.regionD Try_mix (At.start ?_)
      refine At.auto 2 (by kernel_rfl) ?_
      refine At.idxSl (t := 31) (d := 19) (x := .tmp 17) (y := .tmp 18) (p := false) (es := 6) (xs := (a.map encEnt)) (kd := .i64) (i := (k : Int)) (e := 88) (by kernel_rfl) (by kernel_rfl) (by kernel_rfl) (by kernel_rfl) (by omega) (by first | omega | (simp only [List.length_map, List.length_append, List.length_take, List.length_drop, List.length_replicate, List.length_set, List.length_cons, List.length_nil]; omega)) ?_
      refine Exists.elim (show ∃ e, a[k]? = some e from ⟨_, List.getElem?_eq_getElem (by first | omega | (simp only [List.length_map, List.length_append, List.length_take, List.length_drop, List.length_replicate, List.length_set, List.length_cons, List.length_nil]; omega))⟩) fun e1 he1 => ?_
      refine At.ldVp (t := 88) (d := 20) (x := .tmp 19) (p := false) (es := 6) (xs := (a.map encEnt)) (j := k) (off := 0) (b := true) (m := 6) (encEnt e1) (.agg [.int .i64 e1.term, .int .i64 e1.cmd.kind, .int .i64 e1.cmd.release, .int .i64 e1.cmd.node, .int .i64 e1.cmd.size, .str e1.cmd.digest]) (by kernel_rfl) (by kernel_rfl) (by kernel_rfl) (by kernel_rfl) (mapGet he1) (by kernel_rfl) ?_
      refine At.auto 2 (by kernel_rfl) ?_
      refine At.idxSl (t := 31) (d := 23) (x := .tmp 21) (y := .tmp 22) (p := false) (es := 6) (xs := (b.map encEnt)) (kd := .i64) (i := (k : Int)) (e := 88) (by kernel_rfl) (by kernel_rfl) (by kernel_rfl) (by kernel_rfl) (by omega) (by first | omega | (simp only [List.length_map, List.length_append, List.length_take, List.length_drop, List.length_replicate, List.length_set, List.length_cons, List.length_nil]; omega)) ?_
      refine Exists.elim (show ∃ e, b[k]? = some e from ⟨_, List.getElem?_eq_getElem (by first | omega | (simp only [List.length_map, List.length_append, List.length_take, List.length_drop, List.length_replicate, List.length_set, List.length_cons, List.length_nil]; omega))⟩) fun e2 he2 => ?_
      refine At.ldVp (t := 88) (d := 24) (x := .tmp 23) (p := false) (es := 6) (xs := (b.map encEnt)) (j := k) (off := 0) (b := true) (m := 6) (encEnt e2) (.agg [.int .i64 e2.term, .int .i64 e2.cmd.kind, .int .i64 e2.cmd.release, .int .i64 e2.cmd.node, .int .i64 e2.cmd.size, .str e2.cmd.digest]) (by kernel_rfl) (by kernel_rfl) (by kernel_rfl) (by kernel_rfl) (mapGet he2) (by kernel_rfl) ?_
      refine At.call (laws_eqEntry_spec  e1 e2 ) Try.call95 true [] [] [] (by kernel_rfl) (by kernel_rfl) (by kernel_rfl) (by kernel_rfl) (by kernel_rfl) trivial ?_
      refine At.auto 1 (by kernel_rfl) ?_
      refine At.done rfl ⟨by kernel_rfl, ?_⟩
      refine AW.cond (!(entEq e1 e2)) (by kernel_rfl) (fun hb => ?_) (fun hb => ?_)
      · have h3 : (entEq e1 e2) = false := by simpa using hb
        clear hb
        refine AW.seq ?_
        refine AW.region (At.start ?_)
        refine At.auto 1 (by kernel_rfl) ?_
        refine At.done rfl ?_
        refine AW.ret ?_
        refine ⟨_, Sub.refl _ _, ?_⟩
        refine KF.conv (fun w => .bool w) (fun w => []) (show (false) = (listEq entEq a b) from by first | (rw [listEq_len (by omega)]; done) | (rw [hR, dropCons he1, dropCons he2, listEq]; simp [eqI, *]; done) | (rw [hR, List.drop_of_length_le (by omega), List.drop_of_length_le (by omega)]; rfl)) ?_
        exact KF.mk (.inr rfl) [] [.bool false] (by kernel_rfl) (by kernel_rfl) (by kernel_rfl) (by kernel_rfl) (by kernel_rfl)
      · have h3 : (entEq e1 e2) = true := by simpa using hb
        clear hb
        refine AW.skip ?_
        refine AW.region (At.start ?_)
        refine At.auto 2 (by kernel_rfl) ?_
        refine At.say 16 (.int .i64 (IntKind.i64.wrap ((k : Int) + 1))) (.int .i64 ((k : Int) + 1)) (by kernel_rfl) (sayI _ (by omega)) ?_
        refine At.auto 1 (by kernel_rfl) ?_
        refine At.done rfl ?_
        exact ⟨k + 1, ⟨by omega, by rw [hR, dropCons he1, dropCons he2, listEq]; simp [eqI, *]⟩, (by omega), Sub.of [] [true, true, false, false, false, true] _ _ (by kernel_rfl) (by kernel_rfl) (by kernel_rfl)⟩
    · have h2 : ¬ ((k : Int) < (a.length : Int)) := by simpa using hb
      clear hb
      refine AW.exit ?_
      refine AW.seq ?_
      refine AW.region (At.start ?_)
      refine At.auto 1 (by kernel_rfl) ?_
      refine At.done rfl ?_
      refine AW.ret ?_
      refine ⟨_, Sub.refl _ _, ?_⟩
      refine KF.conv (fun w => .bool w) (fun w => []) (show (true) = (listEq entEq a b) from by first | (rw [listEq_len (by omega)]; done) | (rw [hR, dropCons he1, dropCons he2, listEq]; simp [eqI, *]; done) | (rw [hR, List.drop_of_length_le (by omega), List.drop_of_length_le (by omega)]; rfl)) ?_
      exact KF.mk (.inr rfl) [] [.bool true] (by kernel_rfl) (by kernel_rfl) (by kernel_rfl) (by kernel_rfl) (by kernel_rfl)
set_option maxRecDepth 100000 in
set_option maxHeartbeats 4000000 in
theorem laws_eqHard_spec  (a : Hard) (b : Hard) (ha : a.log.length ≤ 1048576) (hb : b.log.length ≤ 1048576) : FnSpec Try.prog 44 [.agg [.int .i64 a.term, .int .i64 a.vote, .sl false 6 (a.log.map encEnt)], .agg [.int .i64 b.term, .int .i64 b.vote, .sl false 6 (b.log.map encEnt)]] [] (.bool (hardEq a b)) [] := by
  refine FnSpec.of 21 Try.func44 rfl Try.ntmps44 (by simp) (AW.weakK ?_)
  refine AW.seq ?_
  refine AW.region (At.start ?_)
  refine At.auto 3 (by kernel_rfl) ?_
  refine At.done rfl ?_
  refine AW.seq ?_
  refine AW.seq ?_
  refine AW.region (At.start ?_)
  refine At.auto 5 (by kernel_rfl) ?_
  refine At.done rfl ?_
  refine AW.cond (a.term != b.term) (by kernel_rfl) (fun hb => ?_) (fun hb => ?_)
  · have h1 : ¬ (a.term = b.term) := by simpa using hb
    clear hb
    refine AW.seq ?_
    refine AW.region (At.start ?_)
    refine At.auto 1 (by kernel_rfl) ?_
    refine At.done rfl ?_
    refine AW.ret ?_
    refine ⟨_, Sub.refl _ _, ?_⟩
    refine KF.conv (fun w => .bool w) (fun w => []) (show (false) = (hardEq a b) from by simp [hardEq, *]) ?_
    exact KF.mk (.inr rfl) [] [.bool false] (by kernel_rfl) (by kernel_rfl) (by kernel_rfl) (by kernel_rfl) (by kernel_rfl)
  · have h1 : a.term = b.term := by simpa using hb
    clear hb
    refine AW.skip ?_
    refine AW.seq ?_
    refine AW.seq ?_
    refine AW.region (At.start ?_)
    refine At.auto 5 (by kernel_rfl) ?_
    refine At.done rfl ?_
    refine AW.cond (a.vote != b.vote) (by kernel_rfl) (fun hb => ?_) (fun hb => ?_)
    · have h2 : ¬ (a.vote = b.vote) := by simpa using hb
      clear hb
      refine AW.seq ?_
      refine AW.region (At.start ?_)
      refine At.auto 1 (by kernel_rfl) ?_
      refine At.done rfl ?_
      refine AW.ret ?_
      refine ⟨_, Sub.refl _ _, ?_⟩
      refine KF.conv (fun w => .bool w) (fun w => []) (show (false) = (hardEq a b) from by simp [hardEq, *]) ?_
      exact KF.mk (.inr rfl) [] [.bool false] (by kernel_rfl) (by kernel_rfl) (by kernel_rfl) (by kernel_rfl) (by kernel_rfl)
    · have h2 : a.vote = b.vote := by simpa using hb
      clear hb
      refine AW.skip ?_
      refine AW.seq ?_
      refine AW.seq ?_
      refine AW.region (At.start ?_)
      refine At.auto 4 (by kernel_rfl) ?_
      refine At.call (laws_eqEntryS_spec  a.log b.log (by first | omega | (dsimp only; omega) | (simp only [List.length_map, List.length_append, List.length_take, List.length_drop, List.length_replicate, List.length_set, List.length_cons, List.length_nil]; omega)) (by first | omega | (dsimp only; omega) | (simp only [List.length_map, List.length_append, List.length_take, List.length_drop, List.length_replicate, List.length_set, List.length_cons, List.length_nil]; omega))) Try.call76 true [] [] [] (by kernel_rfl) (by kernel_rfl) (by kernel_rfl) (by kernel_rfl) (by kernel_rfl) trivial ?_
      refine At.auto 1 (by kernel_rfl) ?_
      refine At.done rfl ?_
      refine AW.cond (!(listEq entEq a.log b.log)) (by kernel_rfl) (fun hb => ?_) (fun hb => ?_)
      · have h3 : (listEq entEq a.log b.log) = false := by simpa using hb
        clear hb
        refine AW.seq ?_
        refine AW.region (At.start ?_)
        refine At.auto 1 (by kernel_rfl) ?_
        refine At.done rfl ?_
        refine AW.ret ?_
        refine ⟨_, Sub.refl _ _, ?_⟩
        refine KF.conv (fun w => .bool w) (fun w => []) (show (false) = (hardEq a b) from by simp [hardEq, *]) ?_
        exact KF.mk (.inr rfl) [] [.bool false] (by kernel_rfl) (by kernel_rfl) (by kernel_rfl) (by kernel_rfl) (by kernel_rfl)
      · have h3 : (listEq entEq a.log b.log) = true := by simpa using hb
        clear hb
        refine AW.skip ?_
        refine AW.seq ?_
        refine AW.region (At.start ?_)
        refine At.auto 1 (by kernel_rfl) ?_
        refine At.done rfl ?_
        refine AW.ret ?_
        refine ⟨_, Sub.refl _ _, ?_⟩
        refine KF.conv (fun w => .bool w) (fun w => []) (show (true) = (hardEq a b) from by simp [hardEq, *]) ?_
        exact KF.mk (.inr rfl) [] [.bool true] (by kernel_rfl) (by kernel_rfl) (by kernel_rfl) (by kernel_rfl) (by kernel_rfl)
end Go.Proofs.Ytlmadhahghiedaa
