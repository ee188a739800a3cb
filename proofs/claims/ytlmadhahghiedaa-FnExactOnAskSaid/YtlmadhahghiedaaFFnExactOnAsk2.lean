/- The contracts of the functions that FnExactOnAsk reaches (each: what it answers, said over values), printed by a program of this session (wip/sy/g/gen.py). -/
import Derived.Test.YtlmadhahghiedaaFFnExactOnAsk1
set_option linter.unusedVariables false
set_option linter.unusedSimpArgs false
namespace Go.Proofs.Ytlmadhahghiedaa
open Go Go.Sy Go.Proofs
set_option maxRecDepth 100000 in
set_option maxHeartbeats 4000000 in
theorem spec_OnAsk_spec  (r : Raft) (m : Msg) (hz : SmallR r) (hm : m.entries.length ≤ 1048576) : FnSpec Try.prog 27 [.agg [.int .i64 r.id, .int .i64 r.of_, .int .i64 r.role, .int .i64 r.commit, .int .i64 r.hard.term, .int .i64 r.hard.vote, .sl false 6 (r.hard.log.map encEnt), .sl false 1 (r.yes.map encI), .sl false 1 (r.next.map encI), .sl false 1 (r.match_.map encI)], .agg [.int .i64 m.kind, .int .i64 m.from_, .int .i64 m.term, .int .i64 m.at_, .int .i64 m.atTerm, .int .i64 m.commit, .bool m.yes, .int .i64 m.release, .int .i64 m.part, .str m.bytes, .int .i64 m.cmd.kind, .int .i64 m.cmd.release, .int .i64 m.cmd.node, .int .i64 m.cmd.size, .str m.cmd.digest, .sl false 6 (m.entries.map encEnt)]] [] (.tup [.agg [.int .i64 ((askR r m).id), .int .i64 ((askR r m).of_), .int .i64 ((askR r m).role), .int .i64 ((askR r m).commit), .int .i64 ((askR r m).hard.term), .int .i64 ((askR r m).hard.vote), .ref 0, .ref 1, .ref 2, .ref 3], .ref 4, .ref 5]) [.arr 88 6 (((askR r m).hard.log).map encEnt), .arr 3 1 (((askR r m).yes).map encI), .arr 3 1 (((askR r m).next).map encI), .arr 3 1 (((askR r m).match_).map encI), .arr 93 10 ((askRecs r m).map encRec), .arr 76 17 ((askOuts r m).map encOut)] := by
  obtain ⟨z1, z2, z3, z4⟩ := id hz
  refine FnSpec.of 123 Try.func27 rfl Try.ntmps27 (by simp) (AW.weakK ?_)
  by_cases hok : raftOk r = true
  · skip
    have hokn := raftOk1_nums (raftOk_1 hok)
    refine AW.r ?_
    refine At.a 5 ?_
    refine At.done rfl ?_
    refine AW.seq ?_
    refine AW.weak (Sub.nils [⟨true, 104, some 6, 5001, 88, 6⟩, ⟨true, 104, some 7, 5002, 3, 1⟩, ⟨true, 104, some 8, 5003, 3, 1⟩, ⟨true, 104, some 9, 5004, 3, 1⟩] (by kernel_rfl)) ?_
    refine AW.region (At.start ?_)
    refine At.a 1 ?_
    refine At.c (spec_l10Same_T_spec  r hz hok) Try.call51 true [] [(1300, 0), (1301, 1), (1302, 2), (1303, 3)] [] trivial ?_
    refine At.lit0 (t := 45) (d := 16) (e := 93) (es := 10) (bytes := 88) 116 (by kernel_rfl) (by kernel_rfl) (by kernel_rfl) (by kernel_rfl) ?_
    refine At.lit0 (t := 29) (d := 17) (e := 76) (es := 17) (bytes := 168) 117 (by kernel_rfl) (by kernel_rfl) (by kernel_rfl) (by kernel_rfl) ?_
    refine At.a 4 ?_
    refine At.done rfl ?_
    refine AW.seq ?_
    refine AW.r ?_
    refine At.a 2 ?_
    refine At.c (spec_l10Hears_spec  r m 1 hz hm) Try.call67 true [] [] [] trivial ?_
    refine At.a 1 ?_
    refine At.done rfl ?_
    refine AW.cNB (hears r m 1) (fun h1 => ?_) (fun h1 => ?_)
    · skip
      refine AW.r ?_
      refine At.a 6 ?_
      refine At.done rfl ?_
      refine AW.ret ?_
      refine ⟨_, Sub.refl _ _, ?_⟩
      refine KF.conv (fun w => .tup [.agg [.int .i64 w.id, .int .i64 w.of_, .int .i64 w.role, .int .i64 w.commit, .int .i64 w.hard.term, .int .i64 w.hard.vote, .ref 0, .ref 1, .ref 2, .ref 3], .ref 4, .ref 5]) (fun w => [.arr 88 6 (w.hard.log.map encEnt), .arr 3 1 (w.yes.map encI), .arr 3 1 (w.next.map encI), .arr 3 1 (w.match_.map encI), .arr 93 10 ((askRecs r m).map encRec), .arr 76 17 ((askOuts r m).map encOut)]) (show (r) = (askR r m) from by grind [askR, askRecs, askOuts, ask1, ask0, askYes, folT, same, voteRec, zEnt, zCmd, termAt_end]) ?_
      refine KF.conv (fun w => .tup [.agg [.int .i64 r.id, .int .i64 r.of_, .int .i64 r.role, .int .i64 r.commit, .int .i64 r.hard.term, .int .i64 r.hard.vote, .ref 0, .ref 1, .ref 2, .ref 3], .ref 4, .ref 5]) (fun w => [.arr 88 6 (r.hard.log.map encEnt), .arr 3 1 (r.yes.map encI), .arr 3 1 (r.next.map encI), .arr 3 1 (r.match_.map encI), .arr 93 10 (w.map encRec), .arr 76 17 ((askOuts r m).map encOut)]) (show ([]) = (askRecs r m) from by grind [askR, askRecs, askOuts, ask1, ask0, askYes, folT, same, voteRec, zEnt, zCmd, termAt_end]) ?_
      refine KF.conv (fun w => .tup [.agg [.int .i64 r.id, .int .i64 r.of_, .int .i64 r.role, .int .i64 r.commit, .int .i64 r.hard.term, .int .i64 r.hard.vote, .ref 0, .ref 1, .ref 2, .ref 3], .ref 4, .ref 5]) (fun w => [.arr 88 6 (r.hard.log.map encEnt), .arr 3 1 (r.yes.map encI), .arr 3 1 (r.next.map encI), .arr 3 1 (r.match_.map encI), .arr 93 10 [], .arr 76 17 (w.map encOut)]) (show ([]) = (askOuts r m) from by grind [askR, askRecs, askOuts, ask1, ask0, askYes, folT, same, voteRec, zEnt, zCmd, termAt_end]) ?_
      exact KF.m [(1300, 0), (1301, 1), (1302, 2), (1303, 3), (116, 4), (117, 5)] [.agg [.int .i64 r.id, .int .i64 r.of_, .int .i64 r.role, .int .i64 r.commit, .int .i64 r.hard.term, .int .i64 r.hard.vote, .ref 1300, .ref 1301, .ref 1302, .ref 1303], .ref 116, .ref 117]
    · skip
      have hhr := hears_ok h1
      refine AW.skip ?_
      refine AW.seq ?_
      refine AW.r ?_
      refine At.a 6 ?_
      refine At.done rfl ?_
      refine AW.cD (m.term > r.hard.term) (fun h2 => ?_) (fun h2 => ?_)
      · skip
        refine AW.region (At.start ?_)
        refine At.a 3 ?_
        refine At.c (spec_l10Follow_spec  r m.term ) Try.call68 true [(1300, 0), (1301, 1), (1302, 2), (1303, 3)] [(1680, 4), (1681, 5), (1682, 6)] [] trivial ?_
        refine At.a 1 ?_
        refine At.done rfl ?_
        refine AW.r ?_
        refine At.a 1 ?_
        refine At.c (spec_l10End_spec  (⟨r.id, r.of_, 1, r.commit, ⟨m.term, 0, r.hard.log⟩, [], [], []⟩ : Raft) ) Try.call53 false [] [] [(1300, 6, (r.hard.log.map encEnt)), (1680, 1, []), (1681, 1, []), (1682, 1, [])] ⟨rfl, ⟨88, (r.hard.log.map encEnt), by kernel_rfl, FrzIs.same (allP_encEnt _)⟩, rfl, ⟨3, [], by kernel_rfl, FrzIs.same (fun _ h => by cases h)⟩, rfl, ⟨3, [], by kernel_rfl, FrzIs.same (fun _ h => by cases h)⟩, rfl, ⟨3, [], by kernel_rfl, FrzIs.same (fun _ h => by cases h)⟩, trivial⟩ ?_
        refine At.a 1 ?_
        refine At.done rfl ?_
        refine AW.r ?_
        refine At.a 3 ?_
        refine At.c (spec_l10Term_spec  (⟨m.term, 0, r.hard.log⟩ : Hard) (r.hard.log.length : Int) (by omega)) Try.call69 false [] [] [(1300, 6, (r.hard.log.map encEnt))] ⟨rfl, ⟨88, (r.hard.log.map encEnt), by kernel_rfl, FrzIs.same (allP_encEnt _)⟩, trivial⟩ ?_
        refine At.a 1 ?_
        refine At.done rfl ?_
        refine AW.seq ?_
        refine AW.cut [(102, 102), (103, 103), (104, 104), (107, 107), (116, 116), (117, 117), (1300, 1300), (1301, 1301), (1302, 1302), (1303, 1303), (1680, 1680), (1681, 1681), (1682, 1682), (5001, 5001), (5002, 5002), (5003, 5003), (5004, 5004)] [false, false, true, true, true, false, false, true, true, true] 12 (freshB r.hard.log m) ?_ ?_
        · skip
          refine AW.region (At.start ?_)
          refine At.a 5 ?_
          by_cases h3 : m.atTerm > (termAt r.hard.log (r.hard.log.length : Int))
          · refine At.sB 45 (decide (m.atTerm > (termAt r.hard.log (r.hard.log.length : Int)))) true (sayT h3) ?_
            refine At.a 12 ?_
            refine At.sB 12 true (freshB r.hard.log m) (congrArg V.bool (by grind [freshB, termAt_end])) ?_
            refine At.done rfl ⟨rfl, ?_⟩
            exact Sub.cut [(102, 102), (103, 103), (104, 104), (107, 107), (116, 116), (117, 117), (1300, 1300), (1301, 1301), (1302, 1302), (1303, 1303), (1680, 1680), (1681, 1681), (1682, 1682), (5001, 5001), (5002, 5002), (5003, 5003), (5004, 5004)] [false, false, true, true, true, false, false, true, true, true] 12 _ (by kernel_rfl) (by kernel_rfl) (by kernel_rfl) (by kernel_rfl)
          · refine At.sB 45 (decide (m.atTerm > (termAt r.hard.log (r.hard.log.length : Int)))) false (sayF h3) ?_
            refine At.a 5 ?_
            by_cases h4 : m.atTerm = termAt r.hard.log (r.hard.log.length : Int)
            · refine At.sB 50 (m.atTerm == (termAt r.hard.log (r.hard.log.length : Int))) true (sayET h4) ?_
              refine At.a 7 ?_
              refine At.sB 12 (decide (m.at_ ≥ (r.hard.log.length : Int))) (freshB r.hard.log m) (congrArg V.bool (by grind [freshB, termAt_end])) ?_
              refine At.done rfl ⟨rfl, ?_⟩
              exact Sub.cut [(102, 102), (103, 103), (104, 104), (107, 107), (116, 116), (117, 117), (1300, 1300), (1301, 1301), (1302, 1302), (1303, 1303), (1680, 1680), (1681, 1681), (1682, 1682), (5001, 5001), (5002, 5002), (5003, 5003), (5004, 5004)] [false, false, true, true, true, false, false, true, true, true] 12 _ (by kernel_rfl) (by kernel_rfl) (by kernel_rfl) (by kernel_rfl)
            · refine At.sB 50 (m.atTerm == (termAt r.hard.log (r.hard.log.length : Int))) false (sayEF h4) ?_
              refine At.a 7 ?_
              refine At.sB 12 false (freshB r.hard.log m) (congrArg V.bool (by grind [freshB, termAt_end])) ?_
              refine At.done rfl ⟨rfl, ?_⟩
              exact Sub.cut [(102, 102), (103, 103), (104, 104), (107, 107), (116, 116), (117, 117), (1300, 1300), (1301, 1301), (1302, 1302), (1303, 1303), (1680, 1680), (1681, 1681), (1682, 1682), (5001, 5001), (5002, 5002), (5003, 5003), (5004, 5004)] [false, false, true, true, true, false, false, true, true, true] 12 _ (by kernel_rfl) (by kernel_rfl) (by kernel_rfl) (by kernel_rfl)
        refine AW.seq ?_
        refine AW.cut [(102, 102), (103, 103), (104, 104), (107, 107), (116, 116), (117, 117), (1300, 1300), (1301, 1301), (1302, 1302), (1303, 1303), (1680, 1680), (1681, 1681), (1682, 1682), (5001, 5001), (5002, 5002), (5003, 5003), (5004, 5004)] [false, false, true, true, true, false, false, true, true, true] 13 (yesB m.term 0 r.hard.log m) ?_ ?_
        · skip
          refine AW.region (At.start ?_)
          refine At.a 7 ?_
          by_cases h5 : m.term = m.term
          · refine At.sB 63 (m.term == m.term) true (sayET h5) ?_
            refine At.a 5 ?_
            by_cases h6 : 0 = 0
            · refine At.sB 68 (0 == 0) true (sayET h6) ?_
              refine At.a 13 ?_
              refine At.sB 13 (freshB r.hard.log m) (yesB m.term 0 r.hard.log m) (congrArg V.bool (by grind [yesB])) ?_
              refine At.done rfl ⟨rfl, ?_⟩
              exact Sub.cut [(102, 102), (103, 103), (104, 104), (107, 107), (116, 116), (117, 117), (1300, 1300), (1301, 1301), (1302, 1302), (1303, 1303), (1680, 1680), (1681, 1681), (1682, 1682), (5001, 5001), (5002, 5002), (5003, 5003), (5004, 5004)] [false, false, true, true, true, false, false, true, true, true] 13 _ (by kernel_rfl) (by kernel_rfl) (by kernel_rfl) (by kernel_rfl)
            · refine At.sB 68 (0 == 0) false (sayEF h6) ?_
              refine At.a 6 ?_
              refine At.sI 74 (m.from_ + 1) (by omega) ?_
              refine At.a 4 ?_
              by_cases h7 : 0 = m.from_ + 1
              · refine At.sB 78 (0 == (m.from_ + 1)) true (sayET h7) ?_
                refine At.a 3 ?_
                refine At.sB 13 (freshB r.hard.log m) (yesB m.term 0 r.hard.log m) (congrArg V.bool (by grind [yesB])) ?_
                refine At.done rfl ⟨rfl, ?_⟩
                exact Sub.cut [(102, 102), (103, 103), (104, 104), (107, 107), (116, 116), (117, 117), (1300, 1300), (1301, 1301), (1302, 1302), (1303, 1303), (1680, 1680), (1681, 1681), (1682, 1682), (5001, 5001), (5002, 5002), (5003, 5003), (5004, 5004)] [false, false, true, true, true, false, false, true, true, true] 13 _ (by kernel_rfl) (by kernel_rfl) (by kernel_rfl) (by kernel_rfl)
              · refine At.sB 78 (0 == (m.from_ + 1)) false (sayEF h7) ?_
                refine At.a 3 ?_
                refine At.sB 13 false (yesB m.term 0 r.hard.log m) (congrArg V.bool (by grind [yesB])) ?_
                refine At.done rfl ⟨rfl, ?_⟩
                exact Sub.cut [(102, 102), (103, 103), (104, 104), (107, 107), (116, 116), (117, 117), (1300, 1300), (1301, 1301), (1302, 1302), (1303, 1303), (1680, 1680), (1681, 1681), (1682, 1682), (5001, 5001), (5002, 5002), (5003, 5003), (5004, 5004)] [false, false, true, true, true, false, false, true, true, true] 13 _ (by kernel_rfl) (by kernel_rfl) (by kernel_rfl) (by kernel_rfl)
          · refine At.sB 63 (m.term == m.term) false (sayEF h5) ?_
            refine At.a 18 ?_
            refine At.sB 13 false (yesB m.term 0 r.hard.log m) (congrArg V.bool (by grind [yesB])) ?_
            refine At.done rfl ⟨rfl, ?_⟩
            exact Sub.cut [(102, 102), (103, 103), (104, 104), (107, 107), (116, 116), (117, 117), (1300, 1300), (1301, 1301), (1302, 1302), (1303, 1303), (1680, 1680), (1681, 1681), (1682, 1682), (5001, 5001), (5002, 5002), (5003, 5003), (5004, 5004)] [false, false, true, true, true, false, false, true, true, true] 13 _ (by kernel_rfl) (by kernel_rfl) (by kernel_rfl) (by kernel_rfl)
        refine AW.seq ?_
        refine AW.r ?_
        refine At.a 1 ?_
        refine At.done rfl ?_
        refine AW.cB (yesB m.term 0 r.hard.log m) (fun h8 => ?_) (fun h8 => ?_)
        · skip
          refine AW.region (At.start ?_)
          refine At.a 3 ?_
          refine At.sI 84 (m.from_ + 1) (by omega) ?_
          refine At.a 3 ?_
          refine At.done rfl ?_
          refine AW.seq ?_
          refine AW.seq ?_
          refine AW.cut [(102, 102), (103, 103), (104, 104), (107, 107), (116, 116), (117, 117), (1300, 1300), (1301, 1301), (1302, 1302), (1303, 1303), (1680, 1680), (1681, 1681), (1682, 1682), (5001, 5001), (5002, 5002), (5003, 5003), (5004, 5004)] [false, false, true, true, true, false, false, true, true, true, false, false, false, true] 102 (chgB m.term (m.from_ + 1) r) ?_ ?_
          · skip
            refine AW.region (At.start ?_)
            refine At.a 8 ?_
            by_cases h9 : m.term = r.hard.term
            · refine At.sB 94 (m.term != r.hard.term) false (sayUF h9) ?_
              refine At.a 8 ?_
              refine At.sB 102 ((m.from_ + 1) != r.hard.vote) (chgB m.term (m.from_ + 1) r) (congrArg V.bool (by grind [chgB])) ?_
              refine At.done rfl ⟨rfl, ?_⟩
              exact Sub.cut [(102, 102), (103, 103), (104, 104), (107, 107), (116, 116), (117, 117), (1300, 1300), (1301, 1301), (1302, 1302), (1303, 1303), (1680, 1680), (1681, 1681), (1682, 1682), (5001, 5001), (5002, 5002), (5003, 5003), (5004, 5004)] [false, false, true, true, true, false, false, true, true, true, false, false, false, true] 102 _ (by kernel_rfl) (by kernel_rfl) (by kernel_rfl) (by kernel_rfl)
            · refine At.sB 94 (m.term != r.hard.term) true (sayUT h9) ?_
              refine At.a 8 ?_
              refine At.sB 102 true (chgB m.term (m.from_ + 1) r) (congrArg V.bool (by grind [chgB])) ?_
              refine At.done rfl ⟨rfl, ?_⟩
              exact Sub.cut [(102, 102), (103, 103), (104, 104), (107, 107), (116, 116), (117, 117), (1300, 1300), (1301, 1301), (1302, 1302), (1303, 1303), (1680, 1680), (1681, 1681), (1682, 1682), (5001, 5001), (5002, 5002), (5003, 5003), (5004, 5004)] [false, false, true, true, true, false, false, true, true, true, false, false, false, true] 102 _ (by kernel_rfl) (by kernel_rfl) (by kernel_rfl) (by kernel_rfl)
          refine AW.cB (chgB m.term (m.from_ + 1) r) (fun h10 => ?_) (fun h10 => ?_)
          · skip
            refine AW.region (At.start ?_)
            refine At.a 2 ?_
            refine At.c (spec_l10Vote_spec  (⟨r.id, r.of_, 1, r.commit, ⟨m.term, m.from_ + 1, r.hard.log⟩, [], [], []⟩ : Raft) ) Try.call63 false [] [] [(1300, 6, (r.hard.log.map encEnt)), (1680, 1, []), (1681, 1, []), (1682, 1, [])] ⟨rfl, ⟨88, (r.hard.log.map encEnt), by kernel_rfl, FrzIs.same (allP_encEnt _)⟩, rfl, ⟨3, [], by kernel_rfl, FrzIs.same (fun _ h => by cases h)⟩, rfl, ⟨3, [], by kernel_rfl, FrzIs.same (fun _ h => by cases h)⟩, rfl, ⟨3, [], by kernel_rfl, FrzIs.same (fun _ h => by cases h)⟩, trivial⟩ ?_
            refine At.litK (t := 45) (d := 106) (e := 93) (es := 10) (bytes := 88) (n := 1) (parts := #[(0, .tmp 105)]) (88, 6) 206 [] [.int .i64 1, .int .i64 m.term, .int .i64 (m.from_ + 1), .int .i64 0, .int .i64 0, .int .i64 0, .int .i64 0, .int .i64 0, .int .i64 0, .str (⟨#[]⟩ : ByteArray)] [.int .i64 1, .int .i64 m.term, .int .i64 (m.from_ + 1), .int .i64 0, .int .i64 0, .int .i64 0, .int .i64 0, .int .i64 0, .int .i64 0, .str (⟨#[]⟩ : ByteArray)] [.int .i64 0, .int .i64 0, .int .i64 0, .int .i64 0, .int .i64 0, .int .i64 0, .int .i64 0, .int .i64 0, .int .i64 0, .str (⟨#[]⟩ : ByteArray)] [.agg [.int .i64 1, .int .i64 m.term, .int .i64 (m.from_ + 1), .int .i64 0, .int .i64 0, .int .i64 0, .int .i64 0, .int .i64 0, .int .i64 0, .str (⟨#[]⟩ : ByteArray)]] [] (by kernel_rfl) (by kernel_rfl) (by kernel_rfl) (by kernel_rfl) rfl (fun p hp => by cases hp) (by kernel_rfl) ?_
            refine At.append (t := 45) (d := 107) (e := 93) (es := 10) (bytes := 88) (s := .tmp 103) (x := .tmp 106) (S := .ref 116) (T := .ref 206) (xs := []) (ys := (([(⟨1, m.term, (m.from_ + 1), 0, ⟨0, ⟨0, 0, 0, 0, (⟨#[]⟩ : ByteArray)⟩⟩⟩ : Rec)]).map encRec)) 207 [116] [206] (([(⟨1, m.term, (m.from_ + 1), 0, ⟨0, ⟨0, 0, 0, 0, (⟨#[]⟩ : ByteArray)⟩⟩⟩ : Rec)]).map encRec) (by kernel_rfl) (by kernel_rfl) (by kernel_rfl) (by kernel_rfl) ⟨by kernel_rfl, rfl⟩ ⟨by kernel_rfl, .inr rfl⟩ (by kernel_rfl) (by kernel_rfl) (by simp) (by simp only [List.length_map, List.length_append, List.length_take, List.length_drop, List.length_replicate, List.length_set, List.length_cons, List.length_nil]; omega) (by simp only [List.length_map, List.length_append, List.length_take, List.length_drop, List.length_replicate, List.length_set, List.length_cons, List.length_nil]; omega) ?_
            refine At.a 1 ?_
            refine At.done rfl ?_
            refine AW.seq ?_
            refine AW.regionD Try_mix (At.start ?_)
            refine At.a 13 ?_
            refine At.litK (t := 29) (d := 121) (e := 76) (es := 17) (bytes := 168) (n := 1) (parts := #[(0, .tmp 120)]) (88, 6) 221 [] [.int .i64 m.from_, .int .i64 2, .int .i64 r.id, .int .i64 m.term, .int .i64 0, .int .i64 0, .int .i64 0, .bool (yesB m.term 0 r.hard.log m), .int .i64 0, .int .i64 0, .str (⟨#[]⟩ : ByteArray), .int .i64 0, .int .i64 0, .int .i64 0, .int .i64 0, .str (⟨#[]⟩ : ByteArray), .nil] [.int .i64 m.from_, .int .i64 2, .int .i64 r.id, .int .i64 m.term, .int .i64 0, .int .i64 0, .int .i64 0, .bool (yesB m.term 0 r.hard.log m), .int .i64 0, .int .i64 0, .str (⟨#[]⟩ : ByteArray), .int .i64 0, .int .i64 0, .int .i64 0, .int .i64 0, .str (⟨#[]⟩ : ByteArray), .own 88 6 []] [.int .i64 0, .int .i64 0, .int .i64 0, .int .i64 0, .int .i64 0, .int .i64 0, .int .i64 0, .bool false, .int .i64 0, .int .i64 0, .str (⟨#[]⟩ : ByteArray), .int .i64 0, .int .i64 0, .int .i64 0, .int .i64 0, .str (⟨#[]⟩ : ByteArray), .nil] [.agg [.int .i64 m.from_, .int .i64 2, .int .i64 r.id, .int .i64 m.term, .int .i64 0, .int .i64 0, .int .i64 0, .bool (yesB m.term 0 r.hard.log m), .int .i64 0, .int .i64 0, .str (⟨#[]⟩ : ByteArray), .int .i64 0, .int .i64 0, .int .i64 0, .int .i64 0, .str (⟨#[]⟩ : ByteArray), .own 88 6 []]] [] (by kernel_rfl) (by kernel_rfl) (by kernel_rfl) (by kernel_rfl) rfl (fun p hp => by cases hp) (by kernel_rfl) ?_
            refine At.append (t := 29) (d := 122) (e := 76) (es := 17) (bytes := 168) (s := .tmp 110) (x := .tmp 121) (S := .ref 117) (T := .ref 221) (xs := []) (ys := (([(⟨m.from_, ⟨2, r.id, m.term, 0, 0, 0, yesB m.term 0 r.hard.log m, 0, 0, (⟨#[]⟩ : ByteArray), ⟨0, 0, 0, 0, (⟨#[]⟩ : ByteArray)⟩, []⟩⟩ : Out)]).map encOut)) 222 [117] [221] (([(⟨m.from_, ⟨2, r.id, m.term, 0, 0, 0, yesB m.term 0 r.hard.log m, 0, 0, (⟨#[]⟩ : ByteArray), ⟨0, 0, 0, 0, (⟨#[]⟩ : ByteArray)⟩, []⟩⟩ : Out)]).map encOut) (by kernel_rfl) (by kernel_rfl) (by kernel_rfl) (by kernel_rfl) ⟨by kernel_rfl, rfl⟩ ⟨by kernel_rfl, .inr rfl⟩ (by kernel_rfl) (by kernel_rfl) (by simp) (by simp only [List.length_map, List.length_append, List.length_take, List.length_drop, List.length_replicate, List.length_set, List.length_cons, List.length_nil]; omega) (by simp only [List.length_map, List.length_append, List.length_take, List.length_drop, List.length_replicate, List.length_set, List.length_cons, List.length_nil]; omega) ?_
            refine At.a 3 ?_
            refine At.done rfl ⟨by kernel_rfl, ?_⟩
            refine AW.ret ?_
            refine ⟨_, Sub.refl _ _, ?_⟩
            refine KF.conv (fun w => .tup [.agg [.int .i64 w.id, .int .i64 w.of_, .int .i64 w.role, .int .i64 w.commit, .int .i64 w.hard.term, .int .i64 w.hard.vote, .ref 0, .ref 1, .ref 2, .ref 3], .ref 4, .ref 5]) (fun w => [.arr 88 6 (w.hard.log.map encEnt), .arr 3 1 (w.yes.map encI), .arr 3 1 (w.next.map encI), .arr 3 1 (w.match_.map encI), .arr 93 10 ((askRecs r m).map encRec), .arr 76 17 ((askOuts r m).map encOut)]) (show ((⟨r.id, r.of_, 1, r.commit, ⟨m.term, m.from_ + 1, r.hard.log⟩, [], [], []⟩ : Raft)) = (askR r m) from by grind [askR, askRecs, askOuts, ask1, ask0, askYes, folT, same, voteRec, zEnt, zCmd, termAt_end]) ?_
            refine KF.conv (fun w => .tup [.agg [.int .i64 r.id, .int .i64 r.of_, .int .i64 1, .int .i64 r.commit, .int .i64 m.term, .int .i64 (m.from_ + 1), .ref 0, .ref 1, .ref 2, .ref 3], .ref 4, .ref 5]) (fun w => [.arr 88 6 (r.hard.log.map encEnt), .arr 3 1 [], .arr 3 1 [], .arr 3 1 [], .arr 93 10 (w.map encRec), .arr 76 17 ((askOuts r m).map encOut)]) (show ([(⟨1, m.term, (m.from_ + 1), 0, ⟨0, ⟨0, 0, 0, 0, (⟨#[]⟩ : ByteArray)⟩⟩⟩ : Rec)]) = (askRecs r m) from by grind [askR, askRecs, askOuts, ask1, ask0, askYes, folT, same, voteRec, zEnt, zCmd, termAt_end]) ?_
            refine KF.conv (fun w => .tup [.agg [.int .i64 r.id, .int .i64 r.of_, .int .i64 1, .int .i64 r.commit, .int .i64 m.term, .int .i64 (m.from_ + 1), .ref 0, .ref 1, .ref 2, .ref 3], .ref 4, .ref 5]) (fun w => [.arr 88 6 (r.hard.log.map encEnt), .arr 3 1 [], .arr 3 1 [], .arr 3 1 [], .arr 93 10 (([(⟨1, m.term, (m.from_ + 1), 0, ⟨0, ⟨0, 0, 0, 0, (⟨#[]⟩ : ByteArray)⟩⟩⟩ : Rec)]).map encRec), .arr 76 17 (w.map encOut)]) (show ([(⟨m.from_, ⟨2, r.id, m.term, 0, 0, 0, yesB m.term 0 r.hard.log m, 0, 0, (⟨#[]⟩ : ByteArray), ⟨0, 0, 0, 0, (⟨#[]⟩ : ByteArray)⟩, []⟩⟩ : Out)]) = (askOuts r m) from by grind [askR, askRecs, askOuts, ask1, ask0, askYes, folT, same, voteRec, zEnt, zCmd, termAt_end]) ?_
            exact KF.m [(1300, 0), (1680, 1), (1681, 2), (1682, 3), (207, 4), (222, 5)] [.agg [.int .i64 r.id, .int .i64 r.of_, .int .i64 1, .int .i64 r.commit, .int .i64 m.term, .int .i64 (m.from_ + 1), .ref 1300, .ref 1680, .ref 1681, .ref 1682], .ref 207, .ref 222]
          · skip
            refine AW.skip ?_
            refine AW.seq ?_
            refine AW.regionD Try_mix (At.start ?_)
            refine At.a 13 ?_
            refine At.litK (t := 29) (d := 121) (e := 76) (es := 17) (bytes := 168) (n := 1) (parts := #[(0, .tmp 120)]) (88, 6) 221 [] [.int .i64 m.from_, .int .i64 2, .int .i64 r.id, .int .i64 m.term, .int .i64 0, .int .i64 0, .int .i64 0, .bool (yesB m.term 0 r.hard.log m), .int .i64 0, .int .i64 0, .str (⟨#[]⟩ : ByteArray), .int .i64 0, .int .i64 0, .int .i64 0, .int .i64 0, .str (⟨#[]⟩ : ByteArray), .nil] [.int .i64 m.from_, .int .i64 2, .int .i64 r.id, .int .i64 m.term, .int .i64 0, .int .i64 0, .int .i64 0, .bool (yesB m.term 0 r.hard.log m), .int .i64 0, .int .i64 0, .str (⟨#[]⟩ : ByteArray), .int .i64 0, .int .i64 0, .int .i64 0, .int .i64 0, .str (⟨#[]⟩ : ByteArray), .own 88 6 []] [.int .i64 0, .int .i64 0, .int .i64 0, .int .i64 0, .int .i64 0, .int .i64 0, .int .i64 0, .bool false, .int .i64 0, .int .i64 0, .str (⟨#[]⟩ : ByteArray), .int .i64 0, .int .i64 0, .int .i64 0, .int .i64 0, .str (⟨#[]⟩ : ByteArray), .nil] [.agg [.int .i64 m.from_, .int .i64 2, .int .i64 r.id, .int .i64 m.term, .int .i64 0, .int .i64 0, .int .i64 0, .bool (yesB m.term 0 r.hard.log m), .int .i64 0, .int .i64 0, .str (⟨#[]⟩ : ByteArray), .int .i64 0, .int .i64 0, .int .i64 0, .int .i64 0, .str (⟨#[]⟩ : ByteArray), .own 88 6 []]] [] (by kernel_rfl) (by kernel_rfl) (by kernel_rfl) (by kernel_rfl) rfl (fun p hp => by cases hp) (by kernel_rfl) ?_
            refine At.append (t := 29) (d := 122) (e := 76) (es := 17) (bytes := 168) (s := .tmp 110) (x := .tmp 121) (S := .ref 117) (T := .ref 221) (xs := []) (ys := (([(⟨m.from_, ⟨2, r.id, m.term, 0, 0, 0, yesB m.term 0 r.hard.log m, 0, 0, (⟨#[]⟩ : ByteArray), ⟨0, 0, 0, 0, (⟨#[]⟩ : ByteArray)⟩, []⟩⟩ : Out)]).map encOut)) 222 [117] [221] (([(⟨m.from_, ⟨2, r.id, m.term, 0, 0, 0, yesB m.term 0 r.hard.log m, 0, 0, (⟨#[]⟩ : ByteArray), ⟨0, 0, 0, 0, (⟨#[]⟩ : ByteArray)⟩, []⟩⟩ : Out)]).map encOut) (by kernel_rfl) (by kernel_rfl) (by kernel_rfl) (by kernel_rfl) ⟨by kernel_rfl, rfl⟩ ⟨by kernel_rfl, .inr rfl⟩ (by kernel_rfl) (by kernel_rfl) (by simp) (by simp only [List.length_map, List.length_append, List.length_take, List.length_drop, List.length_replicate, List.length_set, List.length_cons, List.length_nil]; omega) (by simp only [List.length_map, List.length_append, List.length_take, List.length_drop, List.length_replicate, List.length_set, List.length_cons, List.length_nil]; omega) ?_
            refine At.a 3 ?_
            refine At.done rfl ⟨by kernel_rfl, ?_⟩
            refine AW.ret ?_
            refine ⟨_, Sub.refl _ _, ?_⟩
            refine KF.conv (fun w => .tup [.agg [.int .i64 w.id, .int .i64 w.of_, .int .i64 w.role, .int .i64 w.commit, .int .i64 w.hard.term, .int .i64 w.hard.vote, .ref 0, .ref 1, .ref 2, .ref 3], .ref 4, .ref 5]) (fun w => [.arr 88 6 (w.hard.log.map encEnt), .arr 3 1 (w.yes.map encI), .arr 3 1 (w.next.map encI), .arr 3 1 (w.match_.map encI), .arr 93 10 ((askRecs r m).map encRec), .arr 76 17 ((askOuts r m).map encOut)]) (show ((⟨r.id, r.of_, 1, r.commit, ⟨m.term, m.from_ + 1, r.hard.log⟩, [], [], []⟩ : Raft)) = (askR r m) from by grind [askR, askRecs, askOuts, ask1, ask0, askYes, folT, same, voteRec, zEnt, zCmd, termAt_end]) ?_
            refine KF.conv (fun w => .tup [.agg [.int .i64 r.id, .int .i64 r.of_, .int .i64 1, .int .i64 r.commit, .int .i64 m.term, .int .i64 (m.from_ + 1), .ref 0, .ref 1, .ref 2, .ref 3], .ref 4, .ref 5]) (fun w => [.arr 88 6 (r.hard.log.map encEnt), .arr 3 1 [], .arr 3 1 [], .arr 3 1 [], .arr 93 10 (w.map encRec), .arr 76 17 ((askOuts r m).map encOut)]) (show ([]) = (askRecs r m) from by grind [askR, askRecs, askOuts, ask1, ask0, askYes, folT, same, voteRec, zEnt, zCmd, termAt_end]) ?_
            refine KF.conv (fun w => .tup [.agg [.int .i64 r.id, .int .i64 r.of_, .int .i64 1, .int .i64 r.commit, .int .i64 m.term, .int .i64 (m.from_ + 1), .ref 0, .ref 1, .ref 2, .ref 3], .ref 4, .ref 5]) (fun w => [.arr 88 6 (r.hard.log.map encEnt), .arr 3 1 [], .arr 3 1 [], .arr 3 1 [], .arr 93 10 [], .arr 76 17 (w.map encOut)]) (show ([(⟨m.from_, ⟨2, r.id, m.term, 0, 0, 0, yesB m.term 0 r.hard.log m, 0, 0, (⟨#[]⟩ : ByteArray), ⟨0, 0, 0, 0, (⟨#[]⟩ : ByteArray)⟩, []⟩⟩ : Out)]) = (askOuts r m) from by grind [askR, askRecs, askOuts, ask1, ask0, askYes, folT, same, voteRec, zEnt, zCmd, termAt_end]) ?_
            exact KF.m [(1300, 0), (1680, 1), (1681, 2), (1682, 3), (116, 4), (222, 5)] [.agg [.int .i64 r.id, .int .i64 r.of_, .int .i64 1, .int .i64 r.commit, .int .i64 m.term, .int .i64 (m.from_ + 1), .ref 1300, .ref 1680, .ref 1681, .ref 1682], .ref 116, .ref 222]
        · skip
          refine AW.skip ?_
          refine AW.seq ?_
          refine AW.seq ?_
          refine AW.cut [(102, 102), (103, 103), (104, 104), (107, 107), (116, 116), (117, 117), (1300, 1300), (1301, 1301), (1302, 1302), (1303, 1303), (1680, 1680), (1681, 1681), (1682, 1682), (5001, 5001), (5002, 5002), (5003, 5003), (5004, 5004)] [false, false, true, true, true, false, false, true, true, true, false, false, false, true] 102 (chgB m.term 0 r) ?_ ?_
          · skip
            refine AW.region (At.start ?_)
            refine At.a 8 ?_
            by_cases h11 : m.term = r.hard.term
            · refine At.sB 94 (m.term != r.hard.term) false (sayUF h11) ?_
              refine At.a 8 ?_
              refine At.sB 102 (0 != r.hard.vote) (chgB m.term 0 r) (congrArg V.bool (by grind [chgB])) ?_
              refine At.done rfl ⟨rfl, ?_⟩
              exact Sub.cut [(102, 102), (103, 103), (104, 104), (107, 107), (116, 116), (117, 117), (1300, 1300), (1301, 1301), (1302, 1302), (1303, 1303), (1680, 1680), (1681, 1681), (1682, 1682), (5001, 5001), (5002, 5002), (5003, 5003), (5004, 5004)] [false, false, true, true, true, false, false, true, true, true, false, false, false, true] 102 _ (by kernel_rfl) (by kernel_rfl) (by kernel_rfl) (by kernel_rfl)
            · refine At.sB 94 (m.term != r.hard.term) true (sayUT h11) ?_
              refine At.a 8 ?_
              refine At.sB 102 true (chgB m.term 0 r) (congrArg V.bool (by grind [chgB])) ?_
              refine At.done rfl ⟨rfl, ?_⟩
              exact Sub.cut [(102, 102), (103, 103), (104, 104), (107, 107), (116, 116), (117, 117), (1300, 1300), (1301, 1301), (1302, 1302), (1303, 1303), (1680, 1680), (1681, 1681), (1682, 1682), (5001, 5001), (5002, 5002), (5003, 5003), (5004, 5004)] [false, false, true, true, true, false, false, true, true, true, false, false, false, true] 102 _ (by kernel_rfl) (by kernel_rfl) (by kernel_rfl) (by kernel_rfl)
          refine AW.cB (chgB m.term 0 r) (fun h12 => ?_) (fun h12 => ?_)
          · skip
            refine AW.region (At.start ?_)
            refine At.a 2 ?_
            refine At.c (spec_l10Vote_spec  (⟨r.id, r.of_, 1, r.commit, ⟨m.term, 0, r.hard.log⟩, [], [], []⟩ : Raft) ) Try.call63 false [] [] [(1300, 6, (r.hard.log.map encEnt)), (1680, 1, []), (1681, 1, []), (1682, 1, [])] ⟨rfl, ⟨88, (r.hard.log.map encEnt), by kernel_rfl, FrzIs.same (allP_encEnt _)⟩, rfl, ⟨3, [], by kernel_rfl, FrzIs.same (fun _ h => by cases h)⟩, rfl, ⟨3, [], by kernel_rfl, FrzIs.same (fun _ h => by cases h)⟩, rfl, ⟨3, [], by kernel_rfl, FrzIs.same (fun _ h => by cases h)⟩, trivial⟩ ?_
            refine At.litK (t := 45) (d := 106) (e := 93) (es := 10) (bytes := 88) (n := 1) (parts := #[(0, .tmp 105)]) (88, 6) 206 [] [.int .i64 1, .int .i64 m.term, .int .i64 0, .int .i64 0, .int .i64 0, .int .i64 0, .int .i64 0, .int .i64 0, .int .i64 0, .str (⟨#[]⟩ : ByteArray)] [.int .i64 1, .int .i64 m.term, .int .i64 0, .int .i64 0, .int .i64 0, .int .i64 0, .int .i64 0, .int .i64 0, .int .i64 0, .str (⟨#[]⟩ : ByteArray)] [.int .i64 0, .int .i64 0, .int .i64 0, .int .i64 0, .int .i64 0, .int .i64 0, .int .i64 0, .int .i64 0, .int .i64 0, .str (⟨#[]⟩ : ByteArray)] [.agg [.int .i64 1, .int .i64 m.term, .int .i64 0, .int .i64 0, .int .i64 0, .int .i64 0, .int .i64 0, .int .i64 0, .int .i64 0, .str (⟨#[]⟩ : ByteArray)]] [] (by kernel_rfl) (by kernel_rfl) (by kernel_rfl) (by kernel_rfl) rfl (fun p hp => by cases hp) (by kernel_rfl) ?_
            refine At.append (t := 45) (d := 107) (e := 93) (es := 10) (bytes := 88) (s := .tmp 103) (x := .tmp 106) (S := .ref 116) (T := .ref 206) (xs := []) (ys := (([(⟨1, m.term, 0, 0, ⟨0, ⟨0, 0, 0, 0, (⟨#[]⟩ : ByteArray)⟩⟩⟩ : Rec)]).map encRec)) 207 [116] [206] (([(⟨1, m.term, 0, 0, ⟨0, ⟨0, 0, 0, 0, (⟨#[]⟩ : ByteArray)⟩⟩⟩ : Rec)]).map encRec) (by kernel_rfl) (by kernel_rfl) (by kernel_rfl) (by kernel_rfl) ⟨by kernel_rfl, rfl⟩ ⟨by kernel_rfl, .inr rfl⟩ (by kernel_rfl) (by kernel_rfl) (by simp) (by simp only [List.length_map, List.length_append, List.length_take, List.length_drop, List.length_replicate, List.length_set, List.length_cons, List.length_nil]; omega) (by simp only [List.length_map, List.length_append, List.length_take, List.length_drop, List.length_replicate, List.length_set, List.length_cons, List.length_nil]; omega) ?_
            refine At.a 1 ?_
            refine At.done rfl ?_
            refine AW.seq ?_
            refine AW.regionD Try_mix (At.start ?_)
            refine At.a 13 ?_
            refine At.litK (t := 29) (d := 121) (e := 76) (es := 17) (bytes := 168) (n := 1) (parts := #[(0, .tmp 120)]) (88, 6) 221 [] [.int .i64 m.from_, .int .i64 2, .int .i64 r.id, .int .i64 m.term, .int .i64 0, .int .i64 0, .int .i64 0, .bool (yesB m.term 0 r.hard.log m), .int .i64 0, .int .i64 0, .str (⟨#[]⟩ : ByteArray), .int .i64 0, .int .i64 0, .int .i64 0, .int .i64 0, .str (⟨#[]⟩ : ByteArray), .nil] [.int .i64 m.from_, .int .i64 2, .int .i64 r.id, .int .i64 m.term, .int .i64 0, .int .i64 0, .int .i64 0, .bool (yesB m.term 0 r.hard.log m), .int .i64 0, .int .i64 0, .str (⟨#[]⟩ : ByteArray), .int .i64 0, .int .i64 0, .int .i64 0, .int .i64 0, .str (⟨#[]⟩ : ByteArray), .own 88 6 []] [.int .i64 0, .int .i64 0, .int .i64 0, .int .i64 0, .int .i64 0, .int .i64 0, .int .i64 0, .bool false, .int .i64 0, .int .i64 0, .str (⟨#[]⟩ : ByteArray), .int .i64 0, .int .i64 0, .int .i64 0, .int .i64 0, .str (⟨#[]⟩ : ByteArray), .nil] [.agg [.int .i64 m.from_, .int .i64 2, .int .i64 r.id, .int .i64 m.term, .int .i64 0, .int .i64 0, .int .i64 0, .bool (yesB m.term 0 r.hard.log m), .int .i64 0, .int .i64 0, .str (⟨#[]⟩ : ByteArray), .int .i64 0, .int .i64 0, .int .i64 0, .int .i64 0, .str (⟨#[]⟩ : ByteArray), .own 88 6 []]] [] (by kernel_rfl) (by kernel_rfl) (by kernel_rfl) (by kernel_rfl) rfl (fun p hp => by cases hp) (by kernel_rfl) ?_
            refine At.append (t := 29) (d := 122) (e := 76) (es := 17) (bytes := 168) (s := .tmp 110) (x := .tmp 121) (S := .ref 117) (T := .ref 221) (xs := []) (ys := (([(⟨m.from_, ⟨2, r.id, m.term, 0, 0, 0, yesB m.term 0 r.hard.log m, 0, 0, (⟨#[]⟩ : ByteArray), ⟨0, 0, 0, 0, (⟨#[]⟩ : ByteArray)⟩, []⟩⟩ : Out)]).map encOut)) 222 [117] [221] (([(⟨m.from_, ⟨2, r.id, m.term, 0, 0, 0, yesB m.term 0 r.hard.log m, 0, 0, (⟨#[]⟩ : ByteArray), ⟨0, 0, 0, 0, (⟨#[]⟩ : ByteArray)⟩, []⟩⟩ : Out)]).map encOut) (by kernel_rfl) (by kernel_rfl) (by kernel_rfl) (by kernel_rfl) ⟨by kernel_rfl, rfl⟩ ⟨by kernel_rfl, .inr rfl⟩ (by kernel_rfl) (by kernel_rfl) (by simp) (by simp only [List.length_map, List.length_append, List.length_take, List.length_drop, List.length_replicate, List.length_set, List.length_cons, List.length_nil]; omega) (by simp only [List.length_map, List.length_append, List.length_take, List.length_drop, List.length_replicate, List.length_set, List.length_cons, List.length_nil]; omega) ?_
            refine At.a 3 ?_
            refine At.done rfl ⟨by kernel_rfl, ?_⟩
            refine AW.ret ?_
            refine ⟨_, Sub.refl _ _, ?_⟩
            refine KF.conv (fun w => .tup [.agg [.int .i64 w.id, .int .i64 w.of_, .int .i64 w.role, .int .i64 w.commit, .int .i64 w.hard.term, .int .i64 w.hard.vote, .ref 0, .ref 1, .ref 2, .ref 3], .ref 4, .ref 5]) (fun w => [.arr 88 6 (w.hard.log.map encEnt), .arr 3 1 (w.yes.map encI), .arr 3 1 (w.next.map encI), .arr 3 1 (w.match_.map encI), .arr 93 10 ((askRecs r m).map encRec), .arr 76 17 ((askOuts r m).map encOut)]) (show ((⟨r.id, r.of_, 1, r.commit, ⟨m.term, 0, r.hard.log⟩, [], [], []⟩ : Raft)) = (askR r m) from by grind [askR, askRecs, askOuts, ask1, ask0, askYes, folT, same, voteRec, zEnt, zCmd, termAt_end]) ?_
            refine KF.conv (fun w => .tup [.agg [.int .i64 r.id, .int .i64 r.of_, .int .i64 1, .int .i64 r.commit, .int .i64 m.term, .int .i64 0, .ref 0, .ref 1, .ref 2, .ref 3], .ref 4, .ref 5]) (fun w => [.arr 88 6 (r.hard.log.map encEnt), .arr 3 1 [], .arr 3 1 [], .arr 3 1 [], .arr 93 10 (w.map encRec), .arr 76 17 ((askOuts r m).map encOut)]) (show ([(⟨1, m.term, 0, 0, ⟨0, ⟨0, 0, 0, 0, (⟨#[]⟩ : ByteArray)⟩⟩⟩ : Rec)]) = (askRecs r m) from by grind [askR, askRecs, askOuts, ask1, ask0, askYes, folT, same, voteRec, zEnt, zCmd, termAt_end]) ?_
            refine KF.conv (fun w => .tup [.agg [.int .i64 r.id, .int .i64 r.of_, .int .i64 1, .int .i64 r.commit, .int .i64 m.term, .int .i64 0, .ref 0, .ref 1, .ref 2, .ref 3], .ref 4, .ref 5]) (fun w => [.arr 88 6 (r.hard.log.map encEnt), .arr 3 1 [], .arr 3 1 [], .arr 3 1 [], .arr 93 10 (([(⟨1, m.term, 0, 0, ⟨0, ⟨0, 0, 0, 0, (⟨#[]⟩ : ByteArray)⟩⟩⟩ : Rec)]).map encRec), .arr 76 17 (w.map encOut)]) (show ([(⟨m.from_, ⟨2, r.id, m.term, 0, 0, 0, yesB m.term 0 r.hard.log m, 0, 0, (⟨#[]⟩ : ByteArray), ⟨0, 0, 0, 0, (⟨#[]⟩ : ByteArray)⟩, []⟩⟩ : Out)]) = (askOuts r m) from by grind [askR, askRecs, askOuts, ask1, ask0, askYes, folT, same, voteRec, zEnt, zCmd, termAt_end]) ?_
            exact KF.m [(1300, 0), (1680, 1), (1681, 2), (1682, 3), (207, 4), (222, 5)] [.agg [.int .i64 r.id, .int .i64 r.of_, .int .i64 1, .int .i64 r.commit, .int .i64 m.term, .int .i64 0, .ref 1300, .ref 1680, .ref 1681, .ref 1682], .ref 207, .ref 222]
          · skip
            refine AW.skip ?_
            refine AW.seq ?_
            refine AW.regionD Try_mix (At.start ?_)
            refine At.a 13 ?_
            refine At.litK (t := 29) (d := 121) (e := 76) (es := 17) (bytes := 168) (n := 1) (parts := #[(0, .tmp 120)]) (88, 6) 221 [] [.int .i64 m.from_, .int .i64 2, .int .i64 r.id, .int .i64 m.term, .int .i64 0, .int .i64 0, .int .i64 0, .bool (yesB m.term 0 r.hard.log m), .int .i64 0, .int .i64 0, .str (⟨#[]⟩ : ByteArray), .int .i64 0, .int .i64 0, .int .i64 0, .int .i64 0, .str (⟨#[]⟩ : ByteArray), .nil] [.int .i64 m.from_, .int .i64 2, .int .i64 r.id, .int .i64 m.term, .int .i64 0, .int .i64 0, .int .i64 0, .bool (yesB m.term 0 r.hard.log m), .int .i64 0, .int .i64 0, .str (⟨#[]⟩ : ByteArray), .int .i64 0, .int .i64 0, .int .i64 0, .int .i64 0, .str (⟨#[]⟩ : ByteArray), .own 88 6 []] [.int .i64 0, .int .i64 0, .int .i64 0, .int .i64 0, .int .i64 0, .int .i64 0, .int .i64 0, .bool false, .int .i64 0, .int .i64 0, .str (⟨#[]⟩ : ByteArray), .int .i64 0, .int .i64 0, .int .i64 0, .int .i64 0, .str (⟨#[]⟩ : ByteArray), .nil] [.agg [.int .i64 m.from_, .int .i64 2, .int .i64 r.id, .int .i64 m.term, .int .i64 0, .int .i64 0, .int .i64 0, .bool (yesB m.term 0 r.hard.log m), .int .i64 0, .int .i64 0, .str (⟨#[]⟩ : ByteArray), .int .i64 0, .int .i64 0, .int .i64 0, .int .i64 0, .str (⟨#[]⟩ : ByteArray), .own 88 6 []]] [] (by kernel_rfl) (by kernel_rfl) (by kernel_rfl) (by kernel_rfl) rfl (fun p hp => by cases hp) (by kernel_rfl) ?_
            refine At.append (t := 29) (d := 122) (e := 76) (es := 17) (bytes := 168) (s := .tmp 110) (x := .tmp 121) (S := .ref 117) (T := .ref 221) (xs := []) (ys := (([(⟨m.from_, ⟨2, r.id, m.term, 0, 0, 0, yesB m.term 0 r.hard.log m, 0, 0, (⟨#[]⟩ : ByteArray), ⟨0, 0, 0, 0, (⟨#[]⟩ : ByteArray)⟩, []⟩⟩ : Out)]).map encOut)) 222 [117] [221] (([(⟨m.from_, ⟨2, r.id, m.term, 0, 0, 0, yesB m.term 0 r.hard.log m, 0, 0, (⟨#[]⟩ : ByteArray), ⟨0, 0, 0, 0, (⟨#[]⟩ : ByteArray)⟩, []⟩⟩ : Out)]).map encOut) (by kernel_rfl) (by kernel_rfl) (by kernel_rfl) (by kernel_rfl) ⟨by kernel_rfl, rfl⟩ ⟨by kernel_rfl, .inr rfl⟩ (by kernel_rfl) (by kernel_rfl) (by simp) (by simp only [List.length_map, List.length_append, List.length_take, List.length_drop, List.length_replicate, List.length_set, List.length_cons, List.length_nil]; omega) (by simp only [List.length_map, List.length_append, List.length_take, List.length_drop, List.length_replicate, List.length_set, List.length_cons, List.length_nil]; omega) ?_
            refine At.a 3 ?_
            refine At.done rfl ⟨by kernel_rfl, ?_⟩
            refine AW.ret ?_
            refine ⟨_, Sub.refl _ _, ?_⟩
            refine KF.conv (fun w => .tup [.agg [.int .i64 w.id, .int .i64 w.of_, .int .i64 w.role, .int .i64 w.commit, .int .i64 w.hard.term, .int .i64 w.hard.vote, .ref 0, .ref 1, .ref 2, .ref 3], .ref 4, .ref 5]) (fun w => [.arr 88 6 (w.hard.log.map encEnt), .arr 3 1 (w.yes.map encI), .arr 3 1 (w.next.map encI), .arr 3 1 (w.match_.map encI), .arr 93 10 ((askRecs r m).map encRec), .arr 76 17 ((askOuts r m).map encOut)]) (show ((⟨r.id, r.of_, 1, r.commit, ⟨m.term, 0, r.hard.log⟩, [], [], []⟩ : Raft)) = (askR r m) from by grind [askR, askRecs, askOuts, ask1, ask0, askYes, folT, same, voteRec, zEnt, zCmd, termAt_end]) ?_
            refine KF.conv (fun w => .tup [.agg [.int .i64 r.id, .int .i64 r.of_, .int .i64 1, .int .i64 r.commit, .int .i64 m.term, .int .i64 0, .ref 0, .ref 1, .ref 2, .ref 3], .ref 4, .ref 5]) (fun w => [.arr 88 6 (r.hard.log.map encEnt), .arr 3 1 [], .arr 3 1 [], .arr 3 1 [], .arr 93 10 (w.map encRec), .arr 76 17 ((askOuts r m).map encOut)]) (show ([]) = (askRecs r m) from by grind [askR, askRecs, askOuts, ask1, ask0, askYes, folT, same, voteRec, zEnt, zCmd, termAt_end]) ?_
            refine KF.conv (fun w => .tup [.agg [.int .i64 r.id, .int .i64 r.of_, .int .i64 1, .int .i64 r.commit, .int .i64 m.term, .int .i64 0, .ref 0, .ref 1, .ref 2, .ref 3], .ref 4, .ref 5]) (fun w => [.arr 88 6 (r.hard.log.map encEnt), .arr 3 1 [], .arr 3 1 [], .arr 3 1 [], .arr 93 10 [], .arr 76 17 (w.map encOut)]) (show ([(⟨m.from_, ⟨2, r.id, m.term, 0, 0, 0, yesB m.term 0 r.hard.log m, 0, 0, (⟨#[]⟩ : ByteArray), ⟨0, 0, 0, 0, (⟨#[]⟩ : ByteArray)⟩, []⟩⟩ : Out)]) = (askOuts r m) from by grind [askR, askRecs, askOuts, ask1, ask0, askYes, folT, same, voteRec, zEnt, zCmd, termAt_end]) ?_
            exact KF.m [(1300, 0), (1680, 1), (1681, 2), (1682, 3), (116, 4), (222, 5)] [.agg [.int .i64 r.id, .int .i64 r.of_, .int .i64 1, .int .i64 r.commit, .int .i64 m.term, .int .i64 0, .ref 1300, .ref 1680, .ref 1681, .ref 1682], .ref 116, .ref 222]
      · skip
        refine AW.skip ?_
        refine AW.r ?_
        refine At.a 1 ?_
        refine At.c (spec_l10End_spec  r ) Try.call53 false [] [] [(1300, 6, (r.hard.log.map encEnt)), (1301, 1, (r.yes.map encI)), (1302, 1, (r.next.map encI)), (1303, 1, (r.match_.map encI))] ⟨rfl, ⟨88, (r.hard.log.map encEnt), by kernel_rfl, FrzIs.same (allP_encEnt _)⟩, rfl, ⟨3, (r.yes.map encI), by kernel_rfl, FrzIs.same (allP_encI _)⟩, rfl, ⟨3, (r.next.map encI), by kernel_rfl, FrzIs.same (allP_encI _)⟩, rfl, ⟨3, (r.match_.map encI), by kernel_rfl, FrzIs.same (allP_encI _)⟩, trivial⟩ ?_
        refine At.a 1 ?_
        refine At.done rfl ?_
        refine AW.r ?_
        refine At.a 3 ?_
        refine At.c (spec_l10Term_spec  r.hard (r.hard.log.length : Int) (by omega)) Try.call69 false [] [] [(1300, 6, (r.hard.log.map encEnt))] ⟨rfl, ⟨88, (r.hard.log.map encEnt), by kernel_rfl, FrzIs.same (allP_encEnt _)⟩, trivial⟩ ?_
        refine At.a 1 ?_
        refine At.done rfl ?_
        refine AW.seq ?_
        refine AW.cut [(102, 102), (103, 103), (104, 104), (107, 107), (116, 116), (117, 117), (1300, 1300), (1301, 1301), (1302, 1302), (1303, 1303), (5001, 5001), (5002, 5002), (5003, 5003), (5004, 5004)] [false, false, true, true, true, false, false, true, true, true] 12 (freshB r.hard.log m) ?_ ?_
        · skip
          refine AW.region (At.start ?_)
          refine At.a 5 ?_
          by_cases h13 : m.atTerm > (termAt r.hard.log (r.hard.log.length : Int))
          · refine At.sB 45 (decide (m.atTerm > (termAt r.hard.log (r.hard.log.length : Int)))) true (sayT h13) ?_
            refine At.a 12 ?_
            refine At.sB 12 true (freshB r.hard.log m) (congrArg V.bool (by grind [freshB, termAt_end])) ?_
            refine At.done rfl ⟨rfl, ?_⟩
            exact Sub.cut [(102, 102), (103, 103), (104, 104), (107, 107), (116, 116), (117, 117), (1300, 1300), (1301, 1301), (1302, 1302), (1303, 1303), (5001, 5001), (5002, 5002), (5003, 5003), (5004, 5004)] [false, false, true, true, true, false, false, true, true, true] 12 _ (by kernel_rfl) (by kernel_rfl) (by kernel_rfl) (by kernel_rfl)
          · refine At.sB 45 (decide (m.atTerm > (termAt r.hard.log (r.hard.log.length : Int)))) false (sayF h13) ?_
            refine At.a 5 ?_
            by_cases h14 : m.atTerm = termAt r.hard.log (r.hard.log.length : Int)
            · refine At.sB 50 (m.atTerm == (termAt r.hard.log (r.hard.log.length : Int))) true (sayET h14) ?_
              refine At.a 7 ?_
              refine At.sB 12 (decide (m.at_ ≥ (r.hard.log.length : Int))) (freshB r.hard.log m) (congrArg V.bool (by grind [freshB, termAt_end])) ?_
              refine At.done rfl ⟨rfl, ?_⟩
              exact Sub.cut [(102, 102), (103, 103), (104, 104), (107, 107), (116, 116), (117, 117), (1300, 1300), (1301, 1301), (1302, 1302), (1303, 1303), (5001, 5001), (5002, 5002), (5003, 5003), (5004, 5004)] [false, false, true, true, true, false, false, true, true, true] 12 _ (by kernel_rfl) (by kernel_rfl) (by kernel_rfl) (by kernel_rfl)
            · refine At.sB 50 (m.atTerm == (termAt r.hard.log (r.hard.log.length : Int))) false (sayEF h14) ?_
              refine At.a 7 ?_
              refine At.sB 12 false (freshB r.hard.log m) (congrArg V.bool (by grind [freshB, termAt_end])) ?_
              refine At.done rfl ⟨rfl, ?_⟩
              exact Sub.cut [(102, 102), (103, 103), (104, 104), (107, 107), (116, 116), (117, 117), (1300, 1300), (1301, 1301), (1302, 1302), (1303, 1303), (5001, 5001), (5002, 5002), (5003, 5003), (5004, 5004)] [false, false, true, true, true, false, false, true, true, true] 12 _ (by kernel_rfl) (by kernel_rfl) (by kernel_rfl) (by kernel_rfl)
        refine AW.seq ?_
        refine AW.cut [(102, 102), (103, 103), (104, 104), (107, 107), (116, 116), (117, 117), (1300, 1300), (1301, 1301), (1302, 1302), (1303, 1303), (5001, 5001), (5002, 5002), (5003, 5003), (5004, 5004)] [false, false, true, true, true, false, false, true, true, true] 13 (yesB r.hard.term r.hard.vote r.hard.log m) ?_ ?_
        · skip
          refine AW.region (At.start ?_)
          refine At.a 7 ?_
          by_cases h15 : m.term = r.hard.term
          · refine At.sB 63 (m.term == r.hard.term) true (sayET h15) ?_
            refine At.a 5 ?_
            by_cases h16 : r.hard.vote = 0
            · refine At.sB 68 (r.hard.vote == 0) true (sayET h16) ?_
              refine At.a 13 ?_
              refine At.sB 13 (freshB r.hard.log m) (yesB r.hard.term r.hard.vote r.hard.log m) (congrArg V.bool (by grind [yesB])) ?_
              refine At.done rfl ⟨rfl, ?_⟩
              exact Sub.cut [(102, 102), (103, 103), (104, 104), (107, 107), (116, 116), (117, 117), (1300, 1300), (1301, 1301), (1302, 1302), (1303, 1303), (5001, 5001), (5002, 5002), (5003, 5003), (5004, 5004)] [false, false, true, true, true, false, false, true, true, true] 13 _ (by kernel_rfl) (by kernel_rfl) (by kernel_rfl) (by kernel_rfl)
            · refine At.sB 68 (r.hard.vote == 0) false (sayEF h16) ?_
              refine At.a 6 ?_
              refine At.sI 74 (m.from_ + 1) (by omega) ?_
              refine At.a 4 ?_
              by_cases h17 : r.hard.vote = m.from_ + 1
              · refine At.sB 78 (r.hard.vote == (m.from_ + 1)) true (sayET h17) ?_
                refine At.a 3 ?_
                refine At.sB 13 (freshB r.hard.log m) (yesB r.hard.term r.hard.vote r.hard.log m) (congrArg V.bool (by grind [yesB])) ?_
                refine At.done rfl ⟨rfl, ?_⟩
                exact Sub.cut [(102, 102), (103, 103), (104, 104), (107, 107), (116, 116), (117, 117), (1300, 1300), (1301, 1301), (1302, 1302), (1303, 1303), (5001, 5001), (5002, 5002), (5003, 5003), (5004, 5004)] [false, false, true, true, true, false, false, true, true, true] 13 _ (by kernel_rfl) (by kernel_rfl) (by kernel_rfl) (by kernel_rfl)
              · refine At.sB 78 (r.hard.vote == (m.from_ + 1)) false (sayEF h17) ?_
                refine At.a 3 ?_
                refine At.sB 13 false (yesB r.hard.term r.hard.vote r.hard.log m) (congrArg V.bool (by grind [yesB])) ?_
                refine At.done rfl ⟨rfl, ?_⟩
                exact Sub.cut [(102, 102), (103, 103), (104, 104), (107, 107), (116, 116), (117, 117), (1300, 1300), (1301, 1301), (1302, 1302), (1303, 1303), (5001, 5001), (5002, 5002), (5003, 5003), (5004, 5004)] [false, false, true, true, true, false, false, true, true, true] 13 _ (by kernel_rfl) (by kernel_rfl) (by kernel_rfl) (by kernel_rfl)
          · refine At.sB 63 (m.term == r.hard.term) false (sayEF h15) ?_
            refine At.a 18 ?_
            refine At.sB 13 false (yesB r.hard.term r.hard.vote r.hard.log m) (congrArg V.bool (by grind [yesB])) ?_
            refine At.done rfl ⟨rfl, ?_⟩
            exact Sub.cut [(102, 102), (103, 103), (104, 104), (107, 107), (116, 116), (117, 117), (1300, 1300), (1301, 1301), (1302, 1302), (1303, 1303), (5001, 5001), (5002, 5002), (5003, 5003), (5004, 5004)] [false, false, true, true, true, false, false, true, true, true] 13 _ (by kernel_rfl) (by kernel_rfl) (by kernel_rfl) (by kernel_rfl)
        refine AW.seq ?_
        refine AW.r ?_
        refine At.a 1 ?_
        refine At.done rfl ?_
        refine AW.cB (yesB r.hard.term r.hard.vote r.hard.log m) (fun h18 => ?_) (fun h18 => ?_)
        · skip
          refine AW.region (At.start ?_)
          refine At.a 3 ?_
          refine At.sI 84 (m.from_ + 1) (by omega) ?_
          refine At.a 3 ?_
          refine At.done rfl ?_
          refine AW.seq ?_
          refine AW.seq ?_
          refine AW.cut [(102, 102), (103, 103), (104, 104), (107, 107), (116, 116), (117, 117), (1300, 1300), (1301, 1301), (1302, 1302), (1303, 1303), (5001, 5001), (5002, 5002), (5003, 5003), (5004, 5004)] [false, false, true, true, true, false, false, true, true, true, false, false, false, true] 102 (chgB r.hard.term (m.from_ + 1) r) ?_ ?_
          · skip
            refine AW.region (At.start ?_)
            refine At.a 8 ?_
            by_cases h19 : r.hard.term = r.hard.term
            · refine At.sB 94 (r.hard.term != r.hard.term) false (sayUF h19) ?_
              refine At.a 8 ?_
              refine At.sB 102 ((m.from_ + 1) != r.hard.vote) (chgB r.hard.term (m.from_ + 1) r) (congrArg V.bool (by grind [chgB])) ?_
              refine At.done rfl ⟨rfl, ?_⟩
              exact Sub.cut [(102, 102), (103, 103), (104, 104), (107, 107), (116, 116), (117, 117), (1300, 1300), (1301, 1301), (1302, 1302), (1303, 1303), (5001, 5001), (5002, 5002), (5003, 5003), (5004, 5004)] [false, false, true, true, true, false, false, true, true, true, false, false, false, true] 102 _ (by kernel_rfl) (by kernel_rfl) (by kernel_rfl) (by kernel_rfl)
            · refine At.sB 94 (r.hard.term != r.hard.term) true (sayUT h19) ?_
              refine At.a 8 ?_
              refine At.sB 102 true (chgB r.hard.term (m.from_ + 1) r) (congrArg V.bool (by grind [chgB])) ?_
              refine At.done rfl ⟨rfl, ?_⟩
              exact Sub.cut [(102, 102), (103, 103), (104, 104), (107, 107), (116, 116), (117, 117), (1300, 1300), (1301, 1301), (1302, 1302), (1303, 1303), (5001, 5001), (5002, 5002), (5003, 5003), (5004, 5004)] [false, false, true, true, true, false, false, true, true, true, false, false, false, true] 102 _ (by kernel_rfl) (by kernel_rfl) (by kernel_rfl) (by kernel_rfl)
          refine AW.cB (chgB r.hard.term (m.from_ + 1) r) (fun h20 => ?_) (fun h20 => ?_)
          · skip
            refine AW.region (At.start ?_)
            refine At.a 2 ?_
            refine At.c (spec_l10Vote_spec  (⟨r.id, r.of_, r.role, r.commit, ⟨r.hard.term, m.from_ + 1, r.hard.log⟩, r.yes, r.next, r.match_⟩ : Raft) ) Try.call63 false [] [] [(1300, 6, (r.hard.log.map encEnt)), (1301, 1, (r.yes.map encI)), (1302, 1, (r.next.map encI)), (1303, 1, (r.match_.map encI))] ⟨rfl, ⟨88, (r.hard.log.map encEnt), by kernel_rfl, FrzIs.same (allP_encEnt _)⟩, rfl, ⟨3, (r.yes.map encI), by kernel_rfl, FrzIs.same (allP_encI _)⟩, rfl, ⟨3, (r.next.map encI), by kernel_rfl, FrzIs.same (allP_encI _)⟩, rfl, ⟨3, (r.match_.map encI), by kernel_rfl, FrzIs.same (allP_encI _)⟩, trivial⟩ ?_
            refine At.litK (t := 45) (d := 106) (e := 93) (es := 10) (bytes := 88) (n := 1) (parts := #[(0, .tmp 105)]) (88, 6) 206 [] [.int .i64 1, .int .i64 r.hard.term, .int .i64 (m.from_ + 1), .int .i64 0, .int .i64 0, .int .i64 0, .int .i64 0, .int .i64 0, .int .i64 0, .str (⟨#[]⟩ : ByteArray)] [.int .i64 1, .int .i64 r.hard.term, .int .i64 (m.from_ + 1), .int .i64 0, .int .i64 0, .int .i64 0, .int .i64 0, .int .i64 0, .int .i64 0, .str (⟨#[]⟩ : ByteArray)] [.int .i64 0, .int .i64 0, .int .i64 0, .int .i64 0, .int .i64 0, .int .i64 0, .int .i64 0, .int .i64 0, .int .i64 0, .str (⟨#[]⟩ : ByteArray)] [.agg [.int .i64 1, .int .i64 r.hard.term, .int .i64 (m.from_ + 1), .int .i64 0, .int .i64 0, .int .i64 0, .int .i64 0, .int .i64 0, .int .i64 0, .str (⟨#[]⟩ : ByteArray)]] [] (by kernel_rfl) (by kernel_rfl) (by kernel_rfl) (by kernel_rfl) rfl (fun p hp => by cases hp) (by kernel_rfl) ?_
            refine At.append (t := 45) (d := 107) (e := 93) (es := 10) (bytes := 88) (s := .tmp 103) (x := .tmp 106) (S := .ref 116) (T := .ref 206) (xs := []) (ys := (([(⟨1, r.hard.term, (m.from_ + 1), 0, ⟨0, ⟨0, 0, 0, 0, (⟨#[]⟩ : ByteArray)⟩⟩⟩ : Rec)]).map encRec)) 207 [116] [206] (([(⟨1, r.hard.term, (m.from_ + 1), 0, ⟨0, ⟨0, 0, 0, 0, (⟨#[]⟩ : ByteArray)⟩⟩⟩ : Rec)]).map encRec) (by kernel_rfl) (by kernel_rfl) (by kernel_rfl) (by kernel_rfl) ⟨by kernel_rfl, rfl⟩ ⟨by kernel_rfl, .inr rfl⟩ (by kernel_rfl) (by kernel_rfl) (by simp) (by simp only [List.length_map, List.length_append, List.length_take, List.length_drop, List.length_replicate, List.length_set, List.length_cons, List.length_nil]; omega) (by simp only [List.length_map, List.length_append, List.length_take, List.length_drop, List.length_replicate, List.length_set, List.length_cons, List.length_nil]; omega) ?_
            refine At.a 1 ?_
            refine At.done rfl ?_
            refine AW.seq ?_
            refine AW.regionD Try_mix (At.start ?_)
            refine At.a 13 ?_
            refine At.litK (t := 29) (d := 121) (e := 76) (es := 17) (bytes := 168) (n := 1) (parts := #[(0, .tmp 120)]) (88, 6) 221 [] [.int .i64 m.from_, .int .i64 2, .int .i64 r.id, .int .i64 r.hard.term, .int .i64 0, .int .i64 0, .int .i64 0, .bool (yesB r.hard.term r.hard.vote r.hard.log m), .int .i64 0, .int .i64 0, .str (⟨#[]⟩ : ByteArray), .int .i64 0, .int .i64 0, .int .i64 0, .int .i64 0, .str (⟨#[]⟩ : ByteArray), .nil] [.int .i64 m.from_, .int .i64 2, .int .i64 r.id, .int .i64 r.hard.term, .int .i64 0, .int .i64 0, .int .i64 0, .bool (yesB r.hard.term r.hard.vote r.hard.log m), .int .i64 0, .int .i64 0, .str (⟨#[]⟩ : ByteArray), .int .i64 0, .int .i64 0, .int .i64 0, .int .i64 0, .str (⟨#[]⟩ : ByteArray), .own 88 6 []] [.int .i64 0, .int .i64 0, .int .i64 0, .int .i64 0, .int .i64 0, .int .i64 0, .int .i64 0, .bool false, .int .i64 0, .int .i64 0, .str (⟨#[]⟩ : ByteArray), .int .i64 0, .int .i64 0, .int .i64 0, .int .i64 0, .str (⟨#[]⟩ : ByteArray), .nil] [.agg [.int .i64 m.from_, .int .i64 2, .int .i64 r.id, .int .i64 r.hard.term, .int .i64 0, .int .i64 0, .int .i64 0, .bool (yesB r.hard.term r.hard.vote r.hard.log m), .int .i64 0, .int .i64 0, .str (⟨#[]⟩ : ByteArray), .int .i64 0, .int .i64 0, .int .i64 0, .int .i64 0, .str (⟨#[]⟩ : ByteArray), .own 88 6 []]] [] (by kernel_rfl) (by kernel_rfl) (by kernel_rfl) (by kernel_rfl) rfl (fun p hp => by cases hp) (by kernel_rfl) ?_
            refine At.append (t := 29) (d := 122) (e := 76) (es := 17) (bytes := 168) (s := .tmp 110) (x := .tmp 121) (S := .ref 117) (T := .ref 221) (xs := []) (ys := (([(⟨m.from_, ⟨2, r.id, r.hard.term, 0, 0, 0, yesB r.hard.term r.hard.vote r.hard.log m, 0, 0, (⟨#[]⟩ : ByteArray), ⟨0, 0, 0, 0, (⟨#[]⟩ : ByteArray)⟩, []⟩⟩ : Out)]).map encOut)) 222 [117] [221] (([(⟨m.from_, ⟨2, r.id, r.hard.term, 0, 0, 0, yesB r.hard.term r.hard.vote r.hard.log m, 0, 0, (⟨#[]⟩ : ByteArray), ⟨0, 0, 0, 0, (⟨#[]⟩ : ByteArray)⟩, []⟩⟩ : Out)]).map encOut) (by kernel_rfl) (by kernel_rfl) (by kernel_rfl) (by kernel_rfl) ⟨by kernel_rfl, rfl⟩ ⟨by kernel_rfl, .inr rfl⟩ (by kernel_rfl) (by kernel_rfl) (by simp) (by simp only [List.length_map, List.length_append, List.length_take, List.length_drop, List.length_replicate, List.length_set, List.length_cons, List.length_nil]; omega) (by simp only [List.length_map, List.length_append, List.length_take, List.length_drop, List.length_replicate, List.length_set, List.length_cons, List.length_nil]; omega) ?_
            refine At.a 3 ?_
            refine At.done rfl ⟨by kernel_rfl, ?_⟩
            refine AW.ret ?_
            refine ⟨_, Sub.refl _ _, ?_⟩
            refine KF.conv (fun w => .tup [.agg [.int .i64 w.id, .int .i64 w.of_, .int .i64 w.role, .int .i64 w.commit, .int .i64 w.hard.term, .int .i64 w.hard.vote, .ref 0, .ref 1, .ref 2, .ref 3], .ref 4, .ref 5]) (fun w => [.arr 88 6 (w.hard.log.map encEnt), .arr 3 1 (w.yes.map encI), .arr 3 1 (w.next.map encI), .arr 3 1 (w.match_.map encI), .arr 93 10 ((askRecs r m).map encRec), .arr 76 17 ((askOuts r m).map encOut)]) (show ((⟨r.id, r.of_, r.role, r.commit, ⟨r.hard.term, m.from_ + 1, r.hard.log⟩, r.yes, r.next, r.match_⟩ : Raft)) = (askR r m) from by grind [askR, askRecs, askOuts, ask1, ask0, askYes, folT, same, voteRec, zEnt, zCmd, termAt_end]) ?_
            refine KF.conv (fun w => .tup [.agg [.int .i64 r.id, .int .i64 r.of_, .int .i64 r.role, .int .i64 r.commit, .int .i64 r.hard.term, .int .i64 (m.from_ + 1), .ref 0, .ref 1, .ref 2, .ref 3], .ref 4, .ref 5]) (fun w => [.arr 88 6 (r.hard.log.map encEnt), .arr 3 1 (r.yes.map encI), .arr 3 1 (r.next.map encI), .arr 3 1 (r.match_.map encI), .arr 93 10 (w.map encRec), .arr 76 17 ((askOuts r m).map encOut)]) (show ([(⟨1, r.hard.term, (m.from_ + 1), 0, ⟨0, ⟨0, 0, 0, 0, (⟨#[]⟩ : ByteArray)⟩⟩⟩ : Rec)]) = (askRecs r m) from by grind [askR, askRecs, askOuts, ask1, ask0, askYes, folT, same, voteRec, zEnt, zCmd, termAt_end]) ?_
            refine KF.conv (fun w => .tup [.agg [.int .i64 r.id, .int .i64 r.of_, .int .i64 r.role, .int .i64 r.commit, .int .i64 r.hard.term, .int .i64 (m.from_ + 1), .ref 0, .ref 1, .ref 2, .ref 3], .ref 4, .ref 5]) (fun w => [.arr 88 6 (r.hard.log.map encEnt), .arr 3 1 (r.yes.map encI), .arr 3 1 (r.next.map encI), .arr 3 1 (r.match_.map encI), .arr 93 10 (([(⟨1, r.hard.term, (m.from_ + 1), 0, ⟨0, ⟨0, 0, 0, 0, (⟨#[]⟩ : ByteArray)⟩⟩⟩ : Rec)]).map encRec), .arr 76 17 (w.map encOut)]) (show ([(⟨m.from_, ⟨2, r.id, r.hard.term, 0, 0, 0, yesB r.hard.term r.hard.vote r.hard.log m, 0, 0, (⟨#[]⟩ : ByteArray), ⟨0, 0, 0, 0, (⟨#[]⟩ : ByteArray)⟩, []⟩⟩ : Out)]) = (askOuts r m) from by grind [askR, askRecs, askOuts, ask1, ask0, askYes, folT, same, voteRec, zEnt, zCmd, termAt_end]) ?_
            exact KF.m [(1300, 0), (1301, 1), (1302, 2), (1303, 3), (207, 4), (222, 5)] [.agg [.int .i64 r.id, .int .i64 r.of_, .int .i64 r.role, .int .i64 r.commit, .int .i64 r.hard.term, .int .i64 (m.from_ + 1), .ref 1300, .ref 1301, .ref 1302, .ref 1303], .ref 207, .ref 222]
          · skip
            refine AW.skip ?_
            refine AW.seq ?_
            refine AW.regionD Try_mix (At.start ?_)
            refine At.a 13 ?_
            refine At.litK (t := 29) (d := 121) (e := 76) (es := 17) (bytes := 168) (n := 1) (parts := #[(0, .tmp 120)]) (88, 6) 221 [] [.int .i64 m.from_, .int .i64 2, .int .i64 r.id, .int .i64 r.hard.term, .int .i64 0, .int .i64 0, .int .i64 0, .bool (yesB r.hard.term r.hard.vote r.hard.log m), .int .i64 0, .int .i64 0, .str (⟨#[]⟩ : ByteArray), .int .i64 0, .int .i64 0, .int .i64 0, .int .i64 0, .str (⟨#[]⟩ : ByteArray), .nil] [.int .i64 m.from_, .int .i64 2, .int .i64 r.id, .int .i64 r.hard.term, .int .i64 0, .int .i64 0, .int .i64 0, .bool (yesB r.hard.term r.hard.vote r.hard.log m), .int .i64 0, .int .i64 0, .str (⟨#[]⟩ : ByteArray), .int .i64 0, .int .i64 0, .int .i64 0, .int .i64 0, .str (⟨#[]⟩ : ByteArray), .own 88 6 []] [.int .i64 0, .int .i64 0, .int .i64 0, .int .i64 0, .int .i64 0, .int .i64 0, .int .i64 0, .bool false, .int .i64 0, .int .i64 0, .str (⟨#[]⟩ : ByteArray), .int .i64 0, .int .i64 0, .int .i64 0, .int .i64 0, .str (⟨#[]⟩ : ByteArray), .nil] [.agg [.int .i64 m.from_, .int .i64 2, .int .i64 r.id, .int .i64 r.hard.term, .int .i64 0, .int .i64 0, .int .i64 0, .bool (yesB r.hard.term r.hard.vote r.hard.log m), .int .i64 0, .int .i64 0, .str (⟨#[]⟩ : ByteArray), .int .i64 0, .int .i64 0, .int .i64 0, .int .i64 0, .str (⟨#[]⟩ : ByteArray), .own 88 6 []]] [] (by kernel_rfl) (by kernel_rfl) (by kernel_rfl) (by kernel_rfl) rfl (fun p hp => by cases hp) (by kernel_rfl) ?_
            refine At.append (t := 29) (d := 122) (e := 76) (es := 17) (bytes := 168) (s := .tmp 110) (x := .tmp 121) (S := .ref 117) (T := .ref 221) (xs := []) (ys := (([(⟨m.from_, ⟨2, r.id, r.hard.term, 0, 0, 0, yesB r.hard.term r.hard.vote r.hard.log m, 0, 0, (⟨#[]⟩ : ByteArray), ⟨0, 0, 0, 0, (⟨#[]⟩ : ByteArray)⟩, []⟩⟩ : Out)]).map encOut)) 222 [117] [221] (([(⟨m.from_, ⟨2, r.id, r.hard.term, 0, 0, 0, yesB r.hard.term r.hard.vote r.hard.log m, 0, 0, (⟨#[]⟩ : ByteArray), ⟨0, 0, 0, 0, (⟨#[]⟩ : ByteArray)⟩, []⟩⟩ : Out)]).map encOut) (by kernel_rfl) (by kernel_rfl) (by kernel_rfl) (by kernel_rfl) ⟨by kernel_rfl, rfl⟩ ⟨by kernel_rfl, .inr rfl⟩ (by kernel_rfl) (by kernel_rfl) (by simp) (by simp only [List.length_map, List.length_append, List.length_take, List.length_drop, List.length_replicate, List.length_set, List.length_cons, List.length_nil]; omega) (by simp only [List.length_map, List.length_append, List.length_take, List.length_drop, List.length_replicate, List.length_set, List.length_cons, List.length_nil]; omega) ?_
            refine At.a 3 ?_
            refine At.done rfl ⟨by kernel_rfl, ?_⟩
            refine AW.ret ?_
            refine ⟨_, Sub.refl _ _, ?_⟩
            refine KF.conv (fun w => .tup [.agg [.int .i64 w.id, .int .i64 w.of_, .int .i64 w.role, .int .i64 w.commit, .int .i64 w.hard.term, .int .i64 w.hard.vote, .ref 0, .ref 1, .ref 2, .ref 3], .ref 4, .ref 5]) (fun w => [.arr 88 6 (w.hard.log.map encEnt), .arr 3 1 (w.yes.map encI), .arr 3 1 (w.next.map encI), .arr 3 1 (w.match_.map encI), .arr 93 10 ((askRecs r m).map encRec), .arr 76 17 ((askOuts r m).map encOut)]) (show ((⟨r.id, r.of_, r.role, r.commit, ⟨r.hard.term, m.from_ + 1, r.hard.log⟩, r.yes, r.next, r.match_⟩ : Raft)) = (askR r m) from by grind [askR, askRecs, askOuts, ask1, ask0, askYes, folT, same, voteRec, zEnt, zCmd, termAt_end]) ?_
            refine KF.conv (fun w => .tup [.agg [.int .i64 r.id, .int .i64 r.of_, .int .i64 r.role, .int .i64 r.commit, .int .i64 r.hard.term, .int .i64 (m.from_ + 1), .ref 0, .ref 1, .ref 2, .ref 3], .ref 4, .ref 5]) (fun w => [.arr 88 6 (r.hard.log.map encEnt), .arr 3 1 (r.yes.map encI), .arr 3 1 (r.next.map encI), .arr 3 1 (r.match_.map encI), .arr 93 10 (w.map encRec), .arr 76 17 ((askOuts r m).map encOut)]) (show ([]) = (askRecs r m) from by grind [askR, askRecs, askOuts, ask1, ask0, askYes, folT, same, voteRec, zEnt, zCmd, termAt_end]) ?_
            refine KF.conv (fun w => .tup [.agg [.int .i64 r.id, .int .i64 r.of_, .int .i64 r.role, .int .i64 r.commit, .int .i64 r.hard.term, .int .i64 (m.from_ + 1), .ref 0, .ref 1, .ref 2, .ref 3], .ref 4, .ref 5]) (fun w => [.arr 88 6 (r.hard.log.map encEnt), .arr 3 1 (r.yes.map encI), .arr 3 1 (r.next.map encI), .arr 3 1 (r.match_.map encI), .arr 93 10 [], .arr 76 17 (w.map encOut)]) (show ([(⟨m.from_, ⟨2, r.id, r.hard.term, 0, 0, 0, yesB r.hard.term r.hard.vote r.hard.log m, 0, 0, (⟨#[]⟩ : ByteArray), ⟨0, 0, 0, 0, (⟨#[]⟩ : ByteArray)⟩, []⟩⟩ : Out)]) = (askOuts r m) from by grind [askR, askRecs, askOuts, ask1, ask0, askYes, folT, same, voteRec, zEnt, zCmd, termAt_end]) ?_
            exact KF.m [(1300, 0), (1301, 1), (1302, 2), (1303, 3), (116, 4), (222, 5)] [.agg [.int .i64 r.id, .int .i64 r.of_, .int .i64 r.role, .int .i64 r.commit, .int .i64 r.hard.term, .int .i64 (m.from_ + 1), .ref 1300, .ref 1301, .ref 1302, .ref 1303], .ref 116, .ref 222]
        · skip
          refine AW.skip ?_
          refine AW.seq ?_
          refine AW.seq ?_
          refine AW.cut [(102, 102), (103, 103), (104, 104), (107, 107), (116, 116), (117, 117), (1300, 1300), (1301, 1301), (1302, 1302), (1303, 1303), (5001, 5001), (5002, 5002), (5003, 5003), (5004, 5004)] [false, false, true, true, true, false, false, true, true, true, false, false, false, true] 102 (chgB r.hard.term r.hard.vote r) ?_ ?_
          · skip
            refine AW.region (At.start ?_)
            refine At.a 8 ?_
            by_cases h21 : r.hard.term = r.hard.term
            · refine At.sB 94 (r.hard.term != r.hard.term) false (sayUF h21) ?_
              refine At.a 8 ?_
              refine At.sB 102 (r.hard.vote != r.hard.vote) (chgB r.hard.term r.hard.vote r) (congrArg V.bool (by grind [chgB])) ?_
              refine At.done rfl ⟨rfl, ?_⟩
              exact Sub.cut [(102, 102), (103, 103), (104, 104), (107, 107), (116, 116), (117, 117), (1300, 1300), (1301, 1301), (1302, 1302), (1303, 1303), (5001, 5001), (5002, 5002), (5003, 5003), (5004, 5004)] [false, false, true, true, true, false, false, true, true, true, false, false, false, true] 102 _ (by kernel_rfl) (by kernel_rfl) (by kernel_rfl) (by kernel_rfl)
            · refine At.sB 94 (r.hard.term != r.hard.term) true (sayUT h21) ?_
              refine At.a 8 ?_
              refine At.sB 102 true (chgB r.hard.term r.hard.vote r) (congrArg V.bool (by grind [chgB])) ?_
              refine At.done rfl ⟨rfl, ?_⟩
              exact Sub.cut [(102, 102), (103, 103), (104, 104), (107, 107), (116, 116), (117, 117), (1300, 1300), (1301, 1301), (1302, 1302), (1303, 1303), (5001, 5001), (5002, 5002), (5003, 5003), (5004, 5004)] [false, false, true, true, true, false, false, true, true, true, false, false, false, true] 102 _ (by kernel_rfl) (by kernel_rfl) (by kernel_rfl) (by kernel_rfl)
          refine AW.cB (chgB r.hard.term r.hard.vote r) (fun h22 => ?_) (fun h22 => ?_)
          · skip
            refine AW.region (At.start ?_)
            refine At.a 2 ?_
            refine At.c (spec_l10Vote_spec  r ) Try.call63 false [] [] [(1300, 6, (r.hard.log.map encEnt)), (1301, 1, (r.yes.map encI)), (1302, 1, (r.next.map encI)), (1303, 1, (r.match_.map encI))] ⟨rfl, ⟨88, (r.hard.log.map encEnt), by kernel_rfl, FrzIs.same (allP_encEnt _)⟩, rfl, ⟨3, (r.yes.map encI), by kernel_rfl, FrzIs.same (allP_encI _)⟩, rfl, ⟨3, (r.next.map encI), by kernel_rfl, FrzIs.same (allP_encI _)⟩, rfl, ⟨3, (r.match_.map encI), by kernel_rfl, FrzIs.same (allP_encI _)⟩, trivial⟩ ?_
            refine At.litK (t := 45) (d := 106) (e := 93) (es := 10) (bytes := 88) (n := 1) (parts := #[(0, .tmp 105)]) (88, 6) 206 [] [.int .i64 1, .int .i64 r.hard.term, .int .i64 r.hard.vote, .int .i64 0, .int .i64 0, .int .i64 0, .int .i64 0, .int .i64 0, .int .i64 0, .str (⟨#[]⟩ : ByteArray)] [.int .i64 1, .int .i64 r.hard.term, .int .i64 r.hard.vote, .int .i64 0, .int .i64 0, .int .i64 0, .int .i64 0, .int .i64 0, .int .i64 0, .str (⟨#[]⟩ : ByteArray)] [.int .i64 0, .int .i64 0, .int .i64 0, .int .i64 0, .int .i64 0, .int .i64 0, .int .i64 0, .int .i64 0, .int .i64 0, .str (⟨#[]⟩ : ByteArray)] [.agg [.int .i64 1, .int .i64 r.hard.term, .int .i64 r.hard.vote, .int .i64 0, .int .i64 0, .int .i64 0, .int .i64 0, .int .i64 0, .int .i64 0, .str (⟨#[]⟩ : ByteArray)]] [] (by kernel_rfl) (by kernel_rfl) (by kernel_rfl) (by kernel_rfl) rfl (fun p hp => by cases hp) (by kernel_rfl) ?_
            refine At.append (t := 45) (d := 107) (e := 93) (es := 10) (bytes := 88) (s := .tmp 103) (x := .tmp 106) (S := .ref 116) (T := .ref 206) (xs := []) (ys := (([(⟨1, r.hard.term, r.hard.vote, 0, ⟨0, ⟨0, 0, 0, 0, (⟨#[]⟩ : ByteArray)⟩⟩⟩ : Rec)]).map encRec)) 207 [116] [206] (([(⟨1, r.hard.term, r.hard.vote, 0, ⟨0, ⟨0, 0, 0, 0, (⟨#[]⟩ : ByteArray)⟩⟩⟩ : Rec)]).map encRec) (by kernel_rfl) (by kernel_rfl) (by kernel_rfl) (by kernel_rfl) ⟨by kernel_rfl, rfl⟩ ⟨by kernel_rfl, .inr rfl⟩ (by kernel_rfl) (by kernel_rfl) (by simp) (by simp only [List.length_map, List.length_append, List.length_take, List.length_drop, List.length_replicate, List.length_set, List.length_cons, List.length_nil]; omega) (by simp only [List.length_map, List.length_append, List.length_take, List.length_drop, List.length_replicate, List.length_set, List.length_cons, List.length_nil]; omega) ?_
            refine At.a 1 ?_
            refine At.done rfl ?_
            refine AW.seq ?_
            refine AW.regionD Try_mix (At.start ?_)
            refine At.a 13 ?_
            refine At.litK (t := 29) (d := 121) (e := 76) (es := 17) (bytes := 168) (n := 1) (parts := #[(0, .tmp 120)]) (88, 6) 221 [] [.int .i64 m.from_, .int .i64 2, .int .i64 r.id, .int .i64 r.hard.term, .int .i64 0, .int .i64 0, .int .i64 0, .bool (yesB r.hard.term r.hard.vote r.hard.log m), .int .i64 0, .int .i64 0, .str (⟨#[]⟩ : ByteArray), .int .i64 0, .int .i64 0, .int .i64 0, .int .i64 0, .str (⟨#[]⟩ : ByteArray), .nil] [.int .i64 m.from_, .int .i64 2, .int .i64 r.id, .int .i64 r.hard.term, .int .i64 0, .int .i64 0, .int .i64 0, .bool (yesB r.hard.term r.hard.vote r.hard.log m), .int .i64 0, .int .i64 0, .str (⟨#[]⟩ : ByteArray), .int .i64 0, .int .i64 0, .int .i64 0, .int .i64 0, .str (⟨#[]⟩ : ByteArray), .own 88 6 []] [.int .i64 0, .int .i64 0, .int .i64 0, .int .i64 0, .int .i64 0, .int .i64 0, .int .i64 0, .bool false, .int .i64 0, .int .i64 0, .str (⟨#[]⟩ : ByteArray), .int .i64 0, .int .i64 0, .int .i64 0, .int .i64 0, .str (⟨#[]⟩ : ByteArray), .nil] [.agg [.int .i64 m.from_, .int .i64 2, .int .i64 r.id, .int .i64 r.hard.term, .int .i64 0, .int .i64 0, .int .i64 0, .bool (yesB r.hard.term r.hard.vote r.hard.log m), .int .i64 0, .int .i64 0, .str (⟨#[]⟩ : ByteArray), .int .i64 0, .int .i64 0, .int .i64 0, .int .i64 0, .str (⟨#[]⟩ : ByteArray), .own 88 6 []]] [] (by kernel_rfl) (by kernel_rfl) (by kernel_rfl) (by kernel_rfl) rfl (fun p hp => by cases hp) (by kernel_rfl) ?_
            refine At.append (t := 29) (d := 122) (e := 76) (es := 17) (bytes := 168) (s := .tmp 110) (x := .tmp 121) (S := .ref 117) (T := .ref 221) (xs := []) (ys := (([(⟨m.from_, ⟨2, r.id, r.hard.term, 0, 0, 0, yesB r.hard.term r.hard.vote r.hard.log m, 0, 0, (⟨#[]⟩ : ByteArray), ⟨0, 0, 0, 0, (⟨#[]⟩ : ByteArray)⟩, []⟩⟩ : Out)]).map encOut)) 222 [117] [221] (([(⟨m.from_, ⟨2, r.id, r.hard.term, 0, 0, 0, yesB r.hard.term r.hard.vote r.hard.log m, 0, 0, (⟨#[]⟩ : ByteArray), ⟨0, 0, 0, 0, (⟨#[]⟩ : ByteArray)⟩, []⟩⟩ : Out)]).map encOut) (by kernel_rfl) (by kernel_rfl) (by kernel_rfl) (by kernel_rfl) ⟨by kernel_rfl, rfl⟩ ⟨by kernel_rfl, .inr rfl⟩ (by kernel_rfl) (by kernel_rfl) (by simp) (by simp only [List.length_map, List.length_append, List.length_take, List.length_drop, List.length_replicate, List.length_set, List.length_cons, List.length_nil]; omega) (by simp only [List.length_map, List.length_append, List.length_take, List.length_drop, List.length_replicate, List.length_set, List.length_cons, List.length_nil]; omega) ?_
            refine At.a 3 ?_
            refine At.done rfl ⟨by kernel_rfl, ?_⟩
            refine AW.ret ?_
            refine ⟨_, Sub.refl _ _, ?_⟩
            refine KF.conv (fun w => .tup [.agg [.int .i64 w.id, .int .i64 w.of_, .int .i64 w.role, .int .i64 w.commit, .int .i64 w.hard.term, .int .i64 w.hard.vote, .ref 0, .ref 1, .ref 2, .ref 3], .ref 4, .ref 5]) (fun w => [.arr 88 6 (w.hard.log.map encEnt), .arr 3 1 (w.yes.map encI), .arr 3 1 (w.next.map encI), .arr 3 1 (w.match_.map encI), .arr 93 10 ((askRecs r m).map encRec), .arr 76 17 ((askOuts r m).map encOut)]) (show (r) = (askR r m) from by grind [askR, askRecs, askOuts, ask1, ask0, askYes, folT, same, voteRec, zEnt, zCmd, termAt_end]) ?_
            refine KF.conv (fun w => .tup [.agg [.int .i64 r.id, .int .i64 r.of_, .int .i64 r.role, .int .i64 r.commit, .int .i64 r.hard.term, .int .i64 r.hard.vote, .ref 0, .ref 1, .ref 2, .ref 3], .ref 4, .ref 5]) (fun w => [.arr 88 6 (r.hard.log.map encEnt), .arr 3 1 (r.yes.map encI), .arr 3 1 (r.next.map encI), .arr 3 1 (r.match_.map encI), .arr 93 10 (w.map encRec), .arr 76 17 ((askOuts r m).map encOut)]) (show ([(⟨1, r.hard.term, r.hard.vote, 0, ⟨0, ⟨0, 0, 0, 0, (⟨#[]⟩ : ByteArray)⟩⟩⟩ : Rec)]) = (askRecs r m) from by grind [askR, askRecs, askOuts, ask1, ask0, askYes, folT, same, voteRec, zEnt, zCmd, termAt_end]) ?_
            refine KF.conv (fun w => .tup [.agg [.int .i64 r.id, .int .i64 r.of_, .int .i64 r.role, .int .i64 r.commit, .int .i64 r.hard.term, .int .i64 r.hard.vote, .ref 0, .ref 1, .ref 2, .ref 3], .ref 4, .ref 5]) (fun w => [.arr 88 6 (r.hard.log.map encEnt), .arr 3 1 (r.yes.map encI), .arr 3 1 (r.next.map encI), .arr 3 1 (r.match_.map encI), .arr 93 10 (([(⟨1, r.hard.term, r.hard.vote, 0, ⟨0, ⟨0, 0, 0, 0, (⟨#[]⟩ : ByteArray)⟩⟩⟩ : Rec)]).map encRec), .arr 76 17 (w.map encOut)]) (show ([(⟨m.from_, ⟨2, r.id, r.hard.term, 0, 0, 0, yesB r.hard.term r.hard.vote r.hard.log m, 0, 0, (⟨#[]⟩ : ByteArray), ⟨0, 0, 0, 0, (⟨#[]⟩ : ByteArray)⟩, []⟩⟩ : Out)]) = (askOuts r m) from by grind [askR, askRecs, askOuts, ask1, ask0, askYes, folT, same, voteRec, zEnt, zCmd, termAt_end]) ?_
            exact KF.m [(1300, 0), (1301, 1), (1302, 2), (1303, 3), (207, 4), (222, 5)] [.agg [.int .i64 r.id, .int .i64 r.of_, .int .i64 r.role, .int .i64 r.commit, .int .i64 r.hard.term, .int .i64 r.hard.vote, .ref 1300, .ref 1301, .ref 1302, .ref 1303], .ref 207, .ref 222]
          · skip
            refine AW.skip ?_
            refine AW.seq ?_
            refine AW.regionD Try_mix (At.start ?_)
            refine At.a 13 ?_
            refine At.litK (t := 29) (d := 121) (e := 76) (es := 17) (bytes := 168) (n := 1) (parts := #[(0, .tmp 120)]) (88, 6) 221 [] [.int .i64 m.from_, .int .i64 2, .int .i64 r.id, .int .i64 r.hard.term, .int .i64 0, .int .i64 0, .int .i64 0, .bool (yesB r.hard.term r.hard.vote r.hard.log m), .int .i64 0, .int .i64 0, .str (⟨#[]⟩ : ByteArray), .int .i64 0, .int .i64 0, .int .i64 0, .int .i64 0, .str (⟨#[]⟩ : ByteArray), .nil] [.int .i64 m.from_, .int .i64 2, .int .i64 r.id, .int .i64 r.hard.term, .int .i64 0, .int .i64 0, .int .i64 0, .bool (yesB r.hard.term r.hard.vote r.hard.log m), .int .i64 0, .int .i64 0, .str (⟨#[]⟩ : ByteArray), .int .i64 0, .int .i64 0, .int .i64 0, .int .i64 0, .str (⟨#[]⟩ : ByteArray), .own 88 6 []] [.int .i64 0, .int .i64 0, .int .i64 0, .int .i64 0, .int .i64 0, .int .i64 0, .int .i64 0, .bool false, .int .i64 0, .int .i64 0, .str (⟨#[]⟩ : ByteArray), .int .i64 0, .int .i64 0, .int .i64 0, .int .i64 0, .str (⟨#[]⟩ : ByteArray), .nil] [.agg [.int .i64 m.from_, .int .i64 2, .int .i64 r.id, .int .i64 r.hard.term, .int .i64 0, .int .i64 0, .int .i64 0, .bool (yesB r.hard.term r.hard.vote r.hard.log m), .int .i64 0, .int .i64 0, .str (⟨#[]⟩ : ByteArray), .int .i64 0, .int .i64 0, .int .i64 0, .int .i64 0, .str (⟨#[]⟩ : ByteArray), .own 88 6 []]] [] (by kernel_rfl) (by kernel_rfl) (by kernel_rfl) (by kernel_rfl) rfl (fun p hp => by cases hp) (by kernel_rfl) ?_
            refine At.append (t := 29) (d := 122) (e := 76) (es := 17) (bytes := 168) (s := .tmp 110) (x := .tmp 121) (S := .ref 117) (T := .ref 221) (xs := []) (ys := (([(⟨m.from_, ⟨2, r.id, r.hard.term, 0, 0, 0, yesB r.hard.term r.hard.vote r.hard.log m, 0, 0, (⟨#[]⟩ : ByteArray), ⟨0, 0, 0, 0, (⟨#[]⟩ : ByteArray)⟩, []⟩⟩ : Out)]).map encOut)) 222 [117] [221] (([(⟨m.from_, ⟨2, r.id, r.hard.term, 0, 0, 0, yesB r.hard.term r.hard.vote r.hard.log m, 0, 0, (⟨#[]⟩ : ByteArray), ⟨0, 0, 0, 0, (⟨#[]⟩ : ByteArray)⟩, []⟩⟩ : Out)]).map encOut) (by kernel_rfl) (by kernel_rfl) (by kernel_rfl) (by kernel_rfl) ⟨by kernel_rfl, rfl⟩ ⟨by kernel_rfl, .inr rfl⟩ (by kernel_rfl) (by kernel_rfl) (by simp) (by simp only [List.length_map, List.length_append, List.length_take, List.length_drop, List.length_replicate, List.length_set, List.length_cons, List.length_nil]; omega) (by simp only [List.length_map, List.length_append, List.length_take, List.length_drop, List.length_replicate, List.length_set, List.length_cons, List.length_nil]; omega) ?_
            refine At.a 3 ?_
            refine At.done rfl ⟨by kernel_rfl, ?_⟩
            refine AW.ret ?_
            refine ⟨_, Sub.refl _ _, ?_⟩
            refine KF.conv (fun w => .tup [.agg [.int .i64 w.id, .int .i64 w.of_, .int .i64 w.role, .int .i64 w.commit, .int .i64 w.hard.term, .int .i64 w.hard.vote, .ref 0, .ref 1, .ref 2, .ref 3], .ref 4, .ref 5]) (fun w => [.arr 88 6 (w.hard.log.map encEnt), .arr 3 1 (w.yes.map encI), .arr 3 1 (w.next.map encI), .arr 3 1 (w.match_.map encI), .arr 93 10 ((askRecs r m).map encRec), .arr 76 17 ((askOuts r m).map encOut)]) (show (r) = (askR r m) from by grind [askR, askRecs, askOuts, ask1, ask0, askYes, folT, same, voteRec, zEnt, zCmd, termAt_end]) ?_
            refine KF.conv (fun w => .tup [.agg [.int .i64 r.id, .int .i64 r.of_, .int .i64 r.role, .int .i64 r.commit, .int .i64 r.hard.term, .int .i64 r.hard.vote, .ref 0, .ref 1, .ref 2, .ref 3], .ref 4, .ref 5]) (fun w => [.arr 88 6 (r.hard.log.map encEnt), .arr 3 1 (r.yes.map encI), .arr 3 1 (r.next.map encI), .arr 3 1 (r.match_.map encI), .arr 93 10 (w.map encRec), .arr 76 17 ((askOuts r m).map encOut)]) (show ([]) = (askRecs r m) from by grind [askR, askRecs, askOuts, ask1, ask0, askYes, folT, same, voteRec, zEnt, zCmd, termAt_end]) ?_
            refine KF.conv (fun w => .tup [.agg [.int .i64 r.id, .int .i64 r.of_, .int .i64 r.role, .int .i64 r.commit, .int .i64 r.hard.term, .int .i64 r.hard.vote, .ref 0, .ref 1, .ref 2, .ref 3], .ref 4, .ref 5]) (fun w => [.arr 88 6 (r.hard.log.map encEnt), .arr 3 1 (r.yes.map encI), .arr 3 1 (r.next.map encI), .arr 3 1 (r.match_.map encI), .arr 93 10 [], .arr 76 17 (w.map encOut)]) (show ([(⟨m.from_, ⟨2, r.id, r.hard.term, 0, 0, 0, yesB r.hard.term r.hard.vote r.hard.log m, 0, 0, (⟨#[]⟩ : ByteArray), ⟨0, 0, 0, 0, (⟨#[]⟩ : ByteArray)⟩, []⟩⟩ : Out)]) = (askOuts r m) from by grind [askR, askRecs, askOuts, ask1, ask0, askYes, folT, same, voteRec, zEnt, zCmd, termAt_end]) ?_
            exact KF.m [(1300, 0), (1301, 1), (1302, 2), (1303, 3), (116, 4), (222, 5)] [.agg [.int .i64 r.id, .int .i64 r.of_, .int .i64 r.role, .int .i64 r.commit, .int .i64 r.hard.term, .int .i64 r.hard.vote, .ref 1300, .ref 1301, .ref 1302, .ref 1303], .ref 116, .ref 222]
  · skip
    refine AW.r ?_
    refine At.a 5 ?_
    refine At.done rfl ?_
    refine AW.seq ?_
    refine AW.weak (Sub.nils [⟨true, 104, some 6, 5001, 88, 6⟩, ⟨true, 104, some 7, 5002, 3, 1⟩, ⟨true, 104, some 8, 5003, 3, 1⟩, ⟨true, 104, some 9, 5004, 3, 1⟩] (by kernel_rfl)) ?_
    refine AW.region (At.start ?_)
    refine At.a 1 ?_
    refine At.c (spec_l10Same_F_spec  r hz hok) Try.call51 true [] [(1300, 0), (1301, 1), (1302, 2), (1303, 3)] [] trivial ?_
    refine At.lit0 (t := 45) (d := 16) (e := 93) (es := 10) (bytes := 88) 116 (by kernel_rfl) (by kernel_rfl) (by kernel_rfl) (by kernel_rfl) ?_
    refine At.lit0 (t := 29) (d := 17) (e := 76) (es := 17) (bytes := 168) 117 (by kernel_rfl) (by kernel_rfl) (by kernel_rfl) (by kernel_rfl) ?_
    refine At.a 4 ?_
    refine At.done rfl ?_
    refine AW.seq ?_
    refine AW.r ?_
    refine At.a 2 ?_
    refine At.c (spec_l10Hears_spec  r m 1 hz hm) Try.call67 true [] [] [] trivial ?_
    refine At.a 1 ?_
    refine At.done rfl ?_
    refine AW.condT (!(hears r m 1)) (by kernel_rfl) (by rw [show (hears r m 1) = false from (hears_no hok)]; rfl) ?_
    refine AW.r ?_
    refine At.a 6 ?_
    refine At.done rfl ?_
    refine AW.ret ?_
    refine ⟨_, Sub.refl _ _, ?_⟩
    refine KF.conv (fun w => .tup [.agg [.int .i64 w.id, .int .i64 w.of_, .int .i64 w.role, .int .i64 w.commit, .int .i64 w.hard.term, .int .i64 w.hard.vote, .ref 0, .ref 1, .ref 2, .ref 3], .ref 4, .ref 5]) (fun w => [.arr 88 6 (w.hard.log.map encEnt), .arr 3 1 (w.yes.map encI), .arr 3 1 (w.next.map encI), .arr 3 1 (w.match_.map encI), .arr 93 10 ((askRecs r m).map encRec), .arr 76 17 ((askOuts r m).map encOut)]) (show ((⟨0, 0, 0, 0, ⟨0, 0, []⟩, [], [], []⟩ : Raft)) = (askR r m) from by simp [askR, askRecs, askOuts, same, hok, hears_no hok]; try rfl) ?_
    refine KF.conv (fun w => .tup [.agg [.int .i64 0, .int .i64 0, .int .i64 0, .int .i64 0, .int .i64 0, .int .i64 0, .ref 0, .ref 1, .ref 2, .ref 3], .ref 4, .ref 5]) (fun w => [.arr 88 6 [], .arr 3 1 [], .arr 3 1 [], .arr 3 1 [], .arr 93 10 (w.map encRec), .arr 76 17 ((askOuts r m).map encOut)]) (show ([]) = (askRecs r m) from by simp [askR, askRecs, askOuts, same, hok, hears_no hok]; try rfl) ?_
    refine KF.conv (fun w => .tup [.agg [.int .i64 0, .int .i64 0, .int .i64 0, .int .i64 0, .int .i64 0, .int .i64 0, .ref 0, .ref 1, .ref 2, .ref 3], .ref 4, .ref 5]) (fun w => [.arr 88 6 [], .arr 3 1 [], .arr 3 1 [], .arr 3 1 [], .arr 93 10 [], .arr 76 17 (w.map encOut)]) (show ([]) = (askOuts r m) from by simp [askR, askRecs, askOuts, same, hok, hears_no hok]; try rfl) ?_
    exact KF.m [(1300, 0), (1301, 1), (1302, 2), (1303, 3), (116, 4), (117, 5)] [.agg [.int .i64 0, .int .i64 0, .int .i64 0, .int .i64 0, .int .i64 0, .int .i64 0, .ref 1300, .ref 1301, .ref 1302, .ref 1303], .ref 116, .ref 117]
set_option maxRecDepth 100000 in
set_option maxHeartbeats 4000000 in
theorem impl_copyLog_spec  (l : List Ent) (hl : l.length ≤ 1048576) : FnSpec Try.prog 111 [.sl false 6 (l.map encEnt)] [] (.ref 0) [.arr 88 6 (l.map encEnt)] := by
  refine FnSpec.of 6 Try.func111 rfl Try.ntmps111 (by simp) (AW.weakK ?_)
  refine AW.r ?_
  refine At.a 1 ?_
  refine At.done rfl ?_
  refine AW.r ?_
  refine At.lit0 (t := 31) (d := 3) (e := 88) (es := 6) (bytes := 56) 103 (by kernel_rfl) (by kernel_rfl) (by kernel_rfl) (by kernel_rfl) ?_
  refine At.a 1 ?_
  refine At.append (t := 31) (d := 5) (e := 88) (es := 6) (bytes := 56) (s := .tmp 3) (x := .tmp 4) (S := .ref 103) (T := .sl false 6 (l.map encEnt)) (xs := []) (ys := (l.map encEnt)) 105 [103] [] (l.map encEnt) (by kernel_rfl) (by kernel_rfl) (by kernel_rfl) (by kernel_rfl) ⟨by kernel_rfl, rfl⟩ ⟨rfl, rfl, (allP_encEnt _), rfl⟩ (by kernel_rfl) (by kernel_rfl) (by simp) (by simp only [List.length_map, List.length_append, List.length_take, List.length_drop, List.length_replicate, List.length_set, List.length_cons, List.length_nil]; omega) (by simp only [List.length_map, List.length_append, List.length_take, List.length_drop, List.length_replicate, List.length_set, List.length_cons, List.length_nil]; omega) ?_
  refine At.a 1 ?_
  refine At.done rfl ?_
  refine AW.ret ?_
  refine ⟨_, Sub.refl _ _, ?_⟩
  exact KF.m [(105, 0)] [.ref 105]
set_option maxRecDepth 100000 in
set_option maxHeartbeats 4000000 in
theorem impl_copyHard_spec  (h : Hard) (hl : h.log.length ≤ 1048576) : FnSpec Try.prog 106 [.agg [.int .i64 h.term, .int .i64 h.vote, .sl false 6 (h.log.map encEnt)]] [] (.agg [.int .i64 h.term, .int .i64 h.vote, .ref 0]) [.arr 88 6 (h.log.map encEnt)] := by
  refine FnSpec.of 8 Try.func106 rfl Try.ntmps106 (by simp) (AW.weakK ?_)
  refine AW.r ?_
  refine At.a 2 ?_
  refine At.done rfl ?_
  refine AW.seq ?_
  refine AW.weak (Sub.nils [⟨true, 102, some 2, 5001, 88, 6⟩] (by kernel_rfl)) ?_
  refine AW.region (At.start ?_)
  refine At.a 2 ?_
  refine At.c (impl_copyLog_spec  h.log (by omega)) Try.call111 true [] [(1100, 0)] [] trivial ?_
  refine At.a 2 ?_
  refine At.done rfl ?_
  refine AW.r ?_
  refine At.a 2 ?_
  refine At.done rfl ?_
  refine AW.ret ?_
  refine ⟨_, Sub.refl _ _, ?_⟩
  exact KF.m [(1100, 0)] [.agg [.int .i64 h.term, .int .i64 h.vote, .ref 1100]]
set_option maxRecDepth 100000 in
set_option maxHeartbeats 4000000 in
theorem impl_copyInts_spec  (l : List Int) (hl : l.length ≤ 1048576) : FnSpec Try.prog 107 [.sl false 1 (l.map encI)] [] (.ref 0) [.arr 3 1 (l.map encI)] := by
  refine FnSpec.of 6 Try.func107 rfl Try.ntmps107 (by simp) (AW.weakK ?_)
  refine AW.r ?_
  refine At.a 1 ?_
  refine At.done rfl ?_
  refine AW.r ?_
  refine At.lit0 (t := 25) (d := 3) (e := 3) (es := 1) (bytes := 8) 103 (by kernel_rfl) (by kernel_rfl) (by kernel_rfl) (by kernel_rfl) ?_
  refine At.a 1 ?_
  refine At.append (t := 25) (d := 5) (e := 3) (es := 1) (bytes := 8) (s := .tmp 3) (x := .tmp 4) (S := .ref 103) (T := .sl false 1 (l.map encI)) (xs := []) (ys := (l.map encI)) 105 [103] [] (l.map encI) (by kernel_rfl) (by kernel_rfl) (by kernel_rfl) (by kernel_rfl) ⟨by kernel_rfl, rfl⟩ ⟨rfl, rfl, (allP_encI _), rfl⟩ (by kernel_rfl) (by kernel_rfl) (by simp) (by simp only [List.length_map, List.length_append, List.length_take, List.length_drop, List.length_replicate, List.length_set, List.length_cons, List.length_nil]; omega) (by simp only [List.length_map, List.length_append, List.length_take, List.length_drop, List.length_replicate, List.length_set, List.length_cons, List.length_nil]; omega) ?_
  refine At.a 1 ?_
  refine At.done rfl ?_
  refine AW.ret ?_
  refine ⟨_, Sub.refl _ _, ?_⟩
  exact KF.m [(105, 0)] [.ref 105]
set_option maxRecDepth 100000 in
set_option maxHeartbeats 4000000 in
theorem impl_copyRaft_spec  (r : Raft) (hz : SmallR r) : FnSpec Try.prog 83 [.agg [.int .i64 r.id, .int .i64 r.of_, .int .i64 r.role, .int .i64 r.commit, .int .i64 r.hard.term, .int .i64 r.hard.vote, .sl false 6 (r.hard.log.map encEnt), .sl false 1 (r.yes.map encI), .sl false 1 (r.next.map encI), .sl false 1 (r.match_.map encI)]] [] (.agg [.int .i64 r.id, .int .i64 r.of_, .int .i64 r.role, .int .i64 r.commit, .int .i64 r.hard.term, .int .i64 r.hard.vote, .ref 0, .ref 1, .ref 2, .ref 3]) [.arr 88 6 (r.hard.log.map encEnt), .arr 3 1 (r.yes.map encI), .arr 3 1 (r.next.map encI), .arr 3 1 (r.match_.map encI)] := by
  obtain ⟨z1, z2, z3, z4⟩ := id hz
  refine FnSpec.of 20 Try.func83 rfl Try.ntmps83 (by simp) (AW.weakK ?_)
  refine AW.r ?_
  refine At.a 2 ?_
  refine At.done rfl ?_
  refine AW.seq ?_
  refine AW.weak (Sub.nils [⟨true, 102, some 6, 5001, 88, 6⟩, ⟨true, 102, some 7, 5002, 3, 1⟩, ⟨true, 102, some 8, 5003, 3, 1⟩, ⟨true, 102, some 9, 5004, 3, 1⟩] (by kernel_rfl)) ?_
  refine AW.region (At.start ?_)
  refine At.a 2 ?_
  refine At.c (impl_copyHard_spec  r.hard (by omega)) Try.call106 true [] [(1100, 0)] [] trivial ?_
  refine At.a 2 ?_
  refine At.done rfl ?_
  refine AW.seq ?_
  refine AW.regionD Try_mix (At.start ?_)
  refine At.a 2 ?_
  refine At.c (impl_copyInts_spec  r.yes (by omega)) Try.call107 true [] [(1180, 0)] [] trivial ?_
  refine At.a 2 ?_
  refine At.c (impl_copyInts_spec  r.next (by omega)) Try.call107 true [] [(1240, 0)] [] trivial ?_
  refine At.a 2 ?_
  refine At.c (impl_copyInts_spec  r.match_ (by omega)) Try.call107 true [] [(1300, 0)] [] trivial ?_
  refine At.a 6 ?_
  refine At.done rfl ⟨by kernel_rfl, ?_⟩
  refine AW.r ?_
  refine At.a 2 ?_
  refine At.done rfl ?_
  refine AW.ret ?_
  refine ⟨_, Sub.refl _ _, ?_⟩
  exact KF.m [(1100, 0), (1180, 1), (1240, 2), (1300, 3)] [.agg [.int .i64 r.id, .int .i64 r.of_, .int .i64 r.role, .int .i64 r.commit, .int .i64 r.hard.term, .int .i64 r.hard.vote, .ref 1100, .ref 1180, .ref 1240, .ref 1300]]
set_option maxRecDepth 100000 in
set_option maxHeartbeats 4000000 in
theorem impl_stepOf_spec  (r : Raft) (hz : SmallR r) : FnSpec Try.prog 39 [.agg [.int .i64 r.id, .int .i64 r.of_, .int .i64 r.role, .int .i64 r.commit, .int .i64 r.hard.term, .int .i64 r.hard.vote, .sl false 6 (r.hard.log.map encEnt), .sl false 1 (r.yes.map encI), .sl false 1 (r.next.map encI), .sl false 1 (r.match_.map encI)]] [] (.ptr 0 0 0) [.box 73 [.int .i64 r.id, .int .i64 r.of_, .int .i64 r.role, .int .i64 r.commit, .int .i64 r.hard.term, .int .i64 r.hard.vote, .ref 1, .ref 2, .ref 3, .ref 4, .int .i64 r.id, .int .i64 r.of_, .int .i64 r.role, .int .i64 r.commit, .int .i64 r.hard.term, .int .i64 r.hard.vote, .sl false 6 (r.hard.log.map encEnt), .sl false 1 (r.yes.map encI), .sl false 1 (r.next.map encI), .sl false 1 (r.match_.map encI), .ref 5, .ref 6], .arr 88 6 (r.hard.log.map encEnt), .arr 3 1 (r.yes.map encI), .arr 3 1 (r.next.map encI), .arr 3 1 (r.match_.map encI), .arr 93 10 [], .arr 76 17 []] := by
  obtain ⟨z1, z2, z3, z4⟩ := id hz
  refine FnSpec.of 8 Try.func39 rfl Try.ntmps39 (by simp) (AW.weakK ?_)
  refine AW.r ?_
  refine At.a 2 ?_
  refine At.done rfl ?_
  refine AW.seq ?_
  refine AW.regionD Try_mix (At.start ?_)
  refine At.a 1 ?_
  refine At.c (impl_copyRaft_spec  r (by omega)) Try.call83 true [] [(1080, 0), (1081, 1), (1082, 2), (1083, 3)] [] trivial ?_
  refine At.a 4 ?_
  refine At.done rfl ⟨by kernel_rfl, ?_⟩
  refine AW.ret ?_
  refine ⟨_, Sub.nils [⟨true, 107, some 20, 5001, 93, 10⟩, ⟨true, 107, some 21, 5002, 76, 17⟩] (by kernel_rfl), ?_⟩
  exact KF.m [(107, 0), (1080, 1), (1081, 2), (1082, 3), (1083, 4), (5001, 5), (5002, 6)] [.ptr 107 0 0]
set_option maxRecDepth 100000 in
set_option maxHeartbeats 4000000 in
theorem impl_isOf_spec  (of : Int) : FnSpec Try.prog 84 [.int .i64 of] [] (.bool (ofOk of)) [] := by
  refine FnSpec.of 13 Try.func84 rfl Try.ntmps84 (by simp) (AW.weakK ?_)
  refine AW.r ?_
  refine At.a 1 ?_
  refine At.done rfl ?_
  refine AW.r ?_
  refine At.a 3 ?_
  by_cases h1 : of = 1
  · refine At.sB 5 (of == 1) true (sayET h1) ?_
    refine At.a 8 ?_
    refine At.done rfl ?_
    refine AW.ret ?_
    refine ⟨_, Sub.refl _ _, ?_⟩
    refine KF.conv (fun w => .bool w) (fun w => []) (show (true) = (ofOk of) from by simp_all [ofOk]) ?_
    exact KF.m [] [.bool true]
  · refine At.sB 5 (of == 1) false (sayEF h1) ?_
    refine At.a 4 ?_
    by_cases h2 : of = 3
    · refine At.sB 9 (of == 3) true (sayET h2) ?_
      refine At.a 4 ?_
      refine At.done rfl ?_
      refine AW.ret ?_
      refine ⟨_, Sub.refl _ _, ?_⟩
      refine KF.conv (fun w => .bool w) (fun w => []) (show (true) = (ofOk of) from by simp_all [ofOk]) ?_
      exact KF.m [] [.bool true]
    · refine At.sB 9 (of == 3) false (sayEF h2) ?_
      refine At.a 4 ?_
      refine At.done rfl ?_
      refine AW.ret ?_
      refine ⟨_, Sub.refl _ _, ?_⟩
      refine KF.conv (fun w => .bool w) (fun w => []) (show (of == 5) = (ofOk of) from by simp_all [ofOk]) ?_
      exact KF.m [] [.bool (of == 5)]
set_option maxRecDepth 100000 in
set_option maxHeartbeats 4000000 in
theorem impl_within_spec  (n : Int) (low : Int) (high : Int) : FnSpec Try.prog 85 [.int .i64 n, .int .i64 low, .int .i64 high] [] (.bool (inR n low high)) [] := by
  refine FnSpec.of 15 Try.func85 rfl Try.ntmps85 (by simp) (AW.weakK ?_)
  refine AW.r ?_
  refine At.a 1 ?_
  refine At.done rfl ?_
  refine AW.r ?_
  refine At.a 4 ?_
  by_cases h1 : n ≥ low
  · refine At.sB 10 (decide (n ≥ low)) true (sayT h1) ?_
    refine At.a 5 ?_
    refine At.done rfl ?_
    refine AW.ret ?_
    refine ⟨_, Sub.refl _ _, ?_⟩
    refine KF.conv (fun w => .bool w) (fun w => []) (show (decide (n ≤ high)) = (inR n low high) from by simp [inR, *]) ?_
    exact KF.m [] [.bool (decide (n ≤ high))]
  · refine At.sB 10 (decide (n ≥ low)) false (sayF h1) ?_
    refine At.a 5 ?_
    refine At.done rfl ?_
    refine AW.ret ?_
    refine ⟨_, Sub.refl _ _, ?_⟩
    refine KF.conv (fun w => .bool w) (fun w => []) (show (false) = (inR n low high) from by simp [inR, *]) ?_
    exact KF.m [] [.bool false]
set_option maxRecDepth 100000 in
set_option maxHeartbeats 4000000 in
theorem impl_isRelease_spec  (n : Int) : FnSpec Try.prog 92 [.int .i64 n] [] (.bool (inR n 1 1000)) [] := by
  refine FnSpec.of 5 Try.func92 rfl Try.ntmps92 (by simp) (AW.weakK ?_)
  refine AW.r ?_
  refine At.a 1 ?_
  refine At.done rfl ?_
  refine AW.r ?_
  refine At.a 1 ?_
  refine At.c (impl_within_spec  n 1 1000 ) Try.call85 true [] [] [] trivial ?_
  refine At.a 1 ?_
  refine At.done rfl ?_
  refine AW.ret ?_
  refine ⟨_, Sub.refl _ _, ?_⟩
  exact KF.m [] [.bool (inR n 1 1000)]
set_option maxRecDepth 100000 in
set_option maxHeartbeats 4000000 in
theorem impl_isSize_spec  (n : Int) : FnSpec Try.prog 93 [.int .i64 n] [] (.bool (inR n 0 1000)) [] := by
  refine FnSpec.of 5 Try.func93 rfl Try.ntmps93 (by simp) (AW.weakK ?_)
  refine AW.r ?_
  refine At.a 1 ?_
  refine At.done rfl ?_
  refine AW.r ?_
  refine At.a 1 ?_
  refine At.c (impl_within_spec  n 0 1000 ) Try.call85 true [] [] [] trivial ?_
  refine At.a 1 ?_
  refine At.done rfl ?_
  refine AW.ret ?_
  refine ⟨_, Sub.refl _ _, ?_⟩
  exact KF.m [] [.bool (inR n 0 1000)]
set_option maxRecDepth 100000 in
set_option maxHeartbeats 4000000 in
theorem impl_isNode_spec  (n : Int) : FnSpec Try.prog 94 [.int .i64 n] [] (.bool (inR n 0 4)) [] := by
  refine FnSpec.of 5 Try.func94 rfl Try.ntmps94 (by simp) (AW.weakK ?_)
  refine AW.r ?_
  refine At.a 1 ?_
  refine At.done rfl ?_
  refine AW.r ?_
  refine At.a 1 ?_
  refine At.c (impl_within_spec  n 0 4 ) Try.call85 true [] [] [] trivial ?_
  refine At.a 1 ?_
  refine At.done rfl ?_
  refine AW.ret ?_
  refine ⟨_, Sub.refl _ _, ?_⟩
  exact KF.m [] [.bool (inR n 0 4)]
set_option maxRecDepth 100000 in
set_option maxHeartbeats 4000000 in
theorem impl_CmdOk_spec  (c : Cmd) : FnSpec Try.prog 55 [.agg [.int .i64 c.kind, .int .i64 c.release, .int .i64 c.node, .int .i64 c.size, .str c.digest]] [] (.bool (cmdOk c)) [] := by
  refine FnSpec.of 52 Try.func55 rfl Try.ntmps55 (by simp) (AW.weakK ?_)
  refine AW.r ?_
  refine At.a 2 ?_
  refine At.done rfl ?_
  refine AW.r ?_
  refine At.a 3 ?_
  refine At.done rfl ?_
  refine AW.r ?_
  refine At.a 4 ?_
  refine At.done rfl ?_
  refine AW.r ?_
  refine At.a 2 ?_
  refine At.c (impl_isRelease_spec  c.release ) Try.call92 true [] [] [] trivial ?_
  refine At.a 1 ?_
  refine At.done rfl ?_
  refine AW.seq ?_
  refine AW.r ?_
  refine At.a 2 ?_
  refine At.done rfl ?_
  refine AW.block ?_
  refine AW.r ?_
  refine At.a 2 ?_
  refine At.done rfl ?_
  refine AW.cE c.kind (1 : Int) (fun h1 => ?_) (fun h1 => ?_)
  · skip
    refine AW.region (At.start ?_)
    refine At.a 4 ?_
    refine At.done rfl ?_
    refine AW.r ?_
    refine At.a 2 ?_
    by_cases h2 : c.release = 0
    · refine At.sB 47 (c.release == 0) true (sayET h2) ?_
      refine At.a 2 ?_
      refine At.eqA (t := 48) (u := 48) (d := 50) (op := .eql) (x := .tmp 48) (y := .tmp 49) (X := [.int .i64 0, .int .i64 0, .int .i64 c.node, .int .i64 c.size, .str c.digest]) (Y := [.int .i64 0, .int .i64 0, .int .i64 0, .int .i64 0, .str (⟨#[]⟩ : ByteArray)]) (cmdEq (⟨0, 0, c.node, c.size, c.digest⟩ : Cmd) (⟨0, 0, 0, 0, (⟨#[]⟩ : ByteArray)⟩ : Cmd)) (by kernel_rfl) (by kernel_rfl) (by kernel_rfl) (by kernel_rfl) (by kernel_rfl) (.bool (cmdEq (⟨0, 0, c.node, c.size, c.digest⟩ : Cmd) (⟨0, 0, 0, 0, (⟨#[]⟩ : ByteArray)⟩ : Cmd))) (.inl ⟨rfl, rfl⟩) ?_
      refine At.a 2 ?_
      refine At.done rfl ?_
      refine AW.ret ?_
      refine ⟨_, Sub.refl _ _, ?_⟩
      refine KF.conv (fun w => .bool w) (fun w => []) (show (cmdEq (⟨0, 0, c.node, c.size, c.digest⟩ : Cmd) (⟨0, 0, 0, 0, (⟨#[]⟩ : ByteArray)⟩ : Cmd)) = (cmdOk c) from by (try simp only [inR_iff, inR_not] at *); rw [Bool.eq_iff_iff]; simp only [cmdOk, cmdEq, noBytes]; (repeat' split) <;> (try simp [inR_iff]) <;> grind) ?_
      exact KF.m [] [.bool (cmdEq (⟨0, 0, c.node, c.size, c.digest⟩ : Cmd) (⟨0, 0, 0, 0, (⟨#[]⟩ : ByteArray)⟩ : Cmd))]
    · refine At.sB 47 (c.release == 0) false (sayEF h2) ?_
      refine At.a 5 ?_
      refine At.done rfl ?_
      refine AW.ret ?_
      refine ⟨_, Sub.refl _ _, ?_⟩
      refine KF.conv (fun w => .bool w) (fun w => []) (show (false) = (cmdOk c) from by (try simp only [inR_iff, inR_not] at *); rw [Bool.eq_iff_iff]; simp only [cmdOk, cmdEq, noBytes]; (repeat' split) <;> (try simp [inR_iff]) <;> grind) ?_
      exact KF.m [] [.bool false]
  · skip
    refine AW.r ?_
    refine At.a 2 ?_
    refine At.done rfl ?_
    refine AW.cE c.kind (2 : Int) (fun h3 => ?_) (fun h3 => ?_)
    · skip
      refine AW.r ?_
      refine At.a 2 ?_
      by_cases h4 : (inR c.release 1 1000) = true
      · refine At.sB 21 (inR c.release 1 1000) true (sayB h4) ?_
        refine At.a 2 ?_
        refine At.c (impl_isSize_spec  c.size ) Try.call93 true [] [] [] trivial ?_
        refine At.a 2 ?_
        by_cases h5 : (inR c.size 0 1000) = true
        · refine At.sB 26 (inR c.size 0 1000) true (sayB h5) ?_
          refine At.a 6 ?_
          refine At.done rfl ?_
          refine AW.region (At.start ?_)
          refine At.a 4 ?_
          refine At.done rfl ?_
          refine AW.r ?_
          refine At.a 2 ?_
          by_cases h6 : (c.digest.size : Int) = 32
          · refine At.sB 47 ((c.digest.size : Int) == 32) true (sayET h6) ?_
            refine At.a 2 ?_
            refine At.eqA (t := 48) (u := 48) (d := 50) (op := .eql) (x := .tmp 48) (y := .tmp 49) (X := [.int .i64 0, .int .i64 0, .int .i64 c.node, .int .i64 0, .str (⟨#[]⟩ : ByteArray)]) (Y := [.int .i64 0, .int .i64 0, .int .i64 0, .int .i64 0, .str (⟨#[]⟩ : ByteArray)]) (cmdEq (⟨0, 0, c.node, 0, (⟨#[]⟩ : ByteArray)⟩ : Cmd) (⟨0, 0, 0, 0, (⟨#[]⟩ : ByteArray)⟩ : Cmd)) (by kernel_rfl) (by kernel_rfl) (by kernel_rfl) (by kernel_rfl) (by kernel_rfl) (.bool (cmdEq (⟨0, 0, c.node, 0, (⟨#[]⟩ : ByteArray)⟩ : Cmd) (⟨0, 0, 0, 0, (⟨#[]⟩ : ByteArray)⟩ : Cmd))) (.inl ⟨rfl, rfl⟩) ?_
            refine At.a 2 ?_
            refine At.done rfl ?_
            refine AW.ret ?_
            refine ⟨_, Sub.refl _ _, ?_⟩
            refine KF.conv (fun w => .bool w) (fun w => []) (show (cmdEq (⟨0, 0, c.node, 0, (⟨#[]⟩ : ByteArray)⟩ : Cmd) (⟨0, 0, 0, 0, (⟨#[]⟩ : ByteArray)⟩ : Cmd)) = (cmdOk c) from by (try simp only [inR_iff, inR_not] at *); rw [Bool.eq_iff_iff]; simp only [cmdOk, cmdEq, noBytes]; (repeat' split) <;> (try simp [inR_iff]) <;> grind) ?_
            exact KF.m [] [.bool (cmdEq (⟨0, 0, c.node, 0, (⟨#[]⟩ : ByteArray)⟩ : Cmd) (⟨0, 0, 0, 0, (⟨#[]⟩ : ByteArray)⟩ : Cmd))]
          · refine At.sB 47 ((c.digest.size : Int) == 32) false (sayEF h6) ?_
            refine At.a 5 ?_
            refine At.done rfl ?_
            refine AW.ret ?_
            refine ⟨_, Sub.refl _ _, ?_⟩
            refine KF.conv (fun w => .bool w) (fun w => []) (show (false) = (cmdOk c) from by (try simp only [inR_iff, inR_not] at *); rw [Bool.eq_iff_iff]; simp only [cmdOk, cmdEq, noBytes]; (repeat' split) <;> (try simp [inR_iff]) <;> grind) ?_
            exact KF.m [] [.bool false]
        · refine At.sB 26 (inR c.size 0 1000) false (sayB (Bool.eq_false_iff.2 h5)) ?_
          replace h5 := Bool.eq_false_iff.2 h5
          refine At.a 6 ?_
          refine At.done rfl ?_
          refine AW.region (At.start ?_)
          refine At.a 4 ?_
          refine At.done rfl ?_
          refine AW.r ?_
          refine At.a 7 ?_
          refine At.done rfl ?_
          refine AW.ret ?_
          refine ⟨_, Sub.refl _ _, ?_⟩
          refine KF.conv (fun w => .bool w) (fun w => []) (show (false) = (cmdOk c) from by (try simp only [inR_iff, inR_not] at *); rw [Bool.eq_iff_iff]; simp only [cmdOk, cmdEq, noBytes]; (repeat' split) <;> (try simp [inR_iff]) <;> grind) ?_
          exact KF.m [] [.bool false]
      · refine At.sB 21 (inR c.release 1 1000) false (sayB (Bool.eq_false_iff.2 h4)) ?_
        replace h4 := Bool.eq_false_iff.2 h4
        refine At.a 11 ?_
        refine At.done rfl ?_
        refine AW.region (At.start ?_)
        refine At.a 4 ?_
        refine At.done rfl ?_
        refine AW.r ?_
        refine At.a 7 ?_
        refine At.done rfl ?_
        refine AW.ret ?_
        refine ⟨_, Sub.refl _ _, ?_⟩
        refine KF.conv (fun w => .bool w) (fun w => []) (show (false) = (cmdOk c) from by (try simp only [inR_iff, inR_not] at *); rw [Bool.eq_iff_iff]; simp only [cmdOk, cmdEq, noBytes]; (repeat' split) <;> (try simp [inR_iff]) <;> grind) ?_
        exact KF.m [] [.bool false]
    · skip
      refine AW.r ?_
      refine At.a 2 ?_
      refine At.done rfl ?_
      refine AW.cE c.kind (3 : Int) (fun h7 => ?_) (fun h7 => ?_)
      · skip
        refine AW.r ?_
        refine At.a 2 ?_
        by_cases h8 : (inR c.release 1 1000) = true
        · refine At.sB 37 (inR c.release 1 1000) true (sayB h8) ?_
          refine At.a 2 ?_
          refine At.c (impl_isNode_spec  c.node ) Try.call94 true [] [] [] trivial ?_
          refine At.a 2 ?_
          refine At.done rfl ?_
          refine AW.region (At.start ?_)
          refine At.a 2 ?_
          refine At.done rfl ?_
          refine AW.r ?_
          refine At.a 2 ?_
          by_cases h9 : (inR c.node 0 4) = true
          · refine At.sB 47 (inR c.node 0 4) true (sayB h9) ?_
            refine At.a 2 ?_
            refine At.eqA (t := 48) (u := 48) (d := 50) (op := .eql) (x := .tmp 48) (y := .tmp 49) (X := [.int .i64 0, .int .i64 0, .int .i64 0, .int .i64 c.size, .str c.digest]) (Y := [.int .i64 0, .int .i64 0, .int .i64 0, .int .i64 0, .str (⟨#[]⟩ : ByteArray)]) (cmdEq (⟨0, 0, 0, c.size, c.digest⟩ : Cmd) (⟨0, 0, 0, 0, (⟨#[]⟩ : ByteArray)⟩ : Cmd)) (by kernel_rfl) (by kernel_rfl) (by kernel_rfl) (by kernel_rfl) (by kernel_rfl) (.bool (cmdEq (⟨0, 0, 0, c.size, c.digest⟩ : Cmd) (⟨0, 0, 0, 0, (⟨#[]⟩ : ByteArray)⟩ : Cmd))) (.inl ⟨rfl, rfl⟩) ?_
            refine At.a 2 ?_
            refine At.done rfl ?_
            refine AW.ret ?_
            refine ⟨_, Sub.refl _ _, ?_⟩
            refine KF.conv (fun w => .bool w) (fun w => []) (show (cmdEq (⟨0, 0, 0, c.size, c.digest⟩ : Cmd) (⟨0, 0, 0, 0, (⟨#[]⟩ : ByteArray)⟩ : Cmd)) = (cmdOk c) from by (try simp only [inR_iff, inR_not] at *); rw [Bool.eq_iff_iff]; simp only [cmdOk, cmdEq, noBytes]; (repeat' split) <;> (try simp [inR_iff]) <;> grind) ?_
            exact KF.m [] [.bool (cmdEq (⟨0, 0, 0, c.size, c.digest⟩ : Cmd) (⟨0, 0, 0, 0, (⟨#[]⟩ : ByteArray)⟩ : Cmd))]
          · refine At.sB 47 (inR c.node 0 4) false (sayB (Bool.eq_false_iff.2 h9)) ?_
            replace h9 := Bool.eq_false_iff.2 h9
            refine At.a 5 ?_
            refine At.done rfl ?_
            refine AW.ret ?_
            refine ⟨_, Sub.refl _ _, ?_⟩
            refine KF.conv (fun w => .bool w) (fun w => []) (show (false) = (cmdOk c) from by (try simp only [inR_iff, inR_not] at *); rw [Bool.eq_iff_iff]; simp only [cmdOk, cmdEq, noBytes]; (repeat' split) <;> (try simp [inR_iff]) <;> grind) ?_
            exact KF.m [] [.bool false]
        · refine At.sB 37 (inR c.release 1 1000) false (sayB (Bool.eq_false_iff.2 h8)) ?_
          replace h8 := Bool.eq_false_iff.2 h8
          refine At.a 5 ?_
          refine At.done rfl ?_
          refine AW.region (At.start ?_)
          refine At.a 2 ?_
          refine At.done rfl ?_
          refine AW.r ?_
          refine At.a 7 ?_
          refine At.done rfl ?_
          refine AW.ret ?_
          refine ⟨_, Sub.refl _ _, ?_⟩
          refine KF.conv (fun w => .bool w) (fun w => []) (show (false) = (cmdOk c) from by (try simp only [inR_iff, inR_not] at *); rw [Bool.eq_iff_iff]; simp only [cmdOk, cmdEq, noBytes]; (repeat' split) <;> (try simp [inR_iff]) <;> grind) ?_
          exact KF.m [] [.bool false]
      · skip
        refine AW.seq ?_
        refine AW.r ?_
        refine At.a 2 ?_
        refine At.done rfl ?_
        refine AW.cE c.kind (4 : Int) (fun h10 => ?_) (fun h10 => ?_)
        · skip
          refine AW.skip ?_
          refine AW.cE c.kind (4 : Int) (fun h11 => ?_) (fun h11 => ?_)
          · skip
            refine AW.skip ?_
            refine AW.r ?_
            refine At.a 2 ?_
            by_cases h12 : (inR c.release 1 1000) = true
            · refine At.sB 47 (inR c.release 1 1000) true (sayB h12) ?_
              refine At.a 2 ?_
              refine At.eqA (t := 48) (u := 48) (d := 50) (op := .eql) (x := .tmp 48) (y := .tmp 49) (X := [.int .i64 0, .int .i64 0, .int .i64 c.node, .int .i64 c.size, .str c.digest]) (Y := [.int .i64 0, .int .i64 0, .int .i64 0, .int .i64 0, .str (⟨#[]⟩ : ByteArray)]) (cmdEq (⟨0, 0, c.node, c.size, c.digest⟩ : Cmd) (⟨0, 0, 0, 0, (⟨#[]⟩ : ByteArray)⟩ : Cmd)) (by kernel_rfl) (by kernel_rfl) (by kernel_rfl) (by kernel_rfl) (by kernel_rfl) (.bool (cmdEq (⟨0, 0, c.node, c.size, c.digest⟩ : Cmd) (⟨0, 0, 0, 0, (⟨#[]⟩ : ByteArray)⟩ : Cmd))) (.inl ⟨rfl, rfl⟩) ?_
              refine At.a 2 ?_
              refine At.done rfl ?_
              refine AW.ret ?_
              refine ⟨_, Sub.refl _ _, ?_⟩
              refine KF.conv (fun w => .bool w) (fun w => []) (show (cmdEq (⟨0, 0, c.node, c.size, c.digest⟩ : Cmd) (⟨0, 0, 0, 0, (⟨#[]⟩ : ByteArray)⟩ : Cmd)) = (cmdOk c) from by (try simp only [inR_iff, inR_not] at *); rw [Bool.eq_iff_iff]; simp only [cmdOk, cmdEq, noBytes]; (repeat' split) <;> (try simp [inR_iff]) <;> grind) ?_
              exact KF.m [] [.bool (cmdEq (⟨0, 0, c.node, c.size, c.digest⟩ : Cmd) (⟨0, 0, 0, 0, (⟨#[]⟩ : ByteArray)⟩ : Cmd))]
            · refine At.sB 47 (inR c.release 1 1000) false (sayB (Bool.eq_false_iff.2 h12)) ?_
              replace h12 := Bool.eq_false_iff.2 h12
              refine At.a 5 ?_
              refine At.done rfl ?_
              refine AW.ret ?_
              refine ⟨_, Sub.refl _ _, ?_⟩
              refine KF.conv (fun w => .bool w) (fun w => []) (show (false) = (cmdOk c) from by (try simp only [inR_iff, inR_not] at *); rw [Bool.eq_iff_iff]; simp only [cmdOk, cmdEq, noBytes]; (repeat' split) <;> (try simp [inR_iff]) <;> grind) ?_
              exact KF.m [] [.bool false]
          · skip
            refine AW.r ?_
            refine At.a 1 ?_
            refine At.done rfl ?_
            refine AW.ret ?_
            refine ⟨_, Sub.refl _ _, ?_⟩
            refine KF.conv (fun w => .bool w) (fun w => []) (show (false) = (cmdOk c) from by (try simp only [inR_iff, inR_not] at *); rw [Bool.eq_iff_iff]; simp only [cmdOk, cmdEq, noBytes]; (repeat' split) <;> (try simp [inR_iff]) <;> grind) ?_
            exact KF.m [] [.bool false]
        · skip
          refine AW.region (At.start ?_)
          refine At.a 2 ?_
          refine At.done rfl ?_
          refine AW.cE c.kind (5 : Int) (fun h13 => ?_) (fun h13 => ?_)
          · skip
            refine AW.skip ?_
            refine AW.r ?_
            refine At.a 2 ?_
            by_cases h14 : (inR c.release 1 1000) = true
            · refine At.sB 47 (inR c.release 1 1000) true (sayB h14) ?_
              refine At.a 2 ?_
              refine At.eqA (t := 48) (u := 48) (d := 50) (op := .eql) (x := .tmp 48) (y := .tmp 49) (X := [.int .i64 0, .int .i64 0, .int .i64 c.node, .int .i64 c.size, .str c.digest]) (Y := [.int .i64 0, .int .i64 0, .int .i64 0, .int .i64 0, .str (⟨#[]⟩ : ByteArray)]) (cmdEq (⟨0, 0, c.node, c.size, c.digest⟩ : Cmd) (⟨0, 0, 0, 0, (⟨#[]⟩ : ByteArray)⟩ : Cmd)) (by kernel_rfl) (by kernel_rfl) (by kernel_rfl) (by kernel_rfl) (by kernel_rfl) (.bool (cmdEq (⟨0, 0, c.node, c.size, c.digest⟩ : Cmd) (⟨0, 0, 0, 0, (⟨#[]⟩ : ByteArray)⟩ : Cmd))) (.inl ⟨rfl, rfl⟩) ?_
              refine At.a 2 ?_
              refine At.done rfl ?_
              refine AW.ret ?_
              refine ⟨_, Sub.refl _ _, ?_⟩
              refine KF.conv (fun w => .bool w) (fun w => []) (show (cmdEq (⟨0, 0, c.node, c.size, c.digest⟩ : Cmd) (⟨0, 0, 0, 0, (⟨#[]⟩ : ByteArray)⟩ : Cmd)) = (cmdOk c) from by (try simp only [inR_iff, inR_not] at *); rw [Bool.eq_iff_iff]; simp only [cmdOk, cmdEq, noBytes]; (repeat' split) <;> (try simp [inR_iff]) <;> grind) ?_
              exact KF.m [] [.bool (cmdEq (⟨0, 0, c.node, c.size, c.digest⟩ : Cmd) (⟨0, 0, 0, 0, (⟨#[]⟩ : ByteArray)⟩ : Cmd))]
            · refine At.sB 47 (inR c.release 1 1000) false (sayB (Bool.eq_false_iff.2 h14)) ?_
              replace h14 := Bool.eq_false_iff.2 h14
              refine At.a 5 ?_
              refine At.done rfl ?_
              refine AW.ret ?_
              refine ⟨_, Sub.refl _ _, ?_⟩
              refine KF.conv (fun w => .bool w) (fun w => []) (show (false) = (cmdOk c) from by (try simp only [inR_iff, inR_not] at *); rw [Bool.eq_iff_iff]; simp only [cmdOk, cmdEq, noBytes]; (repeat' split) <;> (try simp [inR_iff]) <;> grind) ?_
              exact KF.m [] [.bool false]
          · skip
            refine AW.r ?_
            refine At.a 1 ?_
            refine At.done rfl ?_
            refine AW.ret ?_
            refine ⟨_, Sub.refl _ _, ?_⟩
            refine KF.conv (fun w => .bool w) (fun w => []) (show (false) = (cmdOk c) from by (try simp only [inR_iff, inR_not] at *); rw [Bool.eq_iff_iff]; simp only [cmdOk, cmdEq, noBytes]; (repeat' split) <;> (try simp [inR_iff]) <;> grind) ?_
            exact KF.m [] [.bool false]
set_option maxRecDepth 100000 in
set_option maxHeartbeats 4000000 in
theorem impl_lastTerm_spec  (l : List Ent) (hl : l.length ≤ 1048576) : FnSpec Try.prog 73 [.sl false 6 (l.map encEnt)] [] (.int .i64 (lastT l)) [] := by
  refine FnSpec.of 13 Try.func73 rfl Try.ntmps73 (by simp) (AW.weakK ?_)
  refine AW.r ?_
  refine At.a 1 ?_
  refine At.done rfl ?_
  refine AW.seq ?_
  refine AW.r ?_
  refine At.a 2 ?_
  refine At.sL 4 encEnt l ?_
  refine At.a 1 ?_
  refine At.done rfl ?_
  refine AW.cE (l.length : Int) (0 : Int) (fun h1 => ?_) (fun h1 => ?_)
  · skip
    refine AW.r ?_
    refine At.a 1 ?_
    refine At.done rfl ?_
    refine AW.ret ?_
    refine ⟨_, Sub.refl _ _, ?_⟩
    refine KF.conv (fun w => .int .i64 w) (fun w => []) (show (0) = (lastT l) from by obtain rfl := List.length_eq_zero_iff.1 (show l.length = 0 by omega); rfl) ?_
    exact KF.m [] [.int .i64 0]
  · skip
    refine AW.skip ?_
    refine AW.r ?_
    refine At.a 3 ?_
    refine At.sL 8 encEnt l ?_
    refine At.a 1 ?_
    refine At.sI 9 ((l.length : Int) - 1) (by omega) ?_
    refine At.iSl 31 10 (.tmp 6) (.tmp 9) false 6 (l.map encEnt) .i64 ((l.length : Int) - 1) 88 (by omega) (by simp only [List.length_map, List.length_append, List.length_take, List.length_drop, List.length_replicate, List.length_set, List.length_cons, List.length_nil]; omega) ?_
    refine At.a 1 ?_
    refine Exists.elim (show ∃ e, l[((l.length : Int) - 1).toNat]? = some e from ⟨_, List.getElem?_eq_getElem (by omega)⟩) fun e1 he1 => ?_
    refine At.lVp 3 12 (.tmp 11) false 6 (l.map encEnt) (((l.length : Int) - 1).toNat) 0 false 1 (encEnt e1) (.int .i64 e1.term) (mapGet he1) ?_
    refine At.a 1 ?_
    refine At.done rfl ?_
    refine AW.ret ?_
    refine ⟨_, Sub.refl _ _, ?_⟩
    refine KF.conv (fun w => .int .i64 w) (fun w => []) (show (e1.term) = (lastT l) from by rw [show ((l.length : Int) - 1).toNat = l.length - 1 from by omega] at he1; simp [lastT, he1]) ?_
    exact KF.m [] [.int .i64 e1.term]
set_option maxRecDepth 100000 in
set_option maxHeartbeats 4000000 in
theorem impl_isWhole_spec  (n : Int) : FnSpec Try.prog 108 [.int .i64 n] [] (.bool (inR n 0 1000000000)) [] := by
  refine FnSpec.of 5 Try.func108 rfl Try.ntmps108 (by simp) (AW.weakK ?_)
  refine AW.r ?_
  refine At.a 1 ?_
  refine At.done rfl ?_
  refine AW.r ?_
  refine At.a 1 ?_
  refine At.c (impl_within_spec  n 0 1000000000 ) Try.call85 true [] [] [] trivial ?_
  refine At.a 1 ?_
  refine At.done rfl ?_
  refine AW.ret ?_
  refine ⟨_, Sub.refl _ _, ?_⟩
  exact KF.m [] [.bool (inR n 0 1000000000)]
set_option maxRecDepth 100000 in
set_option maxHeartbeats 4000000 in
theorem impl_HardOk_spec  (h : Hard) (hl : h.log.length ≤ 1048576) : FnSpec Try.prog 86 [.agg [.int .i64 h.term, .int .i64 h.vote, .sl false 6 (h.log.map encEnt)]] [] (.bool (hardOk h)) [] := by
  refine FnSpec.of 46 Try.func86 rfl Try.ntmps86 (by simp) (AW.weakK ?_)
  refine AW.r ?_
  refine At.a 2 ?_
  refine At.done rfl ?_
  refine AW.seq ?_
  refine AW.r ?_
  refine At.a 3 ?_
  refine At.sL 7 encEnt h.log ?_
  refine At.a 1 ?_
  refine At.done rfl ?_
  refine AW.block ?_
  refine AW.loopW (fun (k : Nat) => Go.Sy.mk [.un, .ptr 101 0 0, .un, .un, .un, .un, .sl false 6 (h.log.map encEnt), .int .i64 (h.log.length : Int), .int .i64 (k : Int)] [(101, .box 33 [.int .i64 h.term, .int .i64 h.vote, .sl false 6 (h.log.map encEnt)])]) (fun (k : Nat) => k ≤ h.log.length ∧ logOk h.term 0 h.log = logOk h.term (lastT (h.log.take k)) (h.log.drop k)) (fun (k : Nat) => h.log.length - k) 0 ⟨by omega, by simp [lastT]⟩ (Sub.o [(101, 101)] [false, true, false, false, false, false, true, true, true]) ?_
  rintro k ⟨hk, hR⟩
  refine AW.r ?_
  refine At.a 1 ?_
  refine At.done rfl ?_
  refine AW.seq ?_
  refine AW.cD ((k : Int) < (h.log.length : Int)) (fun h1 => ?_) (fun h1 => ?_)
  · skip
    refine AW.skip ?_
    refine AW.seq ?_
    refine AW.block ?_
    refine AW.r ?_
    refine At.a 1 ?_
    refine At.iSl 31 11 (.tmp 6) (.tmp 8) false 6 (h.log.map encEnt) .i64 (k : Int) 88 (by omega) (by simp only [List.length_map, List.length_append, List.length_take, List.length_drop, List.length_replicate, List.length_set, List.length_cons, List.length_nil]; omega) ?_
    refine Exists.elim (show ∃ e, h.log[k]? = some e from ⟨_, List.getElem?_eq_getElem (by omega)⟩) fun e1 he1 => ?_
    refine At.lVp 88 12 (.tmp 11) false 6 (h.log.map encEnt) k 0 true 6 (encEnt e1) (.agg [.int .i64 e1.term, .int .i64 e1.cmd.kind, .int .i64 e1.cmd.release, .int .i64 e1.cmd.node, .int .i64 e1.cmd.size, .str e1.cmd.digest]) (mapGet he1) ?_
    refine At.a 3 ?_
    refine At.done rfl ?_
    refine AW.seq ?_
    refine AW.regionD Try_mix (At.start ?_)
    refine At.a 2 ?_
    refine At.c (impl_CmdOk_spec  e1.cmd ) Try.call55 true [] [] [] trivial ?_
    refine At.a 2 ?_
    by_cases h2 : (cmdOk e1.cmd) = true
    · refine At.sB 17 (!(cmdOk e1.cmd)) false (sayNF (sayB h2)) ?_
      refine At.a 5 ?_
      refine At.sliceSl (t := 31) (d := 23) (e := 88) (es := 6) (x := .tmp 21) (lx := none) (hx := some (.tmp 22)) (p := false) (xs := (h.log.map encEnt)) (vl := .un) (vh := .int .i64 (k : Int)) 0 k ((h.log.take k).map encEnt) (by kernel_rfl) (by kernel_rfl) (by kernel_rfl) (by kernel_rfl) (.inl ⟨rfl, rfl⟩) (.inr ⟨_, _, rfl, rfl⟩) (by omega) (by simp only [List.length_map, List.length_append, List.length_take, List.length_drop, List.length_replicate, List.length_set, List.length_cons, List.length_nil]; omega) (by simp [List.map_take, List.map_drop]) ?_
      refine At.c (impl_lastTerm_spec  (h.log.take k) (by simp only [List.length_map, List.length_append, List.length_take, List.length_drop, List.length_replicate, List.length_set, List.length_cons, List.length_nil]; omega)) Try.call73 true [] [] [] trivial ?_
      refine At.mm (d := 25) (b := .max) (x := .const (.int .i64 1)) (y := .tmp 24) (ats := #[3, 3]) (q := .i64) (m := 1) (n := lastT (h.log.take k)) (if (lastT (h.log.take k)) > 1 then lastT (h.log.take k) else 1) (by kernel_rfl) (by kernel_rfl) (by kernel_rfl) (by kernel_rfl) (.inr ⟨rfl, rfl⟩) ?_
      refine At.say 25 (.int .i64 (if (lastT (h.log.take k)) > 1 then lastT (h.log.take k) else 1)) (.int .i64 (max 1 (lastT (h.log.take k)))) (by kernel_rfl) (congrArg (V.int .i64) (by omega)) ?_
      refine At.a 2 ?_
      refine At.c (impl_within_spec  e1.term (max 1 (lastT (h.log.take k))) h.term ) Try.call85 true [] [] [] trivial ?_
      refine At.a 2 ?_
      refine At.done rfl ⟨by kernel_rfl, ?_⟩
      refine AW.cNB (inR e1.term (max 1 (lastT (h.log.take k))) h.term) (fun h3 => ?_) (fun h3 => ?_)
      · skip
        refine AW.r ?_
        refine At.a 1 ?_
        refine At.done rfl ?_
        refine AW.ret ?_
        refine ⟨_, Sub.refl _ _, ?_⟩
        refine KF.conv (fun w => .bool w) (fun w => []) (show (false) = (hardOk h) from by refine hardBad (hR.trans ?_); rw [dropCons he1]; first | exact logOk_bad0 (by assumption) | exact logOk_bad2 (by have := inR_not.1 (by assumption); omega)) ?_
        exact KF.m [] [.bool false]
      · skip
        have h3i := inR_iff.1 h3
        refine AW.skip ?_
        refine AW.region (At.start ?_)
        refine At.a 1 ?_
        refine At.sI 31 ((k : Int) + 1) (by omega) ?_
        refine At.a 1 ?_
        refine At.done rfl ?_
        exact ⟨k + 1, ⟨by omega, by rw [hR, dropCons he1, lastT_next he1]; exact logOk_step (by omega) (by omega) (by simp only [*]) (by omega)⟩, (by omega), Sub.o [(101, 101)] [false, true, false, false, false, false, true, true, true]⟩
    · refine At.sB 17 (!(cmdOk e1.cmd)) true (sayNT (sayB (Bool.eq_false_iff.2 h2))) ?_
      replace h2 := Bool.eq_false_iff.2 h2
      refine At.a 13 ?_
      refine At.done rfl ⟨by kernel_rfl, ?_⟩
      refine AW.cond true (by kernel_rfl) (fun _ => ?_) (fun h => by cases h)
      refine AW.r ?_
      refine At.a 1 ?_
      refine At.done rfl ?_
      refine AW.ret ?_
      refine ⟨_, Sub.refl _ _, ?_⟩
      refine KF.conv (fun w => .bool w) (fun w => []) (show (false) = (hardOk h) from by refine hardBad (hR.trans ?_); rw [dropCons he1]; first | exact logOk_bad0 (by assumption) | exact logOk_bad2 (by have := inR_not.1 (by assumption); omega)) ?_
      exact KF.m [] [.bool false]
  · skip
    refine AW.exit ?_
    refine AW.r ?_
    refine At.a 2 ?_
    refine At.c (impl_isWhole_spec  h.term ) Try.call108 true [] [] [] trivial ?_
    refine At.a 1 ?_
    by_cases h4 : (inR h.term 0 1000000000) = true
    · refine At.sB 35 (inR h.term 0 1000000000) true (sayB h4) ?_
      have h4i := inR_iff.1 h4
      refine At.a 2 ?_
      refine At.c (impl_within_spec  h.vote 0 5 ) Try.call85 true [] [] [] trivial ?_
      refine At.a 2 ?_
      by_cases h5 : (inR h.vote 0 5) = true
      · refine At.sB 40 (inR h.vote 0 5) true (sayB h5) ?_
        have h5i := inR_iff.1 h5
        refine At.a 3 ?_
        refine At.sL 43 encEnt h.log ?_
        refine At.a 3 ?_
        refine At.done rfl ?_
        refine AW.ret ?_
        refine ⟨_, Sub.refl _ _, ?_⟩
        refine KF.conv (fun w => .bool w) (fun w => []) (show (decide ((h.log.length : Int) ≤ 80)) = (hardOk h) from by have q : logOk h.term 0 h.log = true := (by rw [hR, List.drop_of_length_le (by omega)]; rfl); grind [hardOk]) ?_
        exact KF.m [] [.bool (decide ((h.log.length : Int) ≤ 80))]
      · refine At.sB 40 (inR h.vote 0 5) false (sayB (Bool.eq_false_iff.2 h5)) ?_
        replace h5 := Bool.eq_false_iff.2 h5
        refine At.a 6 ?_
        refine At.done rfl ?_
        refine AW.ret ?_
        refine ⟨_, Sub.refl _ _, ?_⟩
        refine KF.conv (fun w => .bool w) (fun w => []) (show (false) = (hardOk h) from by have q : logOk h.term 0 h.log = true := (by rw [hR, List.drop_of_length_le (by omega)]; rfl); grind [hardOk]) ?_
        exact KF.m [] [.bool false]
    · refine At.sB 35 (inR h.term 0 1000000000) false (sayB (Bool.eq_false_iff.2 h4)) ?_
      replace h4 := Bool.eq_false_iff.2 h4
      refine At.a 11 ?_
      refine At.done rfl ?_
      refine AW.ret ?_
      refine ⟨_, Sub.refl _ _, ?_⟩
      refine KF.conv (fun w => .bool w) (fun w => []) (show (false) = (hardOk h) from by have q : logOk h.term 0 h.log = true := (by rw [hR, List.drop_of_length_le (by omega)]; rfl); grind [hardOk]) ?_
      exact KF.m [] [.bool false]
set_option maxRecDepth 100000 in
set_option maxHeartbeats 4000000 in
theorem impl_nodesAscend_spec  (list : List Int) (of_ : Int) (hl : list.length ≤ 1048576) (ho : 0 ≤ of_ ∧ of_ ≤ 1000) : FnSpec Try.prog 87 [.sl false 1 (list.map encI), .int .i64 of_] [] (.bool (asc (of_ - 1) (-1) list)) [] := by
  refine FnSpec.of 33 Try.func87 rfl Try.ntmps87 (by simp) (AW.weakK ?_)
  refine AW.r ?_
  refine At.a 1 ?_
  refine At.done rfl ?_
  refine AW.seq ?_
  refine AW.r ?_
  refine At.a 2 ?_
  refine At.sL 8 encI list ?_
  refine At.a 1 ?_
  refine At.done rfl ?_
  refine AW.block ?_
  refine AW.loopW (fun (k : Nat) => Go.Sy.mk [.sl false 1 (list.map encI), .int .i64 of_, .un, .un, .un, .un, .un, .sl false 1 (list.map encI), .int .i64 (list.length : Int), .int .i64 (k : Int)] []) (fun (k : Nat) => k ≤ list.length ∧ ∃ p : Int, (k = 0 → p = -1) ∧ (∀ e, 0 < k → list[k - 1]? = some e → e = p) ∧ asc (of_ - 1) (-1) list = asc (of_ - 1) p (list.drop k)) (fun (k : Nat) => list.length - k) 0 ⟨by omega, -1, by omega, by omega, by rw [List.drop_zero]⟩ (Sub.o [] [true, true, false, false, false, false, false, true, true, true]) ?_
  rintro k ⟨hk, p, hp0, hp1, hR⟩
  refine AW.r ?_
  refine At.a 1 ?_
  refine At.done rfl ?_
  refine AW.seq ?_
  refine AW.cD ((k : Int) < (list.length : Int)) (fun h1 => ?_) (fun h1 => ?_)
  · skip
    refine AW.skip ?_
    refine AW.seq ?_
    refine AW.block ?_
    refine AW.r ?_
    refine At.a 1 ?_
    refine At.iSl 25 12 (.tmp 7) (.tmp 9) false 1 (list.map encI) .i64 (k : Int) 3 (by omega) (by simp only [List.length_map, List.length_append, List.length_take, List.length_drop, List.length_replicate, List.length_set, List.length_cons, List.length_nil]; omega) ?_
    refine Exists.elim (show ∃ e, list[k]? = some e from ⟨_, List.getElem?_eq_getElem (by omega)⟩) fun e1 he1 => ?_
    refine At.lVp 3 13 (.tmp 12) false 1 (list.map encI) k 0 false 1 (encI e1) (.int .i64 e1) (mapGet he1) ?_
    refine At.a 2 ?_
    refine At.done rfl ?_
    refine AW.r ?_
    refine At.a 3 ?_
    refine At.sI 16 (of_ - 1) (by omega) ?_
    refine At.c (impl_within_spec  e1 0 (of_ - 1) ) Try.call85 true [] [] [] trivial ?_
    refine At.a 2 ?_
    by_cases h2 : (inR e1 0 (of_ - 1)) = true
    · refine At.sB 19 (!(inR e1 0 (of_ - 1))) false (sayNF (sayB h2)) ?_
      have h2i := inR_iff.1 h2
      refine At.a 3 ?_
      by_cases h3 : (k : Int) > 0
      · refine At.sB 22 (decide ((k : Int) > 0)) true (sayT h3) ?_
        refine At.a 3 ?_
        refine At.sI 25 ((k : Int) - 1) (by omega) ?_
        refine At.iSl 25 26 (.tmp 23) (.tmp 25) false 1 (list.map encI) .i64 ((k : Int) - 1) 3 (by omega) (by simp only [List.length_map, List.length_append, List.length_take, List.length_drop, List.length_replicate, List.length_set, List.length_cons, List.length_nil]; omega) ?_
        refine Exists.elim (show ∃ e, list[((k : Int) - 1).toNat]? = some e from ⟨_, List.getElem?_eq_getElem (by omega)⟩) fun e2 he2 => ?_
        have qe2 := hp1 e2 (by omega) (by rw [show k - 1 = ((k : Int) - 1).toNat from by omega]; exact he2)
        refine At.lVp 3 27 (.tmp 26) false 1 (list.map encI) (((k : Int) - 1).toNat) 0 false 1 (encI e2) (.int .i64 e2) (mapGet he2) ?_
        refine At.a 4 ?_
        refine At.done rfl ?_
        refine AW.cD (e2 ≥ e1) (fun h4 => ?_) (fun h4 => ?_)
        · skip
          refine AW.r ?_
          refine At.a 1 ?_
          refine At.done rfl ?_
          refine AW.ret ?_
          refine ⟨_, Sub.refl _ _, ?_⟩
          refine KF.conv (fun w => .bool w) (fun w => []) (show (false) = (asc (of_ - 1) (-1) list) from by rw [hR, dropCons he1]; first | exact asc_bad1 (by assumption) | exact asc_bad2 (by omega)) ?_
          exact KF.m [] [.bool false]
        · skip
          refine AW.skip ?_
          refine AW.region (At.start ?_)
          refine At.a 1 ?_
          refine At.sI 32 ((k : Int) + 1) (by omega) ?_
          refine At.a 1 ?_
          refine At.done rfl ?_
          exact ⟨k + 1, ⟨by omega, e1, by omega, at_k he1, by have i1 := inR_iff.1 (show inR e1 0 (of_ - 1) = true by simpa using h2); rw [hR, dropCons he1]; exact asc_step (by simpa using h2) (by omega)⟩, (by omega), Sub.o [] [true, true, false, false, false, false, false, true, true, true]⟩
      · refine At.sB 22 (decide ((k : Int) > 0)) false (sayF h3) ?_
        refine At.a 9 ?_
        refine At.done rfl ?_
        refine AW.cond false (by kernel_rfl) (fun h => by cases h) (fun _ => ?_)
        refine AW.skip ?_
        refine AW.region (At.start ?_)
        refine At.a 1 ?_
        refine At.sI 32 ((k : Int) + 1) (by omega) ?_
        refine At.a 1 ?_
        refine At.done rfl ?_
        exact ⟨k + 1, ⟨by omega, e1, by omega, at_k he1, by have i1 := inR_iff.1 (show inR e1 0 (of_ - 1) = true by simpa using h2); rw [hR, dropCons he1]; exact asc_step (by simpa using h2) (by omega)⟩, (by omega), Sub.o [] [true, true, false, false, false, false, false, true, true, true]⟩
    · refine At.sB 19 (!(inR e1 0 (of_ - 1))) true (sayNT (sayB (Bool.eq_false_iff.2 h2))) ?_
      replace h2 := Bool.eq_false_iff.2 h2
      refine At.a 12 ?_
      refine At.done rfl ?_
      refine AW.cond true (by kernel_rfl) (fun _ => ?_) (fun h => by cases h)
      refine AW.r ?_
      refine At.a 1 ?_
      refine At.done rfl ?_
      refine AW.ret ?_
      refine ⟨_, Sub.refl _ _, ?_⟩
      refine KF.conv (fun w => .bool w) (fun w => []) (show (false) = (asc (of_ - 1) (-1) list) from by rw [hR, dropCons he1]; first | exact asc_bad1 (by assumption) | exact asc_bad2 (by omega)) ?_
      exact KF.m [] [.bool false]
  · skip
    refine AW.exit ?_
    refine AW.r ?_
    refine At.a 1 ?_
    refine At.done rfl ?_
    refine AW.ret ?_
    refine ⟨_, Sub.refl _ _, ?_⟩
    refine KF.conv (fun w => .bool w) (fun w => []) (show (true) = (asc (of_ - 1) (-1) list) from by rw [hR, List.drop_of_length_le (by omega)]; rfl) ?_
    exact KF.m [] [.bool true]
set_option maxRecDepth 100000 in
set_option maxHeartbeats 4000000 in
theorem slices_Index_spec  (s : List Int) (v : Int) (hl : s.length ≤ 1048576) : FnSpec Try.prog 109 [.sl false 1 (s.map encI), .int .i64 v] [] (.int .i64 (idxI v 0 s)) [] := by
  refine FnSpec.of 19 Try.func109 rfl Try.ntmps109 (by simp) (AW.weakK ?_)
  refine AW.r ?_
  refine At.a 1 ?_
  refine At.done rfl ?_
  refine AW.seq ?_
  refine AW.r ?_
  refine At.a 2 ?_
  refine At.sL 7 encI s ?_
  refine At.a 1 ?_
  refine At.done rfl ?_
  refine AW.block ?_
  refine AW.loopW (fun (k : Nat) => Go.Sy.mk [.sl false 1 (s.map encI), .int .i64 v, .un, .un, .un, .un, .un, .int .i64 (s.length : Int), .int .i64 (k : Int)] []) (fun (k : Nat) => k ≤ s.length ∧ idxI v 0 s = idxI v k (s.drop k)) (fun (k : Nat) => s.length - k) 0 ⟨by omega, by rw [List.drop_zero]⟩ (Sub.o [] [true, true, false, false, false, false, false, true, true]) ?_
  rintro k ⟨hk, hR⟩
  refine AW.r ?_
  refine At.a 1 ?_
  refine At.done rfl ?_
  refine AW.seq ?_
  refine AW.cD ((k : Int) < (s.length : Int)) (fun h1 => ?_) (fun h1 => ?_)
  · skip
    refine AW.skip ?_
    refine AW.seq ?_
    refine AW.block ?_
    refine AW.r ?_
    refine At.a 2 ?_
    refine At.done rfl ?_
    refine AW.r ?_
    refine At.a 3 ?_
    refine At.iSl 25 14 (.tmp 12) (.tmp 13) false 1 (s.map encI) .i64 (k : Int) 3 (by omega) (by simp only [List.length_map, List.length_append, List.length_take, List.length_drop, List.length_replicate, List.length_set, List.length_cons, List.length_nil]; omega) ?_
    refine Exists.elim (show ∃ e, s[k]? = some e from ⟨_, List.getElem?_eq_getElem (by omega)⟩) fun e1 he1 => ?_
    refine At.lVp 3 15 (.tmp 14) false 1 (s.map encI) k 0 false 1 (encI e1) (.int .i64 e1) (mapGet he1) ?_
    refine At.a 1 ?_
    refine At.done rfl ?_
    refine AW.cE v e1 (fun h2 => ?_) (fun h2 => ?_)
    · skip
      refine AW.r ?_
      refine At.a 2 ?_
      refine At.done rfl ?_
      refine AW.ret ?_
      refine ⟨_, Sub.refl _ _, ?_⟩
      refine KF.conv (fun w => .int .i64 w) (fun w => []) (show ((k : Int)) = (idxI v 0 s) from by rw [hR, dropCons he1, idxI, if_pos (by assumption)]) ?_
      exact KF.m [] [.int .i64 (k : Int)]
    · skip
      refine AW.skip ?_
      refine AW.region (At.start ?_)
      refine At.a 1 ?_
      refine At.sI 18 ((k : Int) + 1) (by omega) ?_
      refine At.a 1 ?_
      refine At.done rfl ?_
      exact ⟨k + 1, ⟨by omega, by rw [hR, dropCons he1, idxI, if_neg (by assumption)]⟩, (by omega), Sub.o [] [true, true, false, false, false, false, false, true, true]⟩
  · skip
    refine AW.exit ?_
    refine AW.r ?_
    refine At.a 1 ?_
    refine At.done rfl ?_
    refine AW.ret ?_
    refine ⟨_, Sub.refl _ _, ?_⟩
    refine KF.conv (fun w => .int .i64 w) (fun w => []) (show (-1) = (idxI v 0 s) from by rw [hR, List.drop_of_length_le (by omega)]; rfl) ?_
    exact KF.m [] [.int .i64 (-1)]
set_option maxRecDepth 100000 in
set_option maxHeartbeats 4000000 in
theorem slices_Contains_spec  (s : List Int) (v : Int) (hl : s.length ≤ 1048576) : FnSpec Try.prog 88 [.sl false 1 (s.map encI), .int .i64 v] [] (.bool (hasI v s)) [] := by
  refine FnSpec.of 9 Try.func88 rfl Try.ntmps88 (by simp) (AW.weakK ?_)
  refine AW.r ?_
  refine At.a 1 ?_
  refine At.done rfl ?_
  refine AW.r ?_
  refine At.a 2 ?_
  refine At.c (slices_Index_spec  s v (by omega)) Try.call109 true [] [] [] trivial ?_
  refine At.a 2 ?_
  refine At.done rfl ?_
  refine AW.ret ?_
  refine ⟨_, Sub.refl _ _, ?_⟩
  refine KF.conv (fun w => .bool w) (fun w => []) (show (decide ((idxI v 0 s) ≥ 0)) = (hasI v s) from idxI_has v s 0) ?_
  exact KF.m [] [.bool (decide ((idxI v 0 s) ≥ 0))]
set_option maxRecDepth 100000 in
set_option maxHeartbeats 4000000 in
theorem impl_numbersIn_spec  (list : List Int) (count : Int) (low : Int) (high : Int) (hl : list.length ≤ 1048576) : FnSpec Try.prog 89 [.sl false 1 (list.map encI), .int .i64 count, .int .i64 low, .int .i64 high] [] (.bool (allIn low high list && ((list.length : Int) == count))) [] := by
  refine FnSpec.of 27 Try.func89 rfl Try.ntmps89 (by simp) (AW.weakK ?_)
  refine AW.r ?_
  refine At.a 1 ?_
  refine At.done rfl ?_
  refine AW.seq ?_
  refine AW.r ?_
  refine At.a 2 ?_
  refine At.sL 12 encI list ?_
  refine At.a 1 ?_
  refine At.done rfl ?_
  refine AW.block ?_
  refine AW.loopW (fun (k : Nat) => Go.Sy.mk [.sl false 1 (list.map encI), .int .i64 count, .int .i64 low, .int .i64 high, .un, .un, .un, .un, .un, .un, .un, .sl false 1 (list.map encI), .int .i64 (list.length : Int), .int .i64 (k : Int)] []) (fun (k : Nat) => k ≤ list.length ∧ allIn low high list = allIn low high (list.drop k)) (fun (k : Nat) => list.length - k) 0 ⟨by omega, by rw [List.drop_zero]⟩ (Sub.o [] [true, true, true, true, false, false, false, false, false, false, false, true, true, true]) ?_
  rintro k ⟨hk, hR⟩
  refine AW.r ?_
  refine At.a 1 ?_
  refine At.done rfl ?_
  refine AW.seq ?_
  refine AW.cD ((k : Int) < (list.length : Int)) (fun h1 => ?_) (fun h1 => ?_)
  · skip
    refine AW.skip ?_
    refine AW.seq ?_
    refine AW.block ?_
    refine AW.r ?_
    refine At.iSl 25 15 (.tmp 11) (.tmp 13) false 1 (list.map encI) .i64 (k : Int) 3 (by omega) (by simp only [List.length_map, List.length_append, List.length_take, List.length_drop, List.length_replicate, List.length_set, List.length_cons, List.length_nil]; omega) ?_
    refine Exists.elim (show ∃ e, list[k]? = some e from ⟨_, List.getElem?_eq_getElem (by omega)⟩) fun e1 he1 => ?_
    refine At.lVp 3 16 (.tmp 15) false 1 (list.map encI) k 0 false 1 (encI e1) (.int .i64 e1) (mapGet he1) ?_
    refine At.a 1 ?_
    refine At.done rfl ?_
    refine AW.r ?_
    refine At.a 3 ?_
    refine At.c (impl_within_spec  e1 low high ) Try.call85 true [] [] [] trivial ?_
    refine At.a 1 ?_
    refine At.done rfl ?_
    refine AW.cNB (inR e1 low high) (fun h2 => ?_) (fun h2 => ?_)
    · skip
      refine AW.r ?_
      refine At.a 1 ?_
      refine At.done rfl ?_
      refine AW.ret ?_
      refine ⟨_, Sub.refl _ _, ?_⟩
      refine KF.conv (fun w => .bool w) (fun w => []) (show (false) = (allIn low high list && ((list.length : Int) == count)) from by rw [hR, dropCons he1, allIn]; simp only [*, Bool.false_and]) ?_
      exact KF.m [] [.bool false]
    · skip
      have h2i := inR_iff.1 h2
      refine AW.skip ?_
      refine AW.region (At.start ?_)
      refine At.a 1 ?_
      refine At.sI 22 ((k : Int) + 1) (by omega) ?_
      refine At.a 1 ?_
      refine At.done rfl ?_
      exact ⟨k + 1, ⟨by omega, by rw [hR, dropCons he1, allIn]; simp only [*, Bool.true_and]⟩, (by omega), Sub.o [] [true, true, true, true, false, false, false, false, false, false, false, true, true, true]⟩
  · skip
    refine AW.exit ?_
    refine AW.r ?_
    refine At.a 2 ?_
    refine At.sL 24 encI list ?_
    refine At.a 3 ?_
    refine At.done rfl ?_
    refine AW.ret ?_
    refine ⟨_, Sub.refl _ _, ?_⟩
    refine KF.conv (fun w => .bool w) (fun w => []) (show ((list.length : Int) == count) = (allIn low high list && ((list.length : Int) == count)) from by rw [hR, List.drop_of_length_le (by omega)]; rfl) ?_
    exact KF.m [] [.bool ((list.length : Int) == count)]
set_option maxRecDepth 100000 in
set_option maxHeartbeats 4000000 in
theorem impl_RaftOk_spec  (r : Raft) (hz : SmallR r) : FnSpec Try.prog 40 [.agg [.int .i64 r.id, .int .i64 r.of_, .int .i64 r.role, .int .i64 r.commit, .int .i64 r.hard.term, .int .i64 r.hard.vote, .sl false 6 (r.hard.log.map encEnt), .sl false 1 (r.yes.map encI), .sl false 1 (r.next.map encI), .sl false 1 (r.match_.map encI)]] [] (.bool (raftOk r)) [] := by
  obtain ⟨z1, z2, z3, z4⟩ := id hz
  refine FnSpec.of 105 Try.func40 rfl Try.ntmps40 (by simp) (AW.weakK ?_)
  refine AW.r ?_
  refine At.a 2 ?_
  refine At.done rfl ?_
  refine AW.r ?_
  refine At.a 4 ?_
  refine At.sL 9 encEnt r.hard.log ?_
  refine At.a 1 ?_
  refine At.done rfl ?_
  refine AW.seq ?_
  refine AW.r ?_
  refine At.a 2 ?_
  refine At.c (impl_isOf_spec  r.of_ ) Try.call84 true [] [] [] trivial ?_
  refine At.a 2 ?_
  by_cases h1 : (ofOk r.of_) = true
  · refine At.sB 14 (!(ofOk r.of_)) false (sayNF (sayB h1)) ?_
    have h1o := ofOk_iff.1 h1
    refine At.a 5 ?_
    refine At.sI 19 (r.of_ - 1) (by omega) ?_
    refine At.c (impl_within_spec  r.id 0 (r.of_ - 1) ) Try.call85 true [] [] [] trivial ?_
    refine At.a 3 ?_
    by_cases h2 : (inR r.id 0 (r.of_ - 1)) = true
    · refine At.sB 23 (!(inR r.id 0 (r.of_ - 1))) false (sayNF (sayB h2)) ?_
      have h2i := inR_iff.1 h2
      refine At.a 2 ?_
      refine At.c (impl_within_spec  r.role 1 3 ) Try.call85 true [] [] [] trivial ?_
      refine At.a 3 ?_
      by_cases h3 : (inR r.role 1 3) = true
      · refine At.sB 29 (!(inR r.role 1 3)) false (sayNF (sayB h3)) ?_
        have h3i := inR_iff.1 h3
        refine At.a 2 ?_
        refine At.c (impl_HardOk_spec  r.hard (by omega)) Try.call86 true [] [] [] trivial ?_
        refine At.a 3 ?_
        by_cases h4 : (hardOk r.hard) = true
        · refine At.sB 35 (!(hardOk r.hard)) false (sayNF (sayB h4)) ?_
          refine At.a 3 ?_
          refine At.c (impl_within_spec  r.commit 0 (r.hard.log.length : Int) ) Try.call85 true [] [] [] trivial ?_
          refine At.a 2 ?_
          refine At.done rfl ?_
          refine AW.cNB (inR r.commit 0 (r.hard.log.length : Int)) (fun h5 => ?_) (fun h5 => ?_)
          · skip
            refine AW.r ?_
            refine At.a 1 ?_
            refine At.done rfl ?_
            refine AW.ret ?_
            refine ⟨_, Sub.refl _ _, ?_⟩
            refine KF.conv (fun w => .bool w) (fun w => []) (show (false) = (raftOk r) from by grind [raft_all, raftOk3, allIn_zero]) ?_
            exact KF.m [] [.bool false]
          · skip
            have h5i := inR_iff.1 h5
            refine AW.skip ?_
            refine AW.seq ?_
            refine AW.seq ?_
            refine AW.cut [(101, 101)] [false, true, false, true] 65 (!(raftI2 r)) ?_ ?_
            · skip
              refine AW.region (At.start ?_)
              refine At.a 4 ?_
              refine At.c (impl_nodesAscend_spec  r.yes r.of_ (by omega) (by omega)) Try.call87 true [] [] [] trivial ?_
              refine At.a 2 ?_
              by_cases h6 : (asc (r.of_ - 1) (-1) r.yes) = true
              · refine At.sB 48 (!(asc (r.of_ - 1) (-1) r.yes)) false (sayNF (sayB h6)) ?_
                refine At.a 4 ?_
                refine At.c (slices_Contains_spec  r.yes r.id (by omega)) Try.call88 true [] [] [] trivial ?_
                refine At.a 2 ?_
                by_cases h7 : (hasI r.id r.yes) = true
                · refine At.sB 55 (hasI r.id r.yes) true (sayB h7) ?_
                  refine At.a 10 ?_
                  refine At.sB 65 true (!(raftI2 r)) (congrArg V.bool (by grind [raftI2])) ?_
                  refine At.done rfl ⟨rfl, ?_⟩
                  exact Sub.cut [(101, 101)] [false, true, false, true] 65 _ (by kernel_rfl) (by kernel_rfl) (by kernel_rfl) (by kernel_rfl)
                · refine At.sB 55 (hasI r.id r.yes) false (sayB (Bool.eq_false_iff.2 h7)) ?_
                  replace h7 := Bool.eq_false_iff.2 h7
                  refine At.a 3 ?_
                  refine At.sL 58 encI r.yes ?_
                  refine At.a 2 ?_
                  by_cases h8 : (r.yes.length : Int) > 0
                  · refine At.sB 60 (decide ((r.yes.length : Int) > 0)) true (sayT h8) ?_
                    refine At.a 5 ?_
                    refine At.sB 65 (r.role != 2) (!(raftI2 r)) (congrArg V.bool (by grind [raftI2])) ?_
                    refine At.done rfl ⟨rfl, ?_⟩
                    exact Sub.cut [(101, 101)] [false, true, false, true] 65 _ (by kernel_rfl) (by kernel_rfl) (by kernel_rfl) (by kernel_rfl)
                  · refine At.sB 60 (decide ((r.yes.length : Int) > 0)) false (sayF h8) ?_
                    refine At.a 5 ?_
                    refine At.sB 65 false (!(raftI2 r)) (congrArg V.bool (by grind [raftI2])) ?_
                    refine At.done rfl ⟨rfl, ?_⟩
                    exact Sub.cut [(101, 101)] [false, true, false, true] 65 _ (by kernel_rfl) (by kernel_rfl) (by kernel_rfl) (by kernel_rfl)
              · refine At.sB 48 (!(asc (r.of_ - 1) (-1) r.yes)) true (sayNT (sayB (Bool.eq_false_iff.2 h6))) ?_
                replace h6 := Bool.eq_false_iff.2 h6
                refine At.a 17 ?_
                refine At.sB 65 true (!(raftI2 r)) (congrArg V.bool (by grind [raftI2])) ?_
                refine At.done rfl ⟨rfl, ?_⟩
                exact Sub.cut [(101, 101)] [false, true, false, true] 65 _ (by kernel_rfl) (by kernel_rfl) (by kernel_rfl) (by kernel_rfl)
            refine AW.cNB (raftI2 r) (fun h9 => ?_) (fun h9 => ?_)
            · skip
              refine AW.r ?_
              refine At.a 1 ?_
              refine At.done rfl ?_
              refine AW.ret ?_
              refine ⟨_, Sub.refl _ _, ?_⟩
              refine KF.conv (fun w => .bool w) (fun w => []) (show (false) = (raftOk r) from by grind [raft_all, raftOk3, allIn_zero]) ?_
              exact KF.m [] [.bool false]
            · skip
              refine AW.skip ?_
              refine AW.r ?_
              refine At.a 1 ?_
              refine At.done rfl ?_
              refine AW.seq ?_
              refine AW.r ?_
              refine At.a 3 ?_
              refine At.done rfl ?_
              refine AW.cE r.role (3 : Int) (fun h10 => ?_) (fun h10 => ?_)
              · skip
                refine AW.region (At.start ?_)
                refine At.a 3 ?_
                refine At.done rfl ?_
                refine AW.seq ?_
                refine AW.cut [(101, 101)] [false, true, false, true, true] 5 (raftI4 r) ?_ ?_
                · skip
                  refine AW.region (At.start ?_)
                  refine At.a 4 ?_
                  by_cases h11 : r.role = 1
                  · refine At.sB 74 (r.role == 1) true (sayET h11) ?_
                    refine At.a 15 ?_
                    refine At.sB 5 true (raftI4 r) (congrArg V.bool (by grind [raftI4])) ?_
                    refine At.done rfl ⟨rfl, ?_⟩
                    exact Sub.cut [(101, 101)] [false, true, false, true, true] 5 _ (by kernel_rfl) (by kernel_rfl) (by kernel_rfl) (by kernel_rfl)
                  · refine At.sB 74 (r.role == 1) false (sayEF h11) ?_
                    refine At.a 5 ?_
                    by_cases h12 : r.hard.term ≥ 1
                    · refine At.sB 79 (decide (r.hard.term ≥ 1)) true (sayT h12) ?_
                      refine At.a 6 ?_
                      refine At.sI 85 (r.id + 1) (by omega) ?_
                      refine At.a 4 ?_
                      refine At.sB 5 (r.hard.vote == (r.id + 1)) (raftI4 r) (congrArg V.bool (by grind [raftI4])) ?_
                      refine At.done rfl ⟨rfl, ?_⟩
                      exact Sub.cut [(101, 101)] [false, true, false, true, true] 5 _ (by kernel_rfl) (by kernel_rfl) (by kernel_rfl) (by kernel_rfl)
                    · refine At.sB 79 (decide (r.hard.term ≥ 1)) false (sayF h12) ?_
                      refine At.a 10 ?_
                      refine At.sB 5 false (raftI4 r) (congrArg V.bool (by grind [raftI4])) ?_
                      refine At.done rfl ⟨rfl, ?_⟩
                      exact Sub.cut [(101, 101)] [false, true, false, true, true] 5 _ (by kernel_rfl) (by kernel_rfl) (by kernel_rfl) (by kernel_rfl)
                refine AW.r ?_
                refine At.a 2 ?_
                by_cases h13 : (raftI4 r) = true
                · refine At.sB 90 (raftI4 r) true (sayB h13) ?_
                  refine At.a 5 ?_
                  refine At.sI 95 ((r.hard.log.length : Int) + 1) (by omega) ?_
                  refine At.c (impl_numbersIn_spec  r.next r.of_ 1 ((r.hard.log.length : Int) + 1) (by omega)) Try.call89 true [] [] [] trivial ?_
                  refine At.a 2 ?_
                  by_cases h14 : (allIn 1 ((r.hard.log.length : Int) + 1) r.next && ((r.next.length : Int) == r.of_)) = true
                  · refine At.sB 98 (allIn 1 ((r.hard.log.length : Int) + 1) r.next && ((r.next.length : Int) == r.of_)) true (sayB h14) ?_
                    refine At.a 4 ?_
                    refine At.c (impl_numbersIn_spec  r.match_ r.of_ 0 (r.hard.log.length : Int) (by omega)) Try.call89 true [] [] [] trivial ?_
                    refine At.a 2 ?_
                    refine At.done rfl ?_
                    refine AW.ret ?_
                    refine ⟨_, Sub.refl _ _, ?_⟩
                    refine KF.conv (fun w => .bool w) (fun w => []) (show (allIn 0 (r.hard.log.length : Int) r.match_ && ((r.match_.length : Int) == r.of_)) = (raftOk r) from by grind [raft_all, raftOk3, allIn_zero]) ?_
                    exact KF.m [] [.bool (allIn 0 (r.hard.log.length : Int) r.match_ && ((r.match_.length : Int) == r.of_))]
                  · refine At.sB 98 (allIn 1 ((r.hard.log.length : Int) + 1) r.next && ((r.next.length : Int) == r.of_)) false (sayB (Bool.eq_false_iff.2 h14)) ?_
                    replace h14 := Bool.eq_false_iff.2 h14
                    refine At.a 7 ?_
                    refine At.done rfl ?_
                    refine AW.ret ?_
                    refine ⟨_, Sub.refl _ _, ?_⟩
                    refine KF.conv (fun w => .bool w) (fun w => []) (show (false) = (raftOk r) from by grind [raft_all, raftOk3, allIn_zero]) ?_
                    exact KF.m [] [.bool false]
                · refine At.sB 90 (raftI4 r) false (sayB (Bool.eq_false_iff.2 h13)) ?_
                  replace h13 := Bool.eq_false_iff.2 h13
                  refine At.a 15 ?_
                  refine At.done rfl ?_
                  refine AW.ret ?_
                  refine ⟨_, Sub.refl _ _, ?_⟩
                  refine KF.conv (fun w => .bool w) (fun w => []) (show (false) = (raftOk r) from by grind [raft_all, raftOk3, allIn_zero]) ?_
                  exact KF.m [] [.bool false]
              · skip
                refine AW.skip ?_
                refine AW.seq ?_
                refine AW.cut [(101, 101)] [false, true, false, true, true] 5 (raftI4 r) ?_ ?_
                · skip
                  refine AW.region (At.start ?_)
                  refine At.a 4 ?_
                  by_cases h15 : r.role = 1
                  · refine At.sB 74 (r.role == 1) true (sayET h15) ?_
                    refine At.a 15 ?_
                    refine At.sB 5 true (raftI4 r) (congrArg V.bool (by grind [raftI4])) ?_
                    refine At.done rfl ⟨rfl, ?_⟩
                    exact Sub.cut [(101, 101)] [false, true, false, true, true] 5 _ (by kernel_rfl) (by kernel_rfl) (by kernel_rfl) (by kernel_rfl)
                  · refine At.sB 74 (r.role == 1) false (sayEF h15) ?_
                    refine At.a 5 ?_
                    by_cases h16 : r.hard.term ≥ 1
                    · refine At.sB 79 (decide (r.hard.term ≥ 1)) true (sayT h16) ?_
                      refine At.a 6 ?_
                      refine At.sI 85 (r.id + 1) (by omega) ?_
                      refine At.a 4 ?_
                      refine At.sB 5 (r.hard.vote == (r.id + 1)) (raftI4 r) (congrArg V.bool (by grind [raftI4])) ?_
                      refine At.done rfl ⟨rfl, ?_⟩
                      exact Sub.cut [(101, 101)] [false, true, false, true, true] 5 _ (by kernel_rfl) (by kernel_rfl) (by kernel_rfl) (by kernel_rfl)
                    · refine At.sB 79 (decide (r.hard.term ≥ 1)) false (sayF h16) ?_
                      refine At.a 10 ?_
                      refine At.sB 5 false (raftI4 r) (congrArg V.bool (by grind [raftI4])) ?_
                      refine At.done rfl ⟨rfl, ?_⟩
                      exact Sub.cut [(101, 101)] [false, true, false, true, true] 5 _ (by kernel_rfl) (by kernel_rfl) (by kernel_rfl) (by kernel_rfl)
                refine AW.r ?_
                refine At.a 2 ?_
                by_cases h17 : (raftI4 r) = true
                · refine At.sB 90 (raftI4 r) true (sayB h17) ?_
                  refine At.a 5 ?_
                  refine At.sI 95 ((r.hard.log.length : Int) + 1) (by omega) ?_
                  refine At.c (impl_numbersIn_spec  r.next 0 1 ((r.hard.log.length : Int) + 1) (by omega)) Try.call89 true [] [] [] trivial ?_
                  refine At.a 2 ?_
                  by_cases h18 : (allIn 1 ((r.hard.log.length : Int) + 1) r.next && ((r.next.length : Int) == 0)) = true
                  · refine At.sB 98 (allIn 1 ((r.hard.log.length : Int) + 1) r.next && ((r.next.length : Int) == 0)) true (sayB h18) ?_
                    refine At.a 4 ?_
                    refine At.c (impl_numbersIn_spec  r.match_ 0 0 (r.hard.log.length : Int) (by omega)) Try.call89 true [] [] [] trivial ?_
                    refine At.a 2 ?_
                    refine At.done rfl ?_
                    refine AW.ret ?_
                    refine ⟨_, Sub.refl _ _, ?_⟩
                    refine KF.conv (fun w => .bool w) (fun w => []) (show (allIn 0 (r.hard.log.length : Int) r.match_ && ((r.match_.length : Int) == 0)) = (raftOk r) from by grind [raft_all, raftOk3, allIn_zero]) ?_
                    exact KF.m [] [.bool (allIn 0 (r.hard.log.length : Int) r.match_ && ((r.match_.length : Int) == 0))]
                  · refine At.sB 98 (allIn 1 ((r.hard.log.length : Int) + 1) r.next && ((r.next.length : Int) == 0)) false (sayB (Bool.eq_false_iff.2 h18)) ?_
                    replace h18 := Bool.eq_false_iff.2 h18
                    refine At.a 7 ?_
                    refine At.done rfl ?_
                    refine AW.ret ?_
                    refine ⟨_, Sub.refl _ _, ?_⟩
                    refine KF.conv (fun w => .bool w) (fun w => []) (show (false) = (raftOk r) from by grind [raft_all, raftOk3, allIn_zero]) ?_
                    exact KF.m [] [.bool false]
                · refine At.sB 90 (raftI4 r) false (sayB (Bool.eq_false_iff.2 h17)) ?_
                  replace h17 := Bool.eq_false_iff.2 h17
                  refine At.a 15 ?_
                  refine At.done rfl ?_
                  refine AW.ret ?_
                  refine ⟨_, Sub.refl _ _, ?_⟩
                  refine KF.conv (fun w => .bool w) (fun w => []) (show (false) = (raftOk r) from by grind [raft_all, raftOk3, allIn_zero]) ?_
                  exact KF.m [] [.bool false]
        · refine At.sB 35 (!(hardOk r.hard)) true (sayNT (sayB (Bool.eq_false_iff.2 h4))) ?_
          replace h4 := Bool.eq_false_iff.2 h4
          refine At.a 6 ?_
          refine At.done rfl ?_
          refine AW.cond true (by kernel_rfl) (fun _ => ?_) (fun h => by cases h)
          refine AW.r ?_
          refine At.a 1 ?_
          refine At.done rfl ?_
          refine AW.ret ?_
          refine ⟨_, Sub.refl _ _, ?_⟩
          refine KF.conv (fun w => .bool w) (fun w => []) (show (false) = (raftOk r) from by grind [raft_all, raftOk3, allIn_zero]) ?_
          exact KF.m [] [.bool false]
      · refine At.sB 29 (!(inR r.role 1 3)) true (sayNT (sayB (Bool.eq_false_iff.2 h3))) ?_
        replace h3 := Bool.eq_false_iff.2 h3
        refine At.a 12 ?_
        refine At.done rfl ?_
        refine AW.cond true (by kernel_rfl) (fun _ => ?_) (fun h => by cases h)
        refine AW.r ?_
        refine At.a 1 ?_
        refine At.done rfl ?_
        refine AW.ret ?_
        refine ⟨_, Sub.refl _ _, ?_⟩
        refine KF.conv (fun w => .bool w) (fun w => []) (show (false) = (raftOk r) from by grind [raft_all, raftOk3, allIn_zero]) ?_
        exact KF.m [] [.bool false]
    · refine At.sB 23 (!(inR r.id 0 (r.of_ - 1))) true (sayNT (sayB (Bool.eq_false_iff.2 h2))) ?_
      replace h2 := Bool.eq_false_iff.2 h2
      refine At.a 18 ?_
      refine At.done rfl ?_
      refine AW.cond true (by kernel_rfl) (fun _ => ?_) (fun h => by cases h)
      refine AW.r ?_
      refine At.a 1 ?_
      refine At.done rfl ?_
      refine AW.ret ?_
      refine ⟨_, Sub.refl _ _, ?_⟩
      refine KF.conv (fun w => .bool w) (fun w => []) (show (false) = (raftOk r) from by grind [raft_all, raftOk3, allIn_zero]) ?_
      exact KF.m [] [.bool false]
  · refine At.sB 14 (!(ofOk r.of_)) true (sayNT (sayB (Bool.eq_false_iff.2 h1))) ?_
    replace h1 := Bool.eq_false_iff.2 h1
    refine At.a 27 ?_
    refine At.done rfl ?_
    refine AW.cond true (by kernel_rfl) (fun _ => ?_) (fun h => by cases h)
    refine AW.r ?_
    refine At.a 1 ?_
    refine At.done rfl ?_
    refine AW.ret ?_
    refine ⟨_, Sub.refl _ _, ?_⟩
    refine KF.conv (fun w => .bool w) (fun w => []) (show (false) = (raftOk r) from by grind [raft_all, raftOk3, allIn_zero]) ?_
    exact KF.m [] [.bool false]
end Go.Proofs.Ytlmadhahghiedaa
