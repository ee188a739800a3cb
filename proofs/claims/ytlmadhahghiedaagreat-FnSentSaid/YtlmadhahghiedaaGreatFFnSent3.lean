/- The contracts of the functions that FnSent reaches (each: what it answers, said over values), printed by a program of this session (wip/sy/g/gen.py). -/
import Derived.Test.YtlmadhahghiedaaGreatFFnSent2
set_option linter.unusedVariables false
set_option linter.unusedSimpArgs false
set_option maxRecDepth 100000
set_option maxHeartbeats 4000000
namespace Go.Proofs.YtlmadhahghiedaaGreat
open Go Go.Sy Go.Proofs
def K_spec_OnAsk (rs : List ResultVar) (r : Raft) (m : Msg) (w0_ : Raft) (w1_ : List Rec) (w2_ : List Out) : Exit → Sg → Prop := KF Tryz.prog 0 rs (.tup [.agg [.int .i64 w0_.id, .int .i64 w0_.of_, .int .i64 w0_.role, .int .i64 w0_.commit, .int .i64 w0_.hard.term, .int .i64 w0_.hard.vote, .ref 0, .ref 1, .ref 2, .ref 3], .ref 4, .ref 5]) [.arr 45 6 (w0_.hard.log.map encEnt), .arr 3 1 (w0_.yes.map encI), .arr 3 1 (w0_.next.map encI), .arr 3 1 (w0_.match_.map encI), .arr 47 10 (w1_.map encRec), .arr 51 17 (w2_.map encOut)]
theorem spec_OnAsk_spec  (r : Raft) (m : Msg) (hz : SmallR r) (hm : m.entries.length ≤ 1048576) : FnSpec Tryz.prog 37 [(raftA r), (msgA m)] [] (.tup [.agg [.int .i64 ((askR r m).id), .int .i64 ((askR r m).of_), .int .i64 ((askR r m).role), .int .i64 ((askR r m).commit), .int .i64 ((askR r m).hard.term), .int .i64 ((askR r m).hard.vote), .ref 0, .ref 1, .ref 2, .ref 3], .ref 4, .ref 5]) [.arr 45 6 (((askR r m).hard.log).map encEnt), .arr 3 1 (((askR r m).yes).map encI), .arr 3 1 (((askR r m).next).map encI), .arr 3 1 (((askR r m).match_).map encI), .arr 47 10 ((askRecs r m).map encRec), .arr 51 17 ((askOuts r m).map encOut)] := by
 obtain ⟨z1, z2, z3, z4⟩ := id hz
 refine FnSpec.of 123 Tryz.func37 rfl Tryz.ntmps37 (by simp) (AW.weakK ?_)
 by_cases hok : raftOk r = true
 · have hokn := raftOk1_nums (raftOk_1 hok)
   refine AW.q 5 ?_
   refine AW.seq ?_
   refine AW.weak (Sub.nils [⟨true, 104, some 6, 5001, 45, 6⟩, ⟨true, 104, some 7, 5002, 3, 1⟩, ⟨true, 104, some 8, 5003, 3, 1⟩, ⟨true, 104, some 9, 5004, 3, 1⟩] (by kernel_rfl)) ?_
   refine AW.g ?_
   refine At.a 1 ?_
   refine At.c (spec_l10Same_T_spec  r hz hok) Tryz.call97 true [] [(1300, 0), (1301, 1), (1302, 2), (1303, 3)] [] trivial ?_
   refine At.lit0 (t := 37) (d := 16) (e := 47) (es := 10) (bytes := 88) 116 (by kernel_rfl) (by kernel_rfl) (by kernel_rfl) (by kernel_rfl) ?_
   refine At.lit0 (t := 38) (d := 17) (e := 51) (es := 17) (bytes := 168) 117 (by kernel_rfl) (by kernel_rfl) (by kernel_rfl) (by kernel_rfl) ?_
   refine At.z 4 ?_
   refine AW.seq ?_
   refine AW.r ?_
   refine At.a 2 ?_
   refine At.c (spec_l10Hears_spec  r m 1 hz hm) Tryz.call108 true [] [] [] trivial ?_
   refine At.z 1 ?_
   refine AW.cNB (hears r m 1) (fun h1 => ?_) (fun h1 => ?_)
   · refine AW.q 6 ?_
     exact AW.ret (rf (k3 (K_spec_OnAsk _ r m) (show (r) = (askR r m) from by grind [askR, askRecs, askOuts, ask1, ask0, askYes, folT, same, voteRec, zEnt, zCmd, termAt_end]) (show ([]) = (askRecs r m) from by grind [askR, askRecs, askOuts, ask1, ask0, askYes, folT, same, voteRec, zEnt, zCmd, termAt_end]) (show ([]) = (askOuts r m) from by grind [askR, askRecs, askOuts, ask1, ask0, askYes, folT, same, voteRec, zEnt, zCmd, termAt_end]) (KF.n [(1300, 0), (1301, 1), (1302, 2), (1303, 3), (116, 4), (117, 5)])))
   have hhr := hears_ok h1
   refine AW.skip ?_
   refine AW.seq ?_
   refine AW.q 6 ?_
   refine AW.cD (m.term > r.hard.term) (fun h2 => ?_) (fun h2 => ?_)
   · refine AW.g ?_
     refine At.a 3 ?_
     refine At.c (spec_l10Follow_spec  r m.term ) Tryz.call109 true [(1300, 0), (1301, 1), (1302, 2), (1303, 3)] [(1680, 4), (1681, 5), (1682, 6)] [] trivial ?_
     refine At.z 1 ?_
     refine AW.r ?_
     refine At.a 1 ?_
     refine At.c (spec_l10End_spec  (⟨r.id, r.of_, 1, r.commit, ⟨m.term, 0, r.hard.log⟩, [], [], []⟩ : Raft) ) Tryz.call65 false [] [] [(1300, 6, (r.hard.log.map encEnt)), (1680, 1, []), (1681, 1, []), (1682, 1, [])] ⟨rfl, ⟨45, (r.hard.log.map encEnt), by kernel_rfl, FrzIs.same (allP_encEnt _)⟩, rfl, ⟨3, [], by kernel_rfl, FrzIs.same (fun _ h => by cases h)⟩, rfl, ⟨3, [], by kernel_rfl, FrzIs.same (fun _ h => by cases h)⟩, rfl, ⟨3, [], by kernel_rfl, FrzIs.same (fun _ h => by cases h)⟩, trivial⟩ ?_
     refine At.z 1 ?_
     refine AW.r ?_
     refine At.a 3 ?_
     refine At.c (spec_l10Term_spec  (⟨m.term, 0, r.hard.log⟩ : Hard) (r.hard.log.length : Int) (by omega)) Tryz.call115 false [] [] [(1300, 6, (r.hard.log.map encEnt))] ⟨rfl, ⟨45, (r.hard.log.map encEnt), by kernel_rfl, FrzIs.same (allP_encEnt _)⟩, trivial⟩ ?_
     refine At.z 1 ?_
     refine AW.seq ?_
     refine AW.cut [(102, 102), (103, 103), (104, 104), (107, 107), (116, 116), (117, 117), (1300, 1300), (1301, 1301), (1302, 1302), (1303, 1303), (1680, 1680), (1681, 1681), (1682, 1682), (5001, 5001), (5002, 5002), (5003, 5003), (5004, 5004)] [false, false, true, true, true, false, false, true, true, true] 12 (freshB r.hard.log m) ?_ ?_
     · refine AW.g ?_
       refine At.a 5 ?_
       by_cases h3 : m.atTerm > (termAt r.hard.log (r.hard.log.length : Int))
       · refine At.sB 45 _ _ (sayT h3) ?_
         refine At.a 12 ?_
         refine At.sB 12 true (freshB r.hard.log m) (congrArg V.bool (by grind [freshB, termAt_end])) ?_
         refine At.done rfl ⟨rfl, ?_⟩
         exact Sub.cut [(102, 102), (103, 103), (104, 104), (107, 107), (116, 116), (117, 117), (1300, 1300), (1301, 1301), (1302, 1302), (1303, 1303), (1680, 1680), (1681, 1681), (1682, 1682), (5001, 5001), (5002, 5002), (5003, 5003), (5004, 5004)] [false, false, true, true, true, false, false, true, true, true] 12 _ (by kernel_rfl) (by kernel_rfl) (by kernel_rfl) (by kernel_rfl)
       refine At.sB 45 _ _ (sayF h3) ?_
       refine At.a 5 ?_
       by_cases h4 : m.atTerm = termAt r.hard.log (r.hard.log.length : Int)
       · refine At.sB 50 _ _ (sayET h4) ?_
         refine At.a 7 ?_
         refine At.sB 12 (decide (m.at_ ≥ (r.hard.log.length : Int))) (freshB r.hard.log m) (congrArg V.bool (by grind [freshB, termAt_end])) ?_
         refine At.done rfl ⟨rfl, ?_⟩
         exact Sub.cut [(102, 102), (103, 103), (104, 104), (107, 107), (116, 116), (117, 117), (1300, 1300), (1301, 1301), (1302, 1302), (1303, 1303), (1680, 1680), (1681, 1681), (1682, 1682), (5001, 5001), (5002, 5002), (5003, 5003), (5004, 5004)] [false, false, true, true, true, false, false, true, true, true] 12 _ (by kernel_rfl) (by kernel_rfl) (by kernel_rfl) (by kernel_rfl)
       refine At.sB 50 _ _ (sayEF h4) ?_
       refine At.a 7 ?_
       refine At.sB 12 false (freshB r.hard.log m) (congrArg V.bool (by grind [freshB, termAt_end])) ?_
       refine At.done rfl ⟨rfl, ?_⟩
       exact Sub.cut [(102, 102), (103, 103), (104, 104), (107, 107), (116, 116), (117, 117), (1300, 1300), (1301, 1301), (1302, 1302), (1303, 1303), (1680, 1680), (1681, 1681), (1682, 1682), (5001, 5001), (5002, 5002), (5003, 5003), (5004, 5004)] [false, false, true, true, true, false, false, true, true, true] 12 _ (by kernel_rfl) (by kernel_rfl) (by kernel_rfl) (by kernel_rfl)
     refine AW.seq ?_
     refine AW.cut [(102, 102), (103, 103), (104, 104), (107, 107), (116, 116), (117, 117), (1300, 1300), (1301, 1301), (1302, 1302), (1303, 1303), (1680, 1680), (1681, 1681), (1682, 1682), (5001, 5001), (5002, 5002), (5003, 5003), (5004, 5004)] [false, false, true, true, true, false, false, true, true, true] 13 (yesB m.term 0 r.hard.log m) ?_ ?_
     · refine AW.g ?_
       refine At.a 7 ?_
       by_cases h5 : m.term = m.term
       · refine At.sB 63 _ _ (sayET h5) ?_
         refine At.a 5 ?_
         by_cases h6 : 0 = 0
         · refine At.sB 68 _ _ (sayET h6) ?_
           refine At.a 13 ?_
           refine At.sB 13 (freshB r.hard.log m) (yesB m.term 0 r.hard.log m) (congrArg V.bool (by grind [yesB])) ?_
           refine At.done rfl ⟨rfl, ?_⟩
           exact Sub.cut [(102, 102), (103, 103), (104, 104), (107, 107), (116, 116), (117, 117), (1300, 1300), (1301, 1301), (1302, 1302), (1303, 1303), (1680, 1680), (1681, 1681), (1682, 1682), (5001, 5001), (5002, 5002), (5003, 5003), (5004, 5004)] [false, false, true, true, true, false, false, true, true, true] 13 _ (by kernel_rfl) (by kernel_rfl) (by kernel_rfl) (by kernel_rfl)
         refine At.sB 68 _ _ (sayEF h6) ?_
         refine At.a 6 ?_
         refine At.sI 74 (m.from_ + 1) (by omega) ?_
         refine At.a 4 ?_
         by_cases h7 : 0 = m.from_ + 1
         · refine At.sB 78 _ _ (sayET h7) ?_
           refine At.a 3 ?_
           refine At.sB 13 (freshB r.hard.log m) (yesB m.term 0 r.hard.log m) (congrArg V.bool (by grind [yesB])) ?_
           refine At.done rfl ⟨rfl, ?_⟩
           exact Sub.cut [(102, 102), (103, 103), (104, 104), (107, 107), (116, 116), (117, 117), (1300, 1300), (1301, 1301), (1302, 1302), (1303, 1303), (1680, 1680), (1681, 1681), (1682, 1682), (5001, 5001), (5002, 5002), (5003, 5003), (5004, 5004)] [false, false, true, true, true, false, false, true, true, true] 13 _ (by kernel_rfl) (by kernel_rfl) (by kernel_rfl) (by kernel_rfl)
         refine At.sB 78 _ _ (sayEF h7) ?_
         refine At.a 3 ?_
         refine At.sB 13 false (yesB m.term 0 r.hard.log m) (congrArg V.bool (by grind [yesB])) ?_
         refine At.done rfl ⟨rfl, ?_⟩
         exact Sub.cut [(102, 102), (103, 103), (104, 104), (107, 107), (116, 116), (117, 117), (1300, 1300), (1301, 1301), (1302, 1302), (1303, 1303), (1680, 1680), (1681, 1681), (1682, 1682), (5001, 5001), (5002, 5002), (5003, 5003), (5004, 5004)] [false, false, true, true, true, false, false, true, true, true] 13 _ (by kernel_rfl) (by kernel_rfl) (by kernel_rfl) (by kernel_rfl)
       refine At.sB 63 _ _ (sayEF h5) ?_
       refine At.a 18 ?_
       refine At.sB 13 false (yesB m.term 0 r.hard.log m) (congrArg V.bool (by grind [yesB])) ?_
       refine At.done rfl ⟨rfl, ?_⟩
       exact Sub.cut [(102, 102), (103, 103), (104, 104), (107, 107), (116, 116), (117, 117), (1300, 1300), (1301, 1301), (1302, 1302), (1303, 1303), (1680, 1680), (1681, 1681), (1682, 1682), (5001, 5001), (5002, 5002), (5003, 5003), (5004, 5004)] [false, false, true, true, true, false, false, true, true, true] 13 _ (by kernel_rfl) (by kernel_rfl) (by kernel_rfl) (by kernel_rfl)
     refine AW.seq ?_
     refine AW.q 1 ?_
     refine AW.cB (yesB m.term 0 r.hard.log m) (fun h8 => ?_) (fun h8 => ?_)
     · refine AW.g ?_
       refine At.a 3 ?_
       refine At.sI 84 (m.from_ + 1) (by omega) ?_
       refine At.z 3 ?_
       refine AW.seq ?_
       refine AW.seq ?_
       refine AW.cut [(102, 102), (103, 103), (104, 104), (107, 107), (116, 116), (117, 117), (1300, 1300), (1301, 1301), (1302, 1302), (1303, 1303), (1680, 1680), (1681, 1681), (1682, 1682), (5001, 5001), (5002, 5002), (5003, 5003), (5004, 5004)] [false, false, true, true, true, false, false, true, true, true, false, false, false, true] 102 (chgB m.term (m.from_ + 1) r) ?_ ?_
       · refine AW.g ?_
         refine At.a 8 ?_
         by_cases h9 : m.term = r.hard.term
         · refine At.sB 94 _ _ (sayUF h9) ?_
           refine At.a 8 ?_
           refine At.sB 102 ((m.from_ + 1) != r.hard.vote) (chgB m.term (m.from_ + 1) r) (congrArg V.bool (by grind [chgB])) ?_
           refine At.done rfl ⟨rfl, ?_⟩
           exact Sub.cut [(102, 102), (103, 103), (104, 104), (107, 107), (116, 116), (117, 117), (1300, 1300), (1301, 1301), (1302, 1302), (1303, 1303), (1680, 1680), (1681, 1681), (1682, 1682), (5001, 5001), (5002, 5002), (5003, 5003), (5004, 5004)] [false, false, true, true, true, false, false, true, true, true, false, false, false, true] 102 _ (by kernel_rfl) (by kernel_rfl) (by kernel_rfl) (by kernel_rfl)
         refine At.sB 94 _ _ (sayUT h9) ?_
         refine At.a 8 ?_
         refine At.sB 102 true (chgB m.term (m.from_ + 1) r) (congrArg V.bool (by grind [chgB])) ?_
         refine At.done rfl ⟨rfl, ?_⟩
         exact Sub.cut [(102, 102), (103, 103), (104, 104), (107, 107), (116, 116), (117, 117), (1300, 1300), (1301, 1301), (1302, 1302), (1303, 1303), (1680, 1680), (1681, 1681), (1682, 1682), (5001, 5001), (5002, 5002), (5003, 5003), (5004, 5004)] [false, false, true, true, true, false, false, true, true, true, false, false, false, true] 102 _ (by kernel_rfl) (by kernel_rfl) (by kernel_rfl) (by kernel_rfl)
       refine AW.cB (chgB m.term (m.from_ + 1) r) (fun h10 => ?_) (fun h10 => ?_)
       · refine AW.g ?_
         refine At.a 2 ?_
         refine At.c (spec_l10Vote_spec  (⟨r.id, r.of_, 1, r.commit, ⟨m.term, m.from_ + 1, r.hard.log⟩, [], [], []⟩ : Raft) ) Tryz.call98 false [] [] [(1300, 6, (r.hard.log.map encEnt)), (1680, 1, []), (1681, 1, []), (1682, 1, [])] ⟨rfl, ⟨45, (r.hard.log.map encEnt), by kernel_rfl, FrzIs.same (allP_encEnt _)⟩, rfl, ⟨3, [], by kernel_rfl, FrzIs.same (fun _ h => by cases h)⟩, rfl, ⟨3, [], by kernel_rfl, FrzIs.same (fun _ h => by cases h)⟩, rfl, ⟨3, [], by kernel_rfl, FrzIs.same (fun _ h => by cases h)⟩, trivial⟩ ?_
         refine At.ll 106 47 10 206 (45, 6) (([(⟨1, m.term, (m.from_ + 1), 0, ⟨0, ⟨0, 0, 0, 0, (⟨#[]⟩ : ByteArray)⟩⟩⟩ : Rec)]).map encRec) ?_
         refine At.apK 107 47 10 88 207 116 206 encRec ([] : List Rec) ([(⟨1, m.term, (m.from_ + 1), 0, ⟨0, ⟨0, 0, 0, 0, (⟨#[]⟩ : ByteArray)⟩⟩⟩ : Rec)]) (by simp only [List.length_map, List.length_append, List.length_take, List.length_drop, List.length_replicate, List.length_set, List.length_cons, List.length_nil]; omega) ?_
         refine At.z 1 ?_
         refine AW.seq ?_
         refine AW.gD Tryz_mix ?_
         refine At.a 13 ?_
         refine At.ll 121 51 17 221 (45, 6) (([(⟨m.from_, ⟨2, r.id, m.term, 0, 0, 0, yesB m.term 0 r.hard.log m, 0, 0, (⟨#[]⟩ : ByteArray), ⟨0, 0, 0, 0, (⟨#[]⟩ : ByteArray)⟩, []⟩⟩ : Out)]).map encOut) ?_
         refine At.apK 122 51 17 168 222 117 221 encOut ([] : List Out) ([(⟨m.from_, ⟨2, r.id, m.term, 0, 0, 0, yesB m.term 0 r.hard.log m, 0, 0, (⟨#[]⟩ : ByteArray), ⟨0, 0, 0, 0, (⟨#[]⟩ : ByteArray)⟩, []⟩⟩ : Out)]) (by simp only [List.length_map, List.length_append, List.length_take, List.length_drop, List.length_replicate, List.length_set, List.length_cons, List.length_nil]; omega) ?_
         refine At.zD 3 ?_
         exact AW.ret (rf (k3 (K_spec_OnAsk _ r m) (show ((⟨r.id, r.of_, 1, r.commit, ⟨m.term, m.from_ + 1, r.hard.log⟩, [], [], []⟩ : Raft)) = (askR r m) from by grind [askR, askRecs, askOuts, ask1, ask0, askYes, folT, same, voteRec, zEnt, zCmd, termAt_end]) (show ([(⟨1, m.term, (m.from_ + 1), 0, ⟨0, ⟨0, 0, 0, 0, (⟨#[]⟩ : ByteArray)⟩⟩⟩ : Rec)]) = (askRecs r m) from by grind [askR, askRecs, askOuts, ask1, ask0, askYes, folT, same, voteRec, zEnt, zCmd, termAt_end]) (show ([(⟨m.from_, ⟨2, r.id, m.term, 0, 0, 0, yesB m.term 0 r.hard.log m, 0, 0, (⟨#[]⟩ : ByteArray), ⟨0, 0, 0, 0, (⟨#[]⟩ : ByteArray)⟩, []⟩⟩ : Out)]) = (askOuts r m) from by grind [askR, askRecs, askOuts, ask1, ask0, askYes, folT, same, voteRec, zEnt, zCmd, termAt_end]) (KF.n [(1300, 0), (1680, 1), (1681, 2), (1682, 3), (207, 4), (222, 5)])))
       refine AW.skip ?_
       refine AW.seq ?_
       refine AW.gD Tryz_mix ?_
       refine At.a 13 ?_
       refine At.ll 121 51 17 221 (45, 6) (([(⟨m.from_, ⟨2, r.id, m.term, 0, 0, 0, yesB m.term 0 r.hard.log m, 0, 0, (⟨#[]⟩ : ByteArray), ⟨0, 0, 0, 0, (⟨#[]⟩ : ByteArray)⟩, []⟩⟩ : Out)]).map encOut) ?_
       refine At.apK 122 51 17 168 222 117 221 encOut ([] : List Out) ([(⟨m.from_, ⟨2, r.id, m.term, 0, 0, 0, yesB m.term 0 r.hard.log m, 0, 0, (⟨#[]⟩ : ByteArray), ⟨0, 0, 0, 0, (⟨#[]⟩ : ByteArray)⟩, []⟩⟩ : Out)]) (by simp only [List.length_map, List.length_append, List.length_take, List.length_drop, List.length_replicate, List.length_set, List.length_cons, List.length_nil]; omega) ?_
       refine At.zD 3 ?_
       exact AW.ret (rf (k3 (K_spec_OnAsk _ r m) (show ((⟨r.id, r.of_, 1, r.commit, ⟨m.term, m.from_ + 1, r.hard.log⟩, [], [], []⟩ : Raft)) = (askR r m) from by grind [askR, askRecs, askOuts, ask1, ask0, askYes, folT, same, voteRec, zEnt, zCmd, termAt_end]) (show ([]) = (askRecs r m) from by grind [askR, askRecs, askOuts, ask1, ask0, askYes, folT, same, voteRec, zEnt, zCmd, termAt_end]) (show ([(⟨m.from_, ⟨2, r.id, m.term, 0, 0, 0, yesB m.term 0 r.hard.log m, 0, 0, (⟨#[]⟩ : ByteArray), ⟨0, 0, 0, 0, (⟨#[]⟩ : ByteArray)⟩, []⟩⟩ : Out)]) = (askOuts r m) from by grind [askR, askRecs, askOuts, ask1, ask0, askYes, folT, same, voteRec, zEnt, zCmd, termAt_end]) (KF.n [(1300, 0), (1680, 1), (1681, 2), (1682, 3), (116, 4), (222, 5)])))
     refine AW.skip ?_
     refine AW.seq ?_
     refine AW.seq ?_
     refine AW.cut [(102, 102), (103, 103), (104, 104), (107, 107), (116, 116), (117, 117), (1300, 1300), (1301, 1301), (1302, 1302), (1303, 1303), (1680, 1680), (1681, 1681), (1682, 1682), (5001, 5001), (5002, 5002), (5003, 5003), (5004, 5004)] [false, false, true, true, true, false, false, true, true, true, false, false, false, true] 102 (chgB m.term 0 r) ?_ ?_
     · refine AW.g ?_
       refine At.a 8 ?_
       by_cases h11 : m.term = r.hard.term
       · refine At.sB 94 _ _ (sayUF h11) ?_
         refine At.a 8 ?_
         refine At.sB 102 (0 != r.hard.vote) (chgB m.term 0 r) (congrArg V.bool (by grind [chgB])) ?_
         refine At.done rfl ⟨rfl, ?_⟩
         exact Sub.cut [(102, 102), (103, 103), (104, 104), (107, 107), (116, 116), (117, 117), (1300, 1300), (1301, 1301), (1302, 1302), (1303, 1303), (1680, 1680), (1681, 1681), (1682, 1682), (5001, 5001), (5002, 5002), (5003, 5003), (5004, 5004)] [false, false, true, true, true, false, false, true, true, true, false, false, false, true] 102 _ (by kernel_rfl) (by kernel_rfl) (by kernel_rfl) (by kernel_rfl)
       refine At.sB 94 _ _ (sayUT h11) ?_
       refine At.a 8 ?_
       refine At.sB 102 true (chgB m.term 0 r) (congrArg V.bool (by grind [chgB])) ?_
       refine At.done rfl ⟨rfl, ?_⟩
       exact Sub.cut [(102, 102), (103, 103), (104, 104), (107, 107), (116, 116), (117, 117), (1300, 1300), (1301, 1301), (1302, 1302), (1303, 1303), (1680, 1680), (1681, 1681), (1682, 1682), (5001, 5001), (5002, 5002), (5003, 5003), (5004, 5004)] [false, false, true, true, true, false, false, true, true, true, false, false, false, true] 102 _ (by kernel_rfl) (by kernel_rfl) (by kernel_rfl) (by kernel_rfl)
     refine AW.cB (chgB m.term 0 r) (fun h12 => ?_) (fun h12 => ?_)
     · refine AW.g ?_
       refine At.a 2 ?_
       refine At.c (spec_l10Vote_spec  (⟨r.id, r.of_, 1, r.commit, ⟨m.term, 0, r.hard.log⟩, [], [], []⟩ : Raft) ) Tryz.call98 false [] [] [(1300, 6, (r.hard.log.map encEnt)), (1680, 1, []), (1681, 1, []), (1682, 1, [])] ⟨rfl, ⟨45, (r.hard.log.map encEnt), by kernel_rfl, FrzIs.same (allP_encEnt _)⟩, rfl, ⟨3, [], by kernel_rfl, FrzIs.same (fun _ h => by cases h)⟩, rfl, ⟨3, [], by kernel_rfl, FrzIs.same (fun _ h => by cases h)⟩, rfl, ⟨3, [], by kernel_rfl, FrzIs.same (fun _ h => by cases h)⟩, trivial⟩ ?_
       refine At.ll 106 47 10 206 (45, 6) (([(⟨1, m.term, 0, 0, ⟨0, ⟨0, 0, 0, 0, (⟨#[]⟩ : ByteArray)⟩⟩⟩ : Rec)]).map encRec) ?_
       refine At.apK 107 47 10 88 207 116 206 encRec ([] : List Rec) ([(⟨1, m.term, 0, 0, ⟨0, ⟨0, 0, 0, 0, (⟨#[]⟩ : ByteArray)⟩⟩⟩ : Rec)]) (by simp only [List.length_map, List.length_append, List.length_take, List.length_drop, List.length_replicate, List.length_set, List.length_cons, List.length_nil]; omega) ?_
       refine At.z 1 ?_
       refine AW.seq ?_
       refine AW.gD Tryz_mix ?_
       refine At.a 13 ?_
       refine At.ll 121 51 17 221 (45, 6) (([(⟨m.from_, ⟨2, r.id, m.term, 0, 0, 0, yesB m.term 0 r.hard.log m, 0, 0, (⟨#[]⟩ : ByteArray), ⟨0, 0, 0, 0, (⟨#[]⟩ : ByteArray)⟩, []⟩⟩ : Out)]).map encOut) ?_
       refine At.apK 122 51 17 168 222 117 221 encOut ([] : List Out) ([(⟨m.from_, ⟨2, r.id, m.term, 0, 0, 0, yesB m.term 0 r.hard.log m, 0, 0, (⟨#[]⟩ : ByteArray), ⟨0, 0, 0, 0, (⟨#[]⟩ : ByteArray)⟩, []⟩⟩ : Out)]) (by simp only [List.length_map, List.length_append, List.length_take, List.length_drop, List.length_replicate, List.length_set, List.length_cons, List.length_nil]; omega) ?_
       refine At.zD 3 ?_
       exact AW.ret (rf (k3 (K_spec_OnAsk _ r m) (show ((⟨r.id, r.of_, 1, r.commit, ⟨m.term, 0, r.hard.log⟩, [], [], []⟩ : Raft)) = (askR r m) from by grind [askR, askRecs, askOuts, ask1, ask0, askYes, folT, same, voteRec, zEnt, zCmd, termAt_end]) (show ([(⟨1, m.term, 0, 0, ⟨0, ⟨0, 0, 0, 0, (⟨#[]⟩ : ByteArray)⟩⟩⟩ : Rec)]) = (askRecs r m) from by grind [askR, askRecs, askOuts, ask1, ask0, askYes, folT, same, voteRec, zEnt, zCmd, termAt_end]) (show ([(⟨m.from_, ⟨2, r.id, m.term, 0, 0, 0, yesB m.term 0 r.hard.log m, 0, 0, (⟨#[]⟩ : ByteArray), ⟨0, 0, 0, 0, (⟨#[]⟩ : ByteArray)⟩, []⟩⟩ : Out)]) = (askOuts r m) from by grind [askR, askRecs, askOuts, ask1, ask0, askYes, folT, same, voteRec, zEnt, zCmd, termAt_end]) (KF.n [(1300, 0), (1680, 1), (1681, 2), (1682, 3), (207, 4), (222, 5)])))
     refine AW.skip ?_
     refine AW.seq ?_
     refine AW.gD Tryz_mix ?_
     refine At.a 13 ?_
     refine At.ll 121 51 17 221 (45, 6) (([(⟨m.from_, ⟨2, r.id, m.term, 0, 0, 0, yesB m.term 0 r.hard.log m, 0, 0, (⟨#[]⟩ : ByteArray), ⟨0, 0, 0, 0, (⟨#[]⟩ : ByteArray)⟩, []⟩⟩ : Out)]).map encOut) ?_
     refine At.apK 122 51 17 168 222 117 221 encOut ([] : List Out) ([(⟨m.from_, ⟨2, r.id, m.term, 0, 0, 0, yesB m.term 0 r.hard.log m, 0, 0, (⟨#[]⟩ : ByteArray), ⟨0, 0, 0, 0, (⟨#[]⟩ : ByteArray)⟩, []⟩⟩ : Out)]) (by simp only [List.length_map, List.length_append, List.length_take, List.length_drop, List.length_replicate, List.length_set, List.length_cons, List.length_nil]; omega) ?_
     refine At.zD 3 ?_
     exact AW.ret (rf (k3 (K_spec_OnAsk _ r m) (show ((⟨r.id, r.of_, 1, r.commit, ⟨m.term, 0, r.hard.log⟩, [], [], []⟩ : Raft)) = (askR r m) from by grind [askR, askRecs, askOuts, ask1, ask0, askYes, folT, same, voteRec, zEnt, zCmd, termAt_end]) (show ([]) = (askRecs r m) from by grind [askR, askRecs, askOuts, ask1, ask0, askYes, folT, same, voteRec, zEnt, zCmd, termAt_end]) (show ([(⟨m.from_, ⟨2, r.id, m.term, 0, 0, 0, yesB m.term 0 r.hard.log m, 0, 0, (⟨#[]⟩ : ByteArray), ⟨0, 0, 0, 0, (⟨#[]⟩ : ByteArray)⟩, []⟩⟩ : Out)]) = (askOuts r m) from by grind [askR, askRecs, askOuts, ask1, ask0, askYes, folT, same, voteRec, zEnt, zCmd, termAt_end]) (KF.n [(1300, 0), (1680, 1), (1681, 2), (1682, 3), (116, 4), (222, 5)])))
   refine AW.skip ?_
   refine AW.r ?_
   refine At.a 1 ?_
   refine At.c (spec_l10End_spec  r ) Tryz.call65 false [] [] [(1300, 6, (r.hard.log.map encEnt)), (1301, 1, (r.yes.map encI)), (1302, 1, (r.next.map encI)), (1303, 1, (r.match_.map encI))] ⟨rfl, ⟨45, (r.hard.log.map encEnt), by kernel_rfl, FrzIs.same (allP_encEnt _)⟩, rfl, ⟨3, (r.yes.map encI), by kernel_rfl, FrzIs.same (allP_encI _)⟩, rfl, ⟨3, (r.next.map encI), by kernel_rfl, FrzIs.same (allP_encI _)⟩, rfl, ⟨3, (r.match_.map encI), by kernel_rfl, FrzIs.same (allP_encI _)⟩, trivial⟩ ?_
   refine At.z 1 ?_
   refine AW.r ?_
   refine At.a 3 ?_
   refine At.c (spec_l10Term_spec  r.hard (r.hard.log.length : Int) (by omega)) Tryz.call115 false [] [] [(1300, 6, (r.hard.log.map encEnt))] ⟨rfl, ⟨45, (r.hard.log.map encEnt), by kernel_rfl, FrzIs.same (allP_encEnt _)⟩, trivial⟩ ?_
   refine At.z 1 ?_
   refine AW.seq ?_
   refine AW.cut [(102, 102), (103, 103), (104, 104), (107, 107), (116, 116), (117, 117), (1300, 1300), (1301, 1301), (1302, 1302), (1303, 1303), (5001, 5001), (5002, 5002), (5003, 5003), (5004, 5004)] [false, false, true, true, true, false, false, true, true, true] 12 (freshB r.hard.log m) ?_ ?_
   · refine AW.g ?_
     refine At.a 5 ?_
     by_cases h13 : m.atTerm > (termAt r.hard.log (r.hard.log.length : Int))
     · refine At.sB 45 _ _ (sayT h13) ?_
       refine At.a 12 ?_
       refine At.sB 12 true (freshB r.hard.log m) (congrArg V.bool (by grind [freshB, termAt_end])) ?_
       refine At.done rfl ⟨rfl, ?_⟩
       exact Sub.cut [(102, 102), (103, 103), (104, 104), (107, 107), (116, 116), (117, 117), (1300, 1300), (1301, 1301), (1302, 1302), (1303, 1303), (5001, 5001), (5002, 5002), (5003, 5003), (5004, 5004)] [false, false, true, true, true, false, false, true, true, true] 12 _ (by kernel_rfl) (by kernel_rfl) (by kernel_rfl) (by kernel_rfl)
     refine At.sB 45 _ _ (sayF h13) ?_
     refine At.a 5 ?_
     by_cases h14 : m.atTerm = termAt r.hard.log (r.hard.log.length : Int)
     · refine At.sB 50 _ _ (sayET h14) ?_
       refine At.a 7 ?_
       refine At.sB 12 (decide (m.at_ ≥ (r.hard.log.length : Int))) (freshB r.hard.log m) (congrArg V.bool (by grind [freshB, termAt_end])) ?_
       refine At.done rfl ⟨rfl, ?_⟩
       exact Sub.cut [(102, 102), (103, 103), (104, 104), (107, 107), (116, 116), (117, 117), (1300, 1300), (1301, 1301), (1302, 1302), (1303, 1303), (5001, 5001), (5002, 5002), (5003, 5003), (5004, 5004)] [false, false, true, true, true, false, false, true, true, true] 12 _ (by kernel_rfl) (by kernel_rfl) (by kernel_rfl) (by kernel_rfl)
     refine At.sB 50 _ _ (sayEF h14) ?_
     refine At.a 7 ?_
     refine At.sB 12 false (freshB r.hard.log m) (congrArg V.bool (by grind [freshB, termAt_end])) ?_
     refine At.done rfl ⟨rfl, ?_⟩
     exact Sub.cut [(102, 102), (103, 103), (104, 104), (107, 107), (116, 116), (117, 117), (1300, 1300), (1301, 1301), (1302, 1302), (1303, 1303), (5001, 5001), (5002, 5002), (5003, 5003), (5004, 5004)] [false, false, true, true, true, false, false, true, true, true] 12 _ (by kernel_rfl) (by kernel_rfl) (by kernel_rfl) (by kernel_rfl)
   refine AW.seq ?_
   refine AW.cut [(102, 102), (103, 103), (104, 104), (107, 107), (116, 116), (117, 117), (1300, 1300), (1301, 1301), (1302, 1302), (1303, 1303), (5001, 5001), (5002, 5002), (5003, 5003), (5004, 5004)] [false, false, true, true, true, false, false, true, true, true] 13 (yesB r.hard.term r.hard.vote r.hard.log m) ?_ ?_
   · refine AW.g ?_
     refine At.a 7 ?_
     by_cases h15 : m.term = r.hard.term
     · refine At.sB 63 _ _ (sayET h15) ?_
       refine At.a 5 ?_
       by_cases h16 : r.hard.vote = 0
       · refine At.sB 68 _ _ (sayET h16) ?_
         refine At.a 13 ?_
         refine At.sB 13 (freshB r.hard.log m) (yesB r.hard.term r.hard.vote r.hard.log m) (congrArg V.bool (by grind [yesB])) ?_
         refine At.done rfl ⟨rfl, ?_⟩
         exact Sub.cut [(102, 102), (103, 103), (104, 104), (107, 107), (116, 116), (117, 117), (1300, 1300), (1301, 1301), (1302, 1302), (1303, 1303), (5001, 5001), (5002, 5002), (5003, 5003), (5004, 5004)] [false, false, true, true, true, false, false, true, true, true] 13 _ (by kernel_rfl) (by kernel_rfl) (by kernel_rfl) (by kernel_rfl)
       refine At.sB 68 _ _ (sayEF h16) ?_
       refine At.a 6 ?_
       refine At.sI 74 (m.from_ + 1) (by omega) ?_
       refine At.a 4 ?_
       by_cases h17 : r.hard.vote = m.from_ + 1
       · refine At.sB 78 _ _ (sayET h17) ?_
         refine At.a 3 ?_
         refine At.sB 13 (freshB r.hard.log m) (yesB r.hard.term r.hard.vote r.hard.log m) (congrArg V.bool (by grind [yesB])) ?_
         refine At.done rfl ⟨rfl, ?_⟩
         exact Sub.cut [(102, 102), (103, 103), (104, 104), (107, 107), (116, 116), (117, 117), (1300, 1300), (1301, 1301), (1302, 1302), (1303, 1303), (5001, 5001), (5002, 5002), (5003, 5003), (5004, 5004)] [false, false, true, true, true, false, false, true, true, true] 13 _ (by kernel_rfl) (by kernel_rfl) (by kernel_rfl) (by kernel_rfl)
       refine At.sB 78 _ _ (sayEF h17) ?_
       refine At.a 3 ?_
       refine At.sB 13 false (yesB r.hard.term r.hard.vote r.hard.log m) (congrArg V.bool (by grind [yesB])) ?_
       refine At.done rfl ⟨rfl, ?_⟩
       exact Sub.cut [(102, 102), (103, 103), (104, 104), (107, 107), (116, 116), (117, 117), (1300, 1300), (1301, 1301), (1302, 1302), (1303, 1303), (5001, 5001), (5002, 5002), (5003, 5003), (5004, 5004)] [false, false, true, true, true, false, false, true, true, true] 13 _ (by kernel_rfl) (by kernel_rfl) (by kernel_rfl) (by kernel_rfl)
     refine At.sB 63 _ _ (sayEF h15) ?_
     refine At.a 18 ?_
     refine At.sB 13 false (yesB r.hard.term r.hard.vote r.hard.log m) (congrArg V.bool (by grind [yesB])) ?_
     refine At.done rfl ⟨rfl, ?_⟩
     exact Sub.cut [(102, 102), (103, 103), (104, 104), (107, 107), (116, 116), (117, 117), (1300, 1300), (1301, 1301), (1302, 1302), (1303, 1303), (5001, 5001), (5002, 5002), (5003, 5003), (5004, 5004)] [false, false, true, true, true, false, false, true, true, true] 13 _ (by kernel_rfl) (by kernel_rfl) (by kernel_rfl) (by kernel_rfl)
   refine AW.seq ?_
   refine AW.q 1 ?_
   refine AW.cB (yesB r.hard.term r.hard.vote r.hard.log m) (fun h18 => ?_) (fun h18 => ?_)
   · refine AW.g ?_
     refine At.a 3 ?_
     refine At.sI 84 (m.from_ + 1) (by omega) ?_
     refine At.z 3 ?_
     refine AW.seq ?_
     refine AW.seq ?_
     refine AW.cut [(102, 102), (103, 103), (104, 104), (107, 107), (116, 116), (117, 117), (1300, 1300), (1301, 1301), (1302, 1302), (1303, 1303), (5001, 5001), (5002, 5002), (5003, 5003), (5004, 5004)] [false, false, true, true, true, false, false, true, true, true, false, false, false, true] 102 (chgB r.hard.term (m.from_ + 1) r) ?_ ?_
     · refine AW.g ?_
       refine At.a 8 ?_
       by_cases h19 : r.hard.term = r.hard.term
       · refine At.sB 94 _ _ (sayUF h19) ?_
         refine At.a 8 ?_
         refine At.sB 102 ((m.from_ + 1) != r.hard.vote) (chgB r.hard.term (m.from_ + 1) r) (congrArg V.bool (by grind [chgB])) ?_
         refine At.done rfl ⟨rfl, ?_⟩
         exact Sub.cut [(102, 102), (103, 103), (104, 104), (107, 107), (116, 116), (117, 117), (1300, 1300), (1301, 1301), (1302, 1302), (1303, 1303), (5001, 5001), (5002, 5002), (5003, 5003), (5004, 5004)] [false, false, true, true, true, false, false, true, true, true, false, false, false, true] 102 _ (by kernel_rfl) (by kernel_rfl) (by kernel_rfl) (by kernel_rfl)
       refine At.sB 94 _ _ (sayUT h19) ?_
       refine At.a 8 ?_
       refine At.sB 102 true (chgB r.hard.term (m.from_ + 1) r) (congrArg V.bool (by grind [chgB])) ?_
       refine At.done rfl ⟨rfl, ?_⟩
       exact Sub.cut [(102, 102), (103, 103), (104, 104), (107, 107), (116, 116), (117, 117), (1300, 1300), (1301, 1301), (1302, 1302), (1303, 1303), (5001, 5001), (5002, 5002), (5003, 5003), (5004, 5004)] [false, false, true, true, true, false, false, true, true, true, false, false, false, true] 102 _ (by kernel_rfl) (by kernel_rfl) (by kernel_rfl) (by kernel_rfl)
     refine AW.cB (chgB r.hard.term (m.from_ + 1) r) (fun h20 => ?_) (fun h20 => ?_)
     · refine AW.g ?_
       refine At.a 2 ?_
       refine At.c (spec_l10Vote_spec  (⟨r.id, r.of_, r.role, r.commit, ⟨r.hard.term, m.from_ + 1, r.hard.log⟩, r.yes, r.next, r.match_⟩ : Raft) ) Tryz.call98 false [] [] [(1300, 6, (r.hard.log.map encEnt)), (1301, 1, (r.yes.map encI)), (1302, 1, (r.next.map encI)), (1303, 1, (r.match_.map encI))] ⟨rfl, ⟨45, (r.hard.log.map encEnt), by kernel_rfl, FrzIs.same (allP_encEnt _)⟩, rfl, ⟨3, (r.yes.map encI), by kernel_rfl, FrzIs.same (allP_encI _)⟩, rfl, ⟨3, (r.next.map encI), by kernel_rfl, FrzIs.same (allP_encI _)⟩, rfl, ⟨3, (r.match_.map encI), by kernel_rfl, FrzIs.same (allP_encI _)⟩, trivial⟩ ?_
       refine At.ll 106 47 10 206 (45, 6) (([(⟨1, r.hard.term, (m.from_ + 1), 0, ⟨0, ⟨0, 0, 0, 0, (⟨#[]⟩ : ByteArray)⟩⟩⟩ : Rec)]).map encRec) ?_
       refine At.apK 107 47 10 88 207 116 206 encRec ([] : List Rec) ([(⟨1, r.hard.term, (m.from_ + 1), 0, ⟨0, ⟨0, 0, 0, 0, (⟨#[]⟩ : ByteArray)⟩⟩⟩ : Rec)]) (by simp only [List.length_map, List.length_append, List.length_take, List.length_drop, List.length_replicate, List.length_set, List.length_cons, List.length_nil]; omega) ?_
       refine At.z 1 ?_
       refine AW.seq ?_
       refine AW.gD Tryz_mix ?_
       refine At.a 13 ?_
       refine At.ll 121 51 17 221 (45, 6) (([(⟨m.from_, ⟨2, r.id, r.hard.term, 0, 0, 0, yesB r.hard.term r.hard.vote r.hard.log m, 0, 0, (⟨#[]⟩ : ByteArray), ⟨0, 0, 0, 0, (⟨#[]⟩ : ByteArray)⟩, []⟩⟩ : Out)]).map encOut) ?_
       refine At.apK 122 51 17 168 222 117 221 encOut ([] : List Out) ([(⟨m.from_, ⟨2, r.id, r.hard.term, 0, 0, 0, yesB r.hard.term r.hard.vote r.hard.log m, 0, 0, (⟨#[]⟩ : ByteArray), ⟨0, 0, 0, 0, (⟨#[]⟩ : ByteArray)⟩, []⟩⟩ : Out)]) (by simp only [List.length_map, List.length_append, List.length_take, List.length_drop, List.length_replicate, List.length_set, List.length_cons, List.length_nil]; omega) ?_
       refine At.zD 3 ?_
       exact AW.ret (rf (k3 (K_spec_OnAsk _ r m) (show ((⟨r.id, r.of_, r.role, r.commit, ⟨r.hard.term, m.from_ + 1, r.hard.log⟩, r.yes, r.next, r.match_⟩ : Raft)) = (askR r m) from by grind [askR, askRecs, askOuts, ask1, ask0, askYes, folT, same, voteRec, zEnt, zCmd, termAt_end]) (show ([(⟨1, r.hard.term, (m.from_ + 1), 0, ⟨0, ⟨0, 0, 0, 0, (⟨#[]⟩ : ByteArray)⟩⟩⟩ : Rec)]) = (askRecs r m) from by grind [askR, askRecs, askOuts, ask1, ask0, askYes, folT, same, voteRec, zEnt, zCmd, termAt_end]) (show ([(⟨m.from_, ⟨2, r.id, r.hard.term, 0, 0, 0, yesB r.hard.term r.hard.vote r.hard.log m, 0, 0, (⟨#[]⟩ : ByteArray), ⟨0, 0, 0, 0, (⟨#[]⟩ : ByteArray)⟩, []⟩⟩ : Out)]) = (askOuts r m) from by grind [askR, askRecs, askOuts, ask1, ask0, askYes, folT, same, voteRec, zEnt, zCmd, termAt_end]) (KF.n [(1300, 0), (1301, 1), (1302, 2), (1303, 3), (207, 4), (222, 5)])))
     refine AW.skip ?_
     refine AW.seq ?_
     refine AW.gD Tryz_mix ?_
     refine At.a 13 ?_
     refine At.ll 121 51 17 221 (45, 6) (([(⟨m.from_, ⟨2, r.id, r.hard.term, 0, 0, 0, yesB r.hard.term r.hard.vote r.hard.log m, 0, 0, (⟨#[]⟩ : ByteArray), ⟨0, 0, 0, 0, (⟨#[]⟩ : ByteArray)⟩, []⟩⟩ : Out)]).map encOut) ?_
     refine At.apK 122 51 17 168 222 117 221 encOut ([] : List Out) ([(⟨m.from_, ⟨2, r.id, r.hard.term, 0, 0, 0, yesB r.hard.term r.hard.vote r.hard.log m, 0, 0, (⟨#[]⟩ : ByteArray), ⟨0, 0, 0, 0, (⟨#[]⟩ : ByteArray)⟩, []⟩⟩ : Out)]) (by simp only [List.length_map, List.length_append, List.length_take, List.length_drop, List.length_replicate, List.length_set, List.length_cons, List.length_nil]; omega) ?_
     refine At.zD 3 ?_
     exact AW.ret (rf (k3 (K_spec_OnAsk _ r m) (show ((⟨r.id, r.of_, r.role, r.commit, ⟨r.hard.term, m.from_ + 1, r.hard.log⟩, r.yes, r.next, r.match_⟩ : Raft)) = (askR r m) from by grind [askR, askRecs, askOuts, ask1, ask0, askYes, folT, same, voteRec, zEnt, zCmd, termAt_end]) (show ([]) = (askRecs r m) from by grind [askR, askRecs, askOuts, ask1, ask0, askYes, folT, same, voteRec, zEnt, zCmd, termAt_end]) (show ([(⟨m.from_, ⟨2, r.id, r.hard.term, 0, 0, 0, yesB r.hard.term r.hard.vote r.hard.log m, 0, 0, (⟨#[]⟩ : ByteArray), ⟨0, 0, 0, 0, (⟨#[]⟩ : ByteArray)⟩, []⟩⟩ : Out)]) = (askOuts r m) from by grind [askR, askRecs, askOuts, ask1, ask0, askYes, folT, same, voteRec, zEnt, zCmd, termAt_end]) (KF.n [(1300, 0), (1301, 1), (1302, 2), (1303, 3), (116, 4), (222, 5)])))
   refine AW.skip ?_
   refine AW.seq ?_
   refine AW.seq ?_
   refine AW.cut [(102, 102), (103, 103), (104, 104), (107, 107), (116, 116), (117, 117), (1300, 1300), (1301, 1301), (1302, 1302), (1303, 1303), (5001, 5001), (5002, 5002), (5003, 5003), (5004, 5004)] [false, false, true, true, true, false, false, true, true, true, false, false, false, true] 102 (chgB r.hard.term r.hard.vote r) ?_ ?_
   · refine AW.g ?_
     refine At.a 8 ?_
     by_cases h21 : r.hard.term = r.hard.term
     · refine At.sB 94 _ _ (sayUF h21) ?_
       refine At.a 8 ?_
       refine At.sB 102 (r.hard.vote != r.hard.vote) (chgB r.hard.term r.hard.vote r) (congrArg V.bool (by grind [chgB])) ?_
       refine At.done rfl ⟨rfl, ?_⟩
       exact Sub.cut [(102, 102), (103, 103), (104, 104), (107, 107), (116, 116), (117, 117), (1300, 1300), (1301, 1301), (1302, 1302), (1303, 1303), (5001, 5001), (5002, 5002), (5003, 5003), (5004, 5004)] [false, false, true, true, true, false, false, true, true, true, false, false, false, true] 102 _ (by kernel_rfl) (by kernel_rfl) (by kernel_rfl) (by kernel_rfl)
     refine At.sB 94 _ _ (sayUT h21) ?_
     refine At.a 8 ?_
     refine At.sB 102 true (chgB r.hard.term r.hard.vote r) (congrArg V.bool (by grind [chgB])) ?_
     refine At.done rfl ⟨rfl, ?_⟩
     exact Sub.cut [(102, 102), (103, 103), (104, 104), (107, 107), (116, 116), (117, 117), (1300, 1300), (1301, 1301), (1302, 1302), (1303, 1303), (5001, 5001), (5002, 5002), (5003, 5003), (5004, 5004)] [false, false, true, true, true, false, false, true, true, true, false, false, false, true] 102 _ (by kernel_rfl) (by kernel_rfl) (by kernel_rfl) (by kernel_rfl)
   refine AW.cB (chgB r.hard.term r.hard.vote r) (fun h22 => ?_) (fun h22 => ?_)
   · refine AW.g ?_
     refine At.a 2 ?_
     refine At.c (spec_l10Vote_spec  r ) Tryz.call98 false [] [] [(1300, 6, (r.hard.log.map encEnt)), (1301, 1, (r.yes.map encI)), (1302, 1, (r.next.map encI)), (1303, 1, (r.match_.map encI))] ⟨rfl, ⟨45, (r.hard.log.map encEnt), by kernel_rfl, FrzIs.same (allP_encEnt _)⟩, rfl, ⟨3, (r.yes.map encI), by kernel_rfl, FrzIs.same (allP_encI _)⟩, rfl, ⟨3, (r.next.map encI), by kernel_rfl, FrzIs.same (allP_encI _)⟩, rfl, ⟨3, (r.match_.map encI), by kernel_rfl, FrzIs.same (allP_encI _)⟩, trivial⟩ ?_
     refine At.ll 106 47 10 206 (45, 6) (([(⟨1, r.hard.term, r.hard.vote, 0, ⟨0, ⟨0, 0, 0, 0, (⟨#[]⟩ : ByteArray)⟩⟩⟩ : Rec)]).map encRec) ?_
     refine At.apK 107 47 10 88 207 116 206 encRec ([] : List Rec) ([(⟨1, r.hard.term, r.hard.vote, 0, ⟨0, ⟨0, 0, 0, 0, (⟨#[]⟩ : ByteArray)⟩⟩⟩ : Rec)]) (by simp only [List.length_map, List.length_append, List.length_take, List.length_drop, List.length_replicate, List.length_set, List.length_cons, List.length_nil]; omega) ?_
     refine At.z 1 ?_
     refine AW.seq ?_
     refine AW.gD Tryz_mix ?_
     refine At.a 13 ?_
     refine At.ll 121 51 17 221 (45, 6) (([(⟨m.from_, ⟨2, r.id, r.hard.term, 0, 0, 0, yesB r.hard.term r.hard.vote r.hard.log m, 0, 0, (⟨#[]⟩ : ByteArray), ⟨0, 0, 0, 0, (⟨#[]⟩ : ByteArray)⟩, []⟩⟩ : Out)]).map encOut) ?_
     refine At.apK 122 51 17 168 222 117 221 encOut ([] : List Out) ([(⟨m.from_, ⟨2, r.id, r.hard.term, 0, 0, 0, yesB r.hard.term r.hard.vote r.hard.log m, 0, 0, (⟨#[]⟩ : ByteArray), ⟨0, 0, 0, 0, (⟨#[]⟩ : ByteArray)⟩, []⟩⟩ : Out)]) (by simp only [List.length_map, List.length_append, List.length_take, List.length_drop, List.length_replicate, List.length_set, List.length_cons, List.length_nil]; omega) ?_
     refine At.zD 3 ?_
     exact AW.ret (rf (k3 (K_spec_OnAsk _ r m) (show (r) = (askR r m) from by grind [askR, askRecs, askOuts, ask1, ask0, askYes, folT, same, voteRec, zEnt, zCmd, termAt_end]) (show ([(⟨1, r.hard.term, r.hard.vote, 0, ⟨0, ⟨0, 0, 0, 0, (⟨#[]⟩ : ByteArray)⟩⟩⟩ : Rec)]) = (askRecs r m) from by grind [askR, askRecs, askOuts, ask1, ask0, askYes, folT, same, voteRec, zEnt, zCmd, termAt_end]) (show ([(⟨m.from_, ⟨2, r.id, r.hard.term, 0, 0, 0, yesB r.hard.term r.hard.vote r.hard.log m, 0, 0, (⟨#[]⟩ : ByteArray), ⟨0, 0, 0, 0, (⟨#[]⟩ : ByteArray)⟩, []⟩⟩ : Out)]) = (askOuts r m) from by grind [askR, askRecs, askOuts, ask1, ask0, askYes, folT, same, voteRec, zEnt, zCmd, termAt_end]) (KF.n [(1300, 0), (1301, 1), (1302, 2), (1303, 3), (207, 4), (222, 5)])))
   refine AW.skip ?_
   refine AW.seq ?_
   refine AW.gD Tryz_mix ?_
   refine At.a 13 ?_
   refine At.ll 121 51 17 221 (45, 6) (([(⟨m.from_, ⟨2, r.id, r.hard.term, 0, 0, 0, yesB r.hard.term r.hard.vote r.hard.log m, 0, 0, (⟨#[]⟩ : ByteArray), ⟨0, 0, 0, 0, (⟨#[]⟩ : ByteArray)⟩, []⟩⟩ : Out)]).map encOut) ?_
   refine At.apK 122 51 17 168 222 117 221 encOut ([] : List Out) ([(⟨m.from_, ⟨2, r.id, r.hard.term, 0, 0, 0, yesB r.hard.term r.hard.vote r.hard.log m, 0, 0, (⟨#[]⟩ : ByteArray), ⟨0, 0, 0, 0, (⟨#[]⟩ : ByteArray)⟩, []⟩⟩ : Out)]) (by simp only [List.length_map, List.length_append, List.length_take, List.length_drop, List.length_replicate, List.length_set, List.length_cons, List.length_nil]; omega) ?_
   refine At.zD 3 ?_
   exact AW.ret (rf (k3 (K_spec_OnAsk _ r m) (show (r) = (askR r m) from by grind [askR, askRecs, askOuts, ask1, ask0, askYes, folT, same, voteRec, zEnt, zCmd, termAt_end]) (show ([]) = (askRecs r m) from by grind [askR, askRecs, askOuts, ask1, ask0, askYes, folT, same, voteRec, zEnt, zCmd, termAt_end]) (show ([(⟨m.from_, ⟨2, r.id, r.hard.term, 0, 0, 0, yesB r.hard.term r.hard.vote r.hard.log m, 0, 0, (⟨#[]⟩ : ByteArray), ⟨0, 0, 0, 0, (⟨#[]⟩ : ByteArray)⟩, []⟩⟩ : Out)]) = (askOuts r m) from by grind [askR, askRecs, askOuts, ask1, ask0, askYes, folT, same, voteRec, zEnt, zCmd, termAt_end]) (KF.n [(1300, 0), (1301, 1), (1302, 2), (1303, 3), (116, 4), (222, 5)])))
 refine AW.q 5 ?_
 refine AW.seq ?_
 refine AW.weak (Sub.nils [⟨true, 104, some 6, 5001, 45, 6⟩, ⟨true, 104, some 7, 5002, 3, 1⟩, ⟨true, 104, some 8, 5003, 3, 1⟩, ⟨true, 104, some 9, 5004, 3, 1⟩] (by kernel_rfl)) ?_
 refine AW.g ?_
 refine At.a 1 ?_
 refine At.c (spec_l10Same_F_spec  r hz hok) Tryz.call97 true [] [(1300, 0), (1301, 1), (1302, 2), (1303, 3)] [] trivial ?_
 refine At.lit0 (t := 37) (d := 16) (e := 47) (es := 10) (bytes := 88) 116 (by kernel_rfl) (by kernel_rfl) (by kernel_rfl) (by kernel_rfl) ?_
 refine At.lit0 (t := 38) (d := 17) (e := 51) (es := 17) (bytes := 168) 117 (by kernel_rfl) (by kernel_rfl) (by kernel_rfl) (by kernel_rfl) ?_
 refine At.z 4 ?_
 refine AW.seq ?_
 refine AW.r ?_
 refine At.a 2 ?_
 refine At.c (spec_l10Hears_spec  r m 1 hz hm) Tryz.call108 true [] [] [] trivial ?_
 refine At.z 1 ?_
 refine AW.condT (!(hears r m 1)) (by kernel_rfl) (by rw [show (hears r m 1) = false from (hears_no hok)]; rfl) ?_
 refine AW.q 6 ?_
 exact AW.ret (rf (k3 (K_spec_OnAsk _ r m) (show ((⟨0, 0, 0, 0, ⟨0, 0, []⟩, [], [], []⟩ : Raft)) = (askR r m) from by simp [askR, askRecs, askOuts, same, hok, hears_no hok]; try rfl) (show ([]) = (askRecs r m) from by simp [askR, askRecs, askOuts, same, hok, hears_no hok]; try rfl) (show ([]) = (askOuts r m) from by simp [askR, askRecs, askOuts, same, hok, hears_no hok]; try rfl) (KF.n [(1300, 0), (1301, 1), (1302, 2), (1303, 3), (116, 4), (117, 5)])))
theorem spec_l7Put_spec  (list : List Int) (v : Int) (hl : list.length ≤ 1000) (hs : list.Pairwise (· < ·)) : FnSpec Tryz.prog 139 [.sl false 1 (list.map encI), .int .i64 v] [] (.ref 0) [.arr 3 1 ((putA v list).map encI)] := by
 refine FnSpec.of 49 Tryz.func139 rfl Tryz.ntmps139 (by simp) (AW.weakK ?_)
 refine AW.q 1 ?_
 refine AW.r ?_
 refine At.lit0 (t := 27) (d := 8) (e := 3) (es := 1) (bytes := 8) 108 (by kernel_rfl) (by kernel_rfl) (by kernel_rfl) (by kernel_rfl) ?_
 refine At.z 1 ?_
 refine AW.q 1 ?_
 refine AW.seq ?_
 refine AW.q 1 ?_
 refine AW.block ?_
 refine AW.loopW (fun (x : Nat × Bool × List Int) => match x with | (k, d, o) => Go.Sy.mk [.sl false 1 (list.map encI), .int .i64 v, .un, .un, .un, .ref 108, .bool d, .int .i64 (k : Int)] [(108, .arr 3 1 (o.map encI))]) (fun (x : Nat × Bool × List Int) => match x with | (k, d, o) => (k ≤ list.length ∧ o.length ≤ 2 * k) ∧ l7G v false list = o ++ l7G v d (list.drop k)) (fun (x : Nat × Bool × List Int) => match x with | (k, d, o) => list.length - k) (0, false, []) ⟨by simp, by rw [List.drop_zero]; rfl⟩ (Sub.o [(108, 108)] [true, true, false, false, false, true, true, true]) ?_
 rintro ⟨k, d, o⟩ ⟨hk, hR⟩
 refine AW.seq ?_
 refine AW.r ?_
 refine At.a 3 ?_
 refine At.sL 11 encI list ?_
 refine At.z 1 ?_
 refine AW.cD ((k : Int) < (list.length : Int)) (fun h1 => ?_) (fun h1 => ?_)
 · refine AW.skip ?_
   refine AW.seq ?_
   refine AW.block ?_
   refine AW.seq ?_
   refine AW.r ?_
   refine At.a 3 ?_
   by_cases h2 : d = true
   · refine At.sB 17 (!d) false (sayNF (sayB h2)) ?_
     refine At.z 7 ?_
     refine AW.cond false (by kernel_rfl) (fun h => by cases h) (fun _ => ?_)
     refine AW.skip ?_
     refine AW.r ?_
     refine At.a 2 ?_
     refine At.iSl 27 31 (.tmp 29) (.tmp 30) false 1 (list.map encI) .i64 (k : Int) 3 (by omega) (by simp only [List.length_map]; omega) ?_
     refine Exists.elim (gE list k (by omega)) fun e1 he1 => ?_
     refine At.lVp 3 32 (.tmp 31) false 1 (list.map encI) k 0 false 1 (encI e1) (.int .i64 e1) (mapGet he1) ?_
     refine At.z 2 ?_
     refine AW.cU e1 v (fun h3 => ?_) (fun h3 => ?_)
     · refine AW.g ?_
       refine At.a 3 ?_
       refine At.iSl 27 38 (.tmp 36) (.tmp 37) false 1 (list.map encI) .i64 (k : Int) 3 (by omega) (by simp only [List.length_map]; omega) ?_
       refine At.lVp 3 39 (.tmp 38) false 1 (list.map encI) k 0 false 1 (encI e1) (.int .i64 e1) (mapGet he1) ?_
       refine At.ll 40 3 1 140 (45, 6) (([e1]).map encI) ?_
       refine At.apK 41 3 1 8 141 108 140 encI o ([e1]) (by simp only [List.length_map, List.length_append, List.length_take, List.length_drop, List.length_replicate, List.length_set, List.length_cons, List.length_nil]; omega) ?_
       refine At.z 1 ?_
       refine AW.g ?_
       refine At.a 2 ?_
       refine At.sI 14 ((k : Int) + 1) (by omega) ?_
       refine At.z 1 ?_
       exact ⟨(k + 1, d, (o ++ ([e1]))), ⟨by simp only [List.length_append, List.length_cons, List.length_nil]; omega, by rw [hR, dropCons (by assumption), l7G]; simp [h1, h2, h3]⟩, (by simp only; omega), Sub.o [(141, 108)] [true, true, false, false, false, true, true, true]⟩
     refine AW.skip ?_
     refine AW.g ?_
     refine At.a 2 ?_
     refine At.sI 14 ((k : Int) + 1) (by omega) ?_
     refine At.z 1 ?_
     exact ⟨(k + 1, d, o), ⟨by omega, by rw [hR, dropCons (by assumption), l7G]; simp [h1, h2, h3]⟩, (by simp only; omega), Sub.o [(108, 108)] [true, true, false, false, false, true, true, true]⟩
   refine At.sB 17 (!d) true (sayNT (sayB (Bool.eq_false_iff.2 h2))) ?_
   replace h2 := Bool.eq_false_iff.2 h2
   refine At.a 2 ?_
   refine At.iSl 27 20 (.tmp 18) (.tmp 19) false 1 (list.map encI) .i64 (k : Int) 3 (by omega) (by simp only [List.length_map]; omega) ?_
   refine Exists.elim (gE list k (by omega)) fun e2 he2 => ?_
   refine At.lVp 3 21 (.tmp 20) false 1 (list.map encI) k 0 false 1 (encI e2) (.int .i64 e2) (mapGet he2) ?_
   refine At.z 3 ?_
   refine AW.cD (e2 ≥ v) (fun h4 => ?_) (fun h4 => ?_)
   · refine AW.r ?_
     refine At.a 2 ?_
     refine At.ll 27 3 1 127 (45, 6) (([v]).map encI) ?_
     refine At.apK 28 3 1 8 128 108 127 encI o ([v]) (by simp only [List.length_map, List.length_append, List.length_take, List.length_drop, List.length_replicate, List.length_set, List.length_cons, List.length_nil]; omega) ?_
     refine At.z 1 ?_
     refine AW.gq 1 ?_
     refine AW.r ?_
     refine At.a 2 ?_
     refine At.iSl 27 31 (.tmp 29) (.tmp 30) false 1 (list.map encI) .i64 (k : Int) 3 (by omega) (by simp only [List.length_map]; omega) ?_
     refine At.lVp 3 32 (.tmp 31) false 1 (list.map encI) k 0 false 1 (encI e2) (.int .i64 e2) (mapGet he2) ?_
     refine At.z 2 ?_
     refine AW.cU e2 v (fun h5 => ?_) (fun h5 => ?_)
     · refine AW.g ?_
       refine At.a 3 ?_
       refine At.iSl 27 38 (.tmp 36) (.tmp 37) false 1 (list.map encI) .i64 (k : Int) 3 (by omega) (by simp only [List.length_map]; omega) ?_
       refine At.lVp 3 39 (.tmp 38) false 1 (list.map encI) k 0 false 1 (encI e2) (.int .i64 e2) (mapGet he2) ?_
       refine At.ll 40 3 1 140 (45, 6) (([e2]).map encI) ?_
       refine At.apK 41 3 1 8 141 128 140 encI (o ++ ([v])) ([e2]) (by simp only [List.length_map, List.length_append, List.length_take, List.length_drop, List.length_replicate, List.length_set, List.length_cons, List.length_nil]; omega) ?_
       refine At.z 1 ?_
       refine AW.g ?_
       refine At.a 2 ?_
       refine At.sI 14 ((k : Int) + 1) (by omega) ?_
       refine At.z 1 ?_
       exact ⟨(k + 1, true, ((o ++ ([v])) ++ ([e2]))), ⟨by simp only [List.length_append, List.length_cons, List.length_nil]; omega, by rw [hR, dropCons (by assumption), l7G]; simp [h1, h2, h4, h5]⟩, (by simp only; omega), Sub.o [(141, 108)] [true, true, false, false, false, true, true, true]⟩
     refine AW.skip ?_
     refine AW.g ?_
     refine At.a 2 ?_
     refine At.sI 14 ((k : Int) + 1) (by omega) ?_
     refine At.z 1 ?_
     exact ⟨(k + 1, true, (o ++ ([v]))), ⟨by simp only [List.length_append, List.length_cons, List.length_nil]; omega, by rw [hR, dropCons (by assumption), l7G]; simp [h1, h2, h4, h5]⟩, (by simp only; omega), Sub.o [(128, 108)] [true, true, false, false, false, true, true, true]⟩
   refine AW.skip ?_
   refine AW.r ?_
   refine At.a 2 ?_
   refine At.iSl 27 31 (.tmp 29) (.tmp 30) false 1 (list.map encI) .i64 (k : Int) 3 (by omega) (by simp only [List.length_map]; omega) ?_
   refine At.lVp 3 32 (.tmp 31) false 1 (list.map encI) k 0 false 1 (encI e2) (.int .i64 e2) (mapGet he2) ?_
   refine At.z 2 ?_
   refine AW.cU e2 v (fun h6 => ?_) (fun h6 => ?_)
   · refine AW.g ?_
     refine At.a 3 ?_
     refine At.iSl 27 38 (.tmp 36) (.tmp 37) false 1 (list.map encI) .i64 (k : Int) 3 (by omega) (by simp only [List.length_map]; omega) ?_
     refine At.lVp 3 39 (.tmp 38) false 1 (list.map encI) k 0 false 1 (encI e2) (.int .i64 e2) (mapGet he2) ?_
     refine At.ll 40 3 1 140 (45, 6) (([e2]).map encI) ?_
     refine At.apK 41 3 1 8 141 108 140 encI o ([e2]) (by simp only [List.length_map, List.length_append, List.length_take, List.length_drop, List.length_replicate, List.length_set, List.length_cons, List.length_nil]; omega) ?_
     refine At.z 1 ?_
     refine AW.g ?_
     refine At.a 2 ?_
     refine At.sI 14 ((k : Int) + 1) (by omega) ?_
     refine At.z 1 ?_
     exact ⟨(k + 1, d, (o ++ ([e2]))), ⟨by simp only [List.length_append, List.length_cons, List.length_nil]; omega, by rw [hR, dropCons (by assumption), l7G]; simp [h1, h2, h4, h6]⟩, (by simp only; omega), Sub.o [(141, 108)] [true, true, false, false, false, true, true, true]⟩
   refine AW.skip ?_
   refine AW.g ?_
   refine At.a 2 ?_
   refine At.sI 14 ((k : Int) + 1) (by omega) ?_
   refine At.z 1 ?_
   exact ⟨(k + 1, d, o), ⟨by omega, by exfalso; omega⟩, (by simp only; omega), Sub.o [(108, 108)] [true, true, false, false, false, true, true, true]⟩
 refine AW.exit ?_
 refine AW.seq ?_
 refine AW.q 2 ?_
 refine AW.cNB (d) (fun h7 => ?_) (fun h7 => ?_)
 · refine AW.g ?_
   refine At.a 2 ?_
   refine At.ll 46 3 1 146 (45, 6) (([v]).map encI) ?_
   refine At.apK 47 3 1 8 147 108 146 encI o ([v]) (by simp only [List.length_map, List.length_append, List.length_take, List.length_drop, List.length_replicate, List.length_set, List.length_cons, List.length_nil]; omega) ?_
   refine At.z 1 ?_
   refine AW.q 2 ?_
   refine AW.ret ?_
   refine ⟨_, Sub.refl _ _, ?_⟩
   refine KF.conv (fun w => .ref 0) (fun w => [.arr 3 1 (w.map encI)]) (show (o ++ ([v])) = (putA v list) from by rw [← l7G_put list hs, hR, List.drop_of_length_le (by omega), l7G]; simp [h1, h7]) ?_
   exact KF.n [(147, 0)]
 refine AW.skip ?_
 refine AW.q 2 ?_
 refine AW.ret ?_
 refine ⟨_, Sub.refl _ _, ?_⟩
 refine KF.conv (fun w => .ref 0) (fun w => [.arr 3 1 (w.map encI)]) (show (o) = (putA v list) from by rw [← l7G_put list hs, hR, List.drop_of_length_le (by omega), l7G]; simp [h1, h7]) ?_
 exact KF.n [(108, 0)]
def K_spec_OnYes (rs : List ResultVar) (r : Raft) (m : Msg) (w0_ : Raft) (w1_ : List Rec) (w2_ : List Out) : Exit → Sg → Prop := KF Tryz.prog 0 rs (.tup [.agg [.int .i64 w0_.id, .int .i64 w0_.of_, .int .i64 w0_.role, .int .i64 w0_.commit, .int .i64 w0_.hard.term, .int .i64 w0_.hard.vote, .ref 0, .ref 1, .ref 2, .ref 3], .ref 4, .ref 5]) [.arr 45 6 (w0_.hard.log.map encEnt), .arr 3 1 (w0_.yes.map encI), .arr 3 1 (w0_.next.map encI), .arr 3 1 (w0_.match_.map encI), .arr 47 10 (w1_.map encRec), .arr 51 17 (w2_.map encOut)]
theorem spec_OnYes_spec  (r : Raft) (m : Msg) (hz : SmallR r) (hm : m.entries.length ≤ 1048576) : FnSpec Tryz.prog 54 [(raftA r), (msgA m)] [] (.tup [.agg [.int .i64 (((yess r m).1).id), .int .i64 (((yess r m).1).of_), .int .i64 (((yess r m).1).role), .int .i64 (((yess r m).1).commit), .int .i64 (((yess r m).1).hard.term), .int .i64 (((yess r m).1).hard.vote), .ref 0, .ref 1, .ref 2, .ref 3], .ref 4, .ref 5]) [.arr 45 6 ((((yess r m).1).hard.log).map encEnt), .arr 3 1 ((((yess r m).1).yes).map encI), .arr 3 1 ((((yess r m).1).next).map encI), .arr 3 1 ((((yess r m).1).match_).map encI), .arr 47 10 (((yess r m).2.1).map encRec), .arr 51 17 (((yess r m).2.2).map encOut)] := by
 obtain ⟨z1, z2, z3, z4⟩ := id hz
 refine FnSpec.of 80 Tryz.func54 rfl Tryz.ntmps54 (by simp) (AW.weakK ?_)
 by_cases hok : raftOk r = true
 · have hokn := raftOk1_nums (raftOk_1 hok)
   refine AW.q 5 ?_
   refine AW.seq ?_
   refine AW.weak (Sub.nils [⟨true, 104, some 6, 5001, 45, 6⟩, ⟨true, 104, some 7, 5002, 3, 1⟩, ⟨true, 104, some 8, 5003, 3, 1⟩, ⟨true, 104, some 9, 5004, 3, 1⟩] (by kernel_rfl)) ?_
   refine AW.g ?_
   refine At.a 1 ?_
   refine At.c (spec_l10Same_T_spec  r (by exact hz) hok) Tryz.call97 true [] [(1220, 0), (1221, 1), (1222, 2), (1223, 3)] [] trivial ?_
   refine At.lit0 (t := 37) (d := 12) (e := 47) (es := 10) (bytes := 88) 112 (by kernel_rfl) (by kernel_rfl) (by kernel_rfl) (by kernel_rfl) ?_
   refine At.lit0 (t := 38) (d := 13) (e := 51) (es := 17) (bytes := 168) 113 (by kernel_rfl) (by kernel_rfl) (by kernel_rfl) (by kernel_rfl) ?_
   refine At.z 4 ?_
   refine AW.seq ?_
   refine AW.r ?_
   refine At.a 2 ?_
   refine At.c (spec_l10Hears_spec  r m 2 (by exact hz) hm) Tryz.call108 true [] [] [] trivial ?_
   refine At.z 1 ?_
   refine AW.cNB (hears r m 2) (fun h1 => ?_) (fun h1 => ?_)
   · refine AW.q 6 ?_
     exact AW.ret (rf (k3 (K_spec_OnYes _ r m) (show (r) = ((yess r m).1) from by rw [yess_un (by assumption) hok]; first | done | rfl | (simp only [leadRecs]; rw [if_neg (by assumption)]; done) | (rw [endRecs_ne (by dsimp only; omega)]; rfl) | (rw [endRecs_eq rfl rfl]; done) | (rw [endRecs_eq rfl rfl]; rfl) | (rw [endRecs_eq (by dsimp only; exact leadR_term _) (by dsimp only; exact leadR_vote _)]; first | done | rfl) | (simp only [leadR, if_neg (by assumption)]; rfl) | (rw [endRecs_eq (by dsimp only; first | rfl | exact leadR_term _) (by dsimp only; first | rfl | exact leadR_vote _)]; first | done | rfl)) (show ([]) = ((yess r m).2.1) from by rw [yess_un (by assumption) hok]; first | done | rfl | (simp only [leadRecs]; rw [if_neg (by assumption)]; done) | (rw [endRecs_ne (by dsimp only; omega)]; rfl) | (rw [endRecs_eq rfl rfl]; done) | (rw [endRecs_eq rfl rfl]; rfl) | (rw [endRecs_eq (by dsimp only; exact leadR_term _) (by dsimp only; exact leadR_vote _)]; first | done | rfl) | (simp only [leadR, if_neg (by assumption)]; rfl) | (rw [endRecs_eq (by dsimp only; first | rfl | exact leadR_term _) (by dsimp only; first | rfl | exact leadR_vote _)]; first | done | rfl)) (show ([]) = ((yess r m).2.2) from by rw [yess_un (by assumption) hok]; first | done | rfl | (simp only [leadRecs]; rw [if_neg (by assumption)]; done) | (rw [endRecs_ne (by dsimp only; omega)]; rfl) | (rw [endRecs_eq rfl rfl]; done) | (rw [endRecs_eq rfl rfl]; rfl) | (rw [endRecs_eq (by dsimp only; exact leadR_term _) (by dsimp only; exact leadR_vote _)]; first | done | rfl) | (simp only [leadR, if_neg (by assumption)]; rfl) | (rw [endRecs_eq (by dsimp only; first | rfl | exact leadR_term _) (by dsimp only; first | rfl | exact leadR_vote _)]; first | done | rfl)) (KF.n [(1220, 0), (1221, 1), (1222, 2), (1223, 3), (112, 4), (113, 5)])))
   have hhr := hears_ok h1
   have hnu := msgFits_nums hhr.2.1
   have hpy := raftOk_pair hok
   have hpl := putA_len m.from_ r.yes
   refine AW.skip ?_
   refine AW.seq ?_
   refine AW.q 6 ?_
   refine AW.cD (m.term > r.hard.term) (fun h2 => ?_) (fun h2 => ?_)
   · refine AW.r ?_
     refine At.a 3 ?_
     refine At.c (spec_l10Follow_spec  r m.term ) Tryz.call109 true [(1220, 0), (1221, 1), (1222, 2), (1223, 3)] [(1600, 4), (1601, 5), (1602, 6)] [] trivial ?_
     refine At.z 1 ?_
     refine AW.seq ?_
     refine AW.gD Tryz_mix ?_
     refine At.a 3 ?_
     refine At.c (spec_l10Vote_spec  (⟨r.id, r.of_, 1, r.commit, ⟨m.term, 0, r.hard.log⟩, [], [], []⟩ : Raft) ) Tryz.call98 false [] [] [(1220, 6, (r.hard.log.map encEnt)), (1600, 1, []), (1601, 1, []), (1602, 1, [])] ⟨rfl, ⟨45, (r.hard.log.map encEnt), by kernel_rfl, FrzIs.same (allP_encEnt _)⟩, rfl, ⟨3, [], by kernel_rfl, FrzIs.same (fun _ h => by cases h)⟩, rfl, ⟨3, [], by kernel_rfl, FrzIs.same (fun _ h => by cases h)⟩, rfl, ⟨3, [], by kernel_rfl, FrzIs.same (fun _ h => by cases h)⟩, trivial⟩ ?_
     refine At.ll 35 47 10 135 (45, 6) (([(⟨1, m.term, 0, 0, ⟨0, ⟨0, 0, 0, 0, (⟨#[]⟩ : ByteArray)⟩⟩⟩ : Rec)]).map encRec) ?_
     refine At.apK 36 47 10 88 136 112 135 encRec ([] : List Rec) ([(⟨1, m.term, 0, 0, ⟨0, ⟨0, 0, 0, 0, (⟨#[]⟩ : ByteArray)⟩⟩⟩ : Rec)]) (by simp only [List.length_map, List.length_append, List.length_take, List.length_drop, List.length_replicate, List.length_set, List.length_cons, List.length_nil]; omega) ?_
     refine At.zD 4 ?_
     exact AW.ret (rf (k3 (K_spec_OnYes _ r m) (show ((⟨r.id, r.of_, 1, r.commit, ⟨m.term, 0, r.hard.log⟩, [], [], []⟩ : Raft)) = ((yess r m).1) from by rw [yess_term h1 (by omega)]; first | done | rfl | (simp only [leadRecs]; rw [if_neg (by assumption)]; done) | (rw [endRecs_ne (by dsimp only; omega)]; rfl) | (rw [endRecs_eq rfl rfl]; done) | (rw [endRecs_eq rfl rfl]; rfl) | (rw [endRecs_eq (by dsimp only; exact leadR_term _) (by dsimp only; exact leadR_vote _)]; first | done | rfl) | (simp only [leadR, if_neg (by assumption)]; rfl) | (rw [endRecs_eq (by dsimp only; first | rfl | exact leadR_term _) (by dsimp only; first | rfl | exact leadR_vote _)]; first | done | rfl)) (show ([(⟨1, m.term, 0, 0, ⟨0, ⟨0, 0, 0, 0, (⟨#[]⟩ : ByteArray)⟩⟩⟩ : Rec)]) = ((yess r m).2.1) from by rw [yess_term h1 (by omega)]; first | done | rfl | (simp only [leadRecs]; rw [if_neg (by assumption)]; done) | (rw [endRecs_ne (by dsimp only; omega)]; rfl) | (rw [endRecs_eq rfl rfl]; done) | (rw [endRecs_eq rfl rfl]; rfl) | (rw [endRecs_eq (by dsimp only; exact leadR_term _) (by dsimp only; exact leadR_vote _)]; first | done | rfl) | (simp only [leadR, if_neg (by assumption)]; rfl) | (rw [endRecs_eq (by dsimp only; first | rfl | exact leadR_term _) (by dsimp only; first | rfl | exact leadR_vote _)]; first | done | rfl)) (show ([]) = ((yess r m).2.2) from by rw [yess_term h1 (by omega)]; first | done | rfl | (simp only [leadRecs]; rw [if_neg (by assumption)]; done) | (rw [endRecs_ne (by dsimp only; omega)]; rfl) | (rw [endRecs_eq rfl rfl]; done) | (rw [endRecs_eq rfl rfl]; rfl) | (rw [endRecs_eq (by dsimp only; exact leadR_term _) (by dsimp only; exact leadR_vote _)]; first | done | rfl) | (simp only [leadR, if_neg (by assumption)]; rfl) | (rw [endRecs_eq (by dsimp only; first | rfl | exact leadR_term _) (by dsimp only; first | rfl | exact leadR_vote _)]; first | done | rfl)) (KF.n [(1220, 0), (1600, 1), (1601, 2), (1602, 3), (136, 4), (113, 5)])))
   refine AW.skip ?_
   refine AW.seq ?_
   refine AW.r ?_
   refine At.a 4 ?_
   by_cases h3 : r.role = 2
   · refine At.sB 41 _ _ (sayUF h3) ?_
     refine At.a 8 ?_
     by_cases h4 : m.term = r.hard.term
     · refine At.sB 49 _ _ (sayUF h4) ?_
       refine At.z 4 ?_
       refine AW.cNB (m.yes) (fun h5 => ?_) (fun h5 => ?_)
       · refine AW.q 6 ?_
         exact AW.ret (rf (k3 (K_spec_OnYes _ r m) (show (r) = ((yess r m).1) from by rw [yess_not h1 (by omega) (by first | exact .inl (by omega) | exact .inr (.inl (by omega)) | exact .inr (.inr (by assumption)))]; first | done | rfl | (simp only [leadRecs]; rw [if_neg (by assumption)]; done) | (rw [endRecs_ne (by dsimp only; omega)]; rfl) | (rw [endRecs_eq rfl rfl]; done) | (rw [endRecs_eq rfl rfl]; rfl) | (rw [endRecs_eq (by dsimp only; exact leadR_term _) (by dsimp only; exact leadR_vote _)]; first | done | rfl) | (simp only [leadR, if_neg (by assumption)]; rfl) | (rw [endRecs_eq (by dsimp only; first | rfl | exact leadR_term _) (by dsimp only; first | rfl | exact leadR_vote _)]; first | done | rfl)) (show ([]) = ((yess r m).2.1) from by rw [yess_not h1 (by omega) (by first | exact .inl (by omega) | exact .inr (.inl (by omega)) | exact .inr (.inr (by assumption)))]; first | done | rfl | (simp only [leadRecs]; rw [if_neg (by assumption)]; done) | (rw [endRecs_ne (by dsimp only; omega)]; rfl) | (rw [endRecs_eq rfl rfl]; done) | (rw [endRecs_eq rfl rfl]; rfl) | (rw [endRecs_eq (by dsimp only; exact leadR_term _) (by dsimp only; exact leadR_vote _)]; first | done | rfl) | (simp only [leadR, if_neg (by assumption)]; rfl) | (rw [endRecs_eq (by dsimp only; first | rfl | exact leadR_term _) (by dsimp only; first | rfl | exact leadR_vote _)]; first | done | rfl)) (show ([]) = ((yess r m).2.2) from by rw [yess_not h1 (by omega) (by first | exact .inl (by omega) | exact .inr (.inl (by omega)) | exact .inr (.inr (by assumption)))]; first | done | rfl | (simp only [leadRecs]; rw [if_neg (by assumption)]; done) | (rw [endRecs_ne (by dsimp only; omega)]; rfl) | (rw [endRecs_eq rfl rfl]; done) | (rw [endRecs_eq rfl rfl]; rfl) | (rw [endRecs_eq (by dsimp only; exact leadR_term _) (by dsimp only; exact leadR_vote _)]; first | done | rfl) | (simp only [leadR, if_neg (by assumption)]; rfl) | (rw [endRecs_eq (by dsimp only; first | rfl | exact leadR_term _) (by dsimp only; first | rfl | exact leadR_vote _)]; first | done | rfl)) (KF.n [(1220, 0), (1221, 1), (1222, 2), (1223, 3), (112, 4), (113, 5)])))
       refine AW.skip ?_
       refine AW.r ?_
       refine At.a 4 ?_
       refine At.c (spec_l7Put_spec  r.yes m.from_ (by omega) hpy.1) Tryz.call139 false [] [(2220, 0)] [(1221, 1, (r.yes.map encI))] ⟨rfl, ⟨3, (r.yes.map encI), by kernel_rfl, FrzIs.same (allP_encI _)⟩, trivial⟩ ?_
       refine At.z 2 ?_
       refine AW.seq ?_
       refine AW.r ?_
       refine At.a 3 ?_
       refine At.sL 65 encI (putA m.from_ r.yes) ?_
       refine At.a 1 ?_
       refine At.sI 66 (((putA m.from_ r.yes).length : Int) + 1) (by omega) ?_
       refine At.a 1 ?_
       refine At.sI 67 (2 * (((putA m.from_ r.yes).length : Int) + 1)) (by omega) ?_
       refine At.z 3 ?_
       refine AW.cD ((2 * (((putA m.from_ r.yes).length : Int) + 1)) > r.of_) (fun h6 => ?_) (fun h6 => ?_)
       · refine AW.r ?_
         refine At.a 2 ?_
         by_cases h7 : r.hard.log.length < 80
         · refine At.c (spec_l10Lead_T_spec  (⟨r.id, r.of_, r.role, r.commit, r.hard, putA m.from_ r.yes, r.next, r.match_⟩ : Raft) ([]) (by have q := putA_len m.from_ (putA m.from_ r.yes); unfold SmallR; dsimp only; omega) (by dsimp only; omega) (by dsimp only; omega) (by simp; done) h7) Tryz.call99 true [(1220, 0), (2220, 1), (1222, 2), (1223, 3), (112, 4)] [(2460, 5), (2461, 6), (2462, 7), (2463, 8), (2464, 9), (2465, 10)] [] trivial ?_
           refine At.z 6 ?_
           exact AW.ret (rf (k3 (K_spec_OnYes _ r m) (show ((leadR (⟨r.id, r.of_, r.role, r.commit, r.hard, putA m.from_ r.yes, r.next, r.match_⟩ : Raft))) = ((yess r m).1) from by rw [yess_lead h1 (by omega) (by omega) (by omega) (by assumption) (by first | omega | (rw [hpa]; omega) | (rw [← hpa]; omega))]; first | first | done | rfl | (simp only [leadRecs]; rw [if_neg (by assumption)]; done) | (rw [endRecs_ne (by dsimp only; omega)]; rfl) | (rw [endRecs_eq rfl rfl]; done) | (rw [endRecs_eq rfl rfl]; rfl) | (rw [endRecs_eq (by dsimp only; exact leadR_term _) (by dsimp only; exact leadR_vote _)]; first | done | rfl) | (simp only [leadR, if_neg (by assumption)]; rfl) | (rw [endRecs_eq (by dsimp only; first | rfl | exact leadR_term _) (by dsimp only; first | rfl | exact leadR_vote _)]; first | done | rfl) | (rw [hpa]; first | done | rfl | (simp only [leadRecs]; rw [if_neg (by assumption)]; done) | (rw [endRecs_ne (by dsimp only; omega)]; rfl) | (rw [endRecs_eq rfl rfl]; done) | (rw [endRecs_eq rfl rfl]; rfl) | (rw [endRecs_eq (by dsimp only; exact leadR_term _) (by dsimp only; exact leadR_vote _)]; first | done | rfl) | (simp only [leadR, if_neg (by assumption)]; rfl) | (rw [endRecs_eq (by dsimp only; first | rfl | exact leadR_term _) (by dsimp only; first | rfl | exact leadR_vote _)]; first | done | rfl)) | (rw [← hpa]; first | done | rfl | (simp only [leadRecs]; rw [if_neg (by assumption)]; done) | (rw [endRecs_ne (by dsimp only; omega)]; rfl) | (rw [endRecs_eq rfl rfl]; done) | (rw [endRecs_eq rfl rfl]; rfl) | (rw [endRecs_eq (by dsimp only; exact leadR_term _) (by dsimp only; exact leadR_vote _)]; first | done | rfl) | (simp only [leadR, if_neg (by assumption)]; rfl) | (rw [endRecs_eq (by dsimp only; first | rfl | exact leadR_term _) (by dsimp only; first | rfl | exact leadR_vote _)]; first | done | rfl))) (show (([]) ++ leadRecs (⟨r.id, r.of_, r.role, r.commit, r.hard, putA m.from_ r.yes, r.next, r.match_⟩ : Raft)) = ((yess r m).2.1) from by rw [yess_lead h1 (by omega) (by omega) (by omega) (by assumption) (by first | omega | (rw [hpa]; omega) | (rw [← hpa]; omega))]; first | first | done | rfl | (simp only [leadRecs]; rw [if_neg (by assumption)]; done) | (rw [endRecs_ne (by dsimp only; omega)]; rfl) | (rw [endRecs_eq rfl rfl]; done) | (rw [endRecs_eq rfl rfl]; rfl) | (rw [endRecs_eq (by dsimp only; exact leadR_term _) (by dsimp only; exact leadR_vote _)]; first | done | rfl) | (simp only [leadR, if_neg (by assumption)]; rfl) | (rw [endRecs_eq (by dsimp only; first | rfl | exact leadR_term _) (by dsimp only; first | rfl | exact leadR_vote _)]; first | done | rfl) | (rw [hpa]; first | done | rfl | (simp only [leadRecs]; rw [if_neg (by assumption)]; done) | (rw [endRecs_ne (by dsimp only; omega)]; rfl) | (rw [endRecs_eq rfl rfl]; done) | (rw [endRecs_eq rfl rfl]; rfl) | (rw [endRecs_eq (by dsimp only; exact leadR_term _) (by dsimp only; exact leadR_vote _)]; first | done | rfl) | (simp only [leadR, if_neg (by assumption)]; rfl) | (rw [endRecs_eq (by dsimp only; first | rfl | exact leadR_term _) (by dsimp only; first | rfl | exact leadR_vote _)]; first | done | rfl)) | (rw [← hpa]; first | done | rfl | (simp only [leadRecs]; rw [if_neg (by assumption)]; done) | (rw [endRecs_ne (by dsimp only; omega)]; rfl) | (rw [endRecs_eq rfl rfl]; done) | (rw [endRecs_eq rfl rfl]; rfl) | (rw [endRecs_eq (by dsimp only; exact leadR_term _) (by dsimp only; exact leadR_vote _)]; first | done | rfl) | (simp only [leadR, if_neg (by assumption)]; rfl) | (rw [endRecs_eq (by dsimp only; first | rfl | exact leadR_term _) (by dsimp only; first | rfl | exact leadR_vote _)]; first | done | rfl))) (show (sendAll (leadR (⟨r.id, r.of_, r.role, r.commit, r.hard, putA m.from_ r.yes, r.next, r.match_⟩ : Raft))) = ((yess r m).2.2) from by rw [yess_lead h1 (by omega) (by omega) (by omega) (by assumption) (by first | omega | (rw [hpa]; omega) | (rw [← hpa]; omega))]; first | first | done | rfl | (simp only [leadRecs]; rw [if_neg (by assumption)]; done) | (rw [endRecs_ne (by dsimp only; omega)]; rfl) | (rw [endRecs_eq rfl rfl]; done) | (rw [endRecs_eq rfl rfl]; rfl) | (rw [endRecs_eq (by dsimp only; exact leadR_term _) (by dsimp only; exact leadR_vote _)]; first | done | rfl) | (simp only [leadR, if_neg (by assumption)]; rfl) | (rw [endRecs_eq (by dsimp only; first | rfl | exact leadR_term _) (by dsimp only; first | rfl | exact leadR_vote _)]; first | done | rfl) | (rw [hpa]; first | done | rfl | (simp only [leadRecs]; rw [if_neg (by assumption)]; done) | (rw [endRecs_ne (by dsimp only; omega)]; rfl) | (rw [endRecs_eq rfl rfl]; done) | (rw [endRecs_eq rfl rfl]; rfl) | (rw [endRecs_eq (by dsimp only; exact leadR_term _) (by dsimp only; exact leadR_vote _)]; first | done | rfl) | (simp only [leadR, if_neg (by assumption)]; rfl) | (rw [endRecs_eq (by dsimp only; first | rfl | exact leadR_term _) (by dsimp only; first | rfl | exact leadR_vote _)]; first | done | rfl)) | (rw [← hpa]; first | done | rfl | (simp only [leadRecs]; rw [if_neg (by assumption)]; done) | (rw [endRecs_ne (by dsimp only; omega)]; rfl) | (rw [endRecs_eq rfl rfl]; done) | (rw [endRecs_eq rfl rfl]; rfl) | (rw [endRecs_eq (by dsimp only; exact leadR_term _) (by dsimp only; exact leadR_vote _)]; first | done | rfl) | (simp only [leadR, if_neg (by assumption)]; rfl) | (rw [endRecs_eq (by dsimp only; first | rfl | exact leadR_term _) (by dsimp only; first | rfl | exact leadR_vote _)]; first | done | rfl))) (KF.n [(2460, 0), (2461, 1), (2462, 2), (2463, 3), (2464, 4), (2465, 5)])))
         refine At.c (spec_l10Lead_F_spec  (⟨r.id, r.of_, r.role, r.commit, r.hard, putA m.from_ r.yes, r.next, r.match_⟩ : Raft) ([]) (by have q := putA_len m.from_ (putA m.from_ r.yes); unfold SmallR; dsimp only; omega) (by dsimp only; omega) (by dsimp only; omega) (by simp; done) h7) Tryz.call99 true [(1220, 0), (2220, 1), (1222, 2), (1223, 3), (112, 4)] [(2460, 5), (2461, 6), (2462, 7), (2463, 8)] [] trivial ?_
         refine At.z 6 ?_
         exact AW.ret (rf (k3 (K_spec_OnYes _ r m) (show ((⟨(leadR (⟨r.id, r.of_, r.role, r.commit, r.hard, putA m.from_ r.yes, r.next, r.match_⟩ : Raft)).id, (leadR (⟨r.id, r.of_, r.role, r.commit, r.hard, putA m.from_ r.yes, r.next, r.match_⟩ : Raft)).of_, (leadR (⟨r.id, r.of_, r.role, r.commit, r.hard, putA m.from_ r.yes, r.next, r.match_⟩ : Raft)).role, (leadR (⟨r.id, r.of_, r.role, r.commit, r.hard, putA m.from_ r.yes, r.next, r.match_⟩ : Raft)).commit, ⟨(leadR (⟨r.id, r.of_, r.role, r.commit, r.hard, putA m.from_ r.yes, r.next, r.match_⟩ : Raft)).hard.term, (leadR (⟨r.id, r.of_, r.role, r.commit, r.hard, putA m.from_ r.yes, r.next, r.match_⟩ : Raft)).hard.vote, r.hard.log⟩, (leadR (⟨r.id, r.of_, r.role, r.commit, r.hard, putA m.from_ r.yes, r.next, r.match_⟩ : Raft)).yes, (leadR (⟨r.id, r.of_, r.role, r.commit, r.hard, putA m.from_ r.yes, r.next, r.match_⟩ : Raft)).next, (leadR (⟨r.id, r.of_, r.role, r.commit, r.hard, putA m.from_ r.yes, r.next, r.match_⟩ : Raft)).match_⟩ : Raft)) = ((yess r m).1) from by rw [yess_lead h1 (by omega) (by omega) (by omega) (by assumption) (by first | omega | (rw [hpa]; omega) | (rw [← hpa]; omega))]; first | first | done | rfl | (simp only [leadRecs]; rw [if_neg (by assumption)]; done) | (rw [endRecs_ne (by dsimp only; omega)]; rfl) | (rw [endRecs_eq rfl rfl]; done) | (rw [endRecs_eq rfl rfl]; rfl) | (rw [endRecs_eq (by dsimp only; exact leadR_term _) (by dsimp only; exact leadR_vote _)]; first | done | rfl) | (simp only [leadR, if_neg (by assumption)]; rfl) | (rw [endRecs_eq (by dsimp only; first | rfl | exact leadR_term _) (by dsimp only; first | rfl | exact leadR_vote _)]; first | done | rfl) | (rw [hpa]; first | done | rfl | (simp only [leadRecs]; rw [if_neg (by assumption)]; done) | (rw [endRecs_ne (by dsimp only; omega)]; rfl) | (rw [endRecs_eq rfl rfl]; done) | (rw [endRecs_eq rfl rfl]; rfl) | (rw [endRecs_eq (by dsimp only; exact leadR_term _) (by dsimp only; exact leadR_vote _)]; first | done | rfl) | (simp only [leadR, if_neg (by assumption)]; rfl) | (rw [endRecs_eq (by dsimp only; first | rfl | exact leadR_term _) (by dsimp only; first | rfl | exact leadR_vote _)]; first | done | rfl)) | (rw [← hpa]; first | done | rfl | (simp only [leadRecs]; rw [if_neg (by assumption)]; done) | (rw [endRecs_ne (by dsimp only; omega)]; rfl) | (rw [endRecs_eq rfl rfl]; done) | (rw [endRecs_eq rfl rfl]; rfl) | (rw [endRecs_eq (by dsimp only; exact leadR_term _) (by dsimp only; exact leadR_vote _)]; first | done | rfl) | (simp only [leadR, if_neg (by assumption)]; rfl) | (rw [endRecs_eq (by dsimp only; first | rfl | exact leadR_term _) (by dsimp only; first | rfl | exact leadR_vote _)]; first | done | rfl))) (show (([])) = ((yess r m).2.1) from by rw [yess_lead h1 (by omega) (by omega) (by omega) (by assumption) (by first | omega | (rw [hpa]; omega) | (rw [← hpa]; omega))]; first | first | done | rfl | (simp only [leadRecs]; rw [if_neg (by assumption)]; done) | (rw [endRecs_ne (by dsimp only; omega)]; rfl) | (rw [endRecs_eq rfl rfl]; done) | (rw [endRecs_eq rfl rfl]; rfl) | (rw [endRecs_eq (by dsimp only; exact leadR_term _) (by dsimp only; exact leadR_vote _)]; first | done | rfl) | (simp only [leadR, if_neg (by assumption)]; rfl) | (rw [endRecs_eq (by dsimp only; first | rfl | exact leadR_term _) (by dsimp only; first | rfl | exact leadR_vote _)]; first | done | rfl) | (rw [hpa]; first | done | rfl | (simp only [leadRecs]; rw [if_neg (by assumption)]; done) | (rw [endRecs_ne (by dsimp only; omega)]; rfl) | (rw [endRecs_eq rfl rfl]; done) | (rw [endRecs_eq rfl rfl]; rfl) | (rw [endRecs_eq (by dsimp only; exact leadR_term _) (by dsimp only; exact leadR_vote _)]; first | done | rfl) | (simp only [leadR, if_neg (by assumption)]; rfl) | (rw [endRecs_eq (by dsimp only; first | rfl | exact leadR_term _) (by dsimp only; first | rfl | exact leadR_vote _)]; first | done | rfl)) | (rw [← hpa]; first | done | rfl | (simp only [leadRecs]; rw [if_neg (by assumption)]; done) | (rw [endRecs_ne (by dsimp only; omega)]; rfl) | (rw [endRecs_eq rfl rfl]; done) | (rw [endRecs_eq rfl rfl]; rfl) | (rw [endRecs_eq (by dsimp only; exact leadR_term _) (by dsimp only; exact leadR_vote _)]; first | done | rfl) | (simp only [leadR, if_neg (by assumption)]; rfl) | (rw [endRecs_eq (by dsimp only; first | rfl | exact leadR_term _) (by dsimp only; first | rfl | exact leadR_vote _)]; first | done | rfl))) (show (sendAll (leadR (⟨r.id, r.of_, r.role, r.commit, r.hard, putA m.from_ r.yes, r.next, r.match_⟩ : Raft))) = ((yess r m).2.2) from by rw [yess_lead h1 (by omega) (by omega) (by omega) (by assumption) (by first | omega | (rw [hpa]; omega) | (rw [← hpa]; omega))]; first | first | done | rfl | (simp only [leadRecs]; rw [if_neg (by assumption)]; done) | (rw [endRecs_ne (by dsimp only; omega)]; rfl) | (rw [endRecs_eq rfl rfl]; done) | (rw [endRecs_eq rfl rfl]; rfl) | (rw [endRecs_eq (by dsimp only; exact leadR_term _) (by dsimp only; exact leadR_vote _)]; first | done | rfl) | (simp only [leadR, if_neg (by assumption)]; rfl) | (rw [endRecs_eq (by dsimp only; first | rfl | exact leadR_term _) (by dsimp only; first | rfl | exact leadR_vote _)]; first | done | rfl) | (rw [hpa]; first | done | rfl | (simp only [leadRecs]; rw [if_neg (by assumption)]; done) | (rw [endRecs_ne (by dsimp only; omega)]; rfl) | (rw [endRecs_eq rfl rfl]; done) | (rw [endRecs_eq rfl rfl]; rfl) | (rw [endRecs_eq (by dsimp only; exact leadR_term _) (by dsimp only; exact leadR_vote _)]; first | done | rfl) | (simp only [leadR, if_neg (by assumption)]; rfl) | (rw [endRecs_eq (by dsimp only; first | rfl | exact leadR_term _) (by dsimp only; first | rfl | exact leadR_vote _)]; first | done | rfl)) | (rw [← hpa]; first | done | rfl | (simp only [leadRecs]; rw [if_neg (by assumption)]; done) | (rw [endRecs_ne (by dsimp only; omega)]; rfl) | (rw [endRecs_eq rfl rfl]; done) | (rw [endRecs_eq rfl rfl]; rfl) | (rw [endRecs_eq (by dsimp only; exact leadR_term _) (by dsimp only; exact leadR_vote _)]; first | done | rfl) | (simp only [leadR, if_neg (by assumption)]; rfl) | (rw [endRecs_eq (by dsimp only; first | rfl | exact leadR_term _) (by dsimp only; first | rfl | exact leadR_vote _)]; first | done | rfl))) (KF.n [(1220, 0), (2460, 1), (2461, 2), (2462, 3), (112, 4), (2463, 5)])))
       refine AW.skip ?_
       refine AW.q 6 ?_
       exact AW.ret (rf (k3 (K_spec_OnYes _ r m) (show ((⟨r.id, r.of_, r.role, r.commit, r.hard, putA m.from_ r.yes, r.next, r.match_⟩ : Raft)) = ((yess r m).1) from by rw [yess_less h1 (by omega) (by omega) (by omega) (by assumption) (by first | omega | (rw [hpa]; omega) | (rw [← hpa]; omega))]; first | first | done | rfl | (simp only [leadRecs]; rw [if_neg (by assumption)]; done) | (rw [endRecs_ne (by dsimp only; omega)]; rfl) | (rw [endRecs_eq rfl rfl]; done) | (rw [endRecs_eq rfl rfl]; rfl) | (rw [endRecs_eq (by dsimp only; exact leadR_term _) (by dsimp only; exact leadR_vote _)]; first | done | rfl) | (simp only [leadR, if_neg (by assumption)]; rfl) | (rw [endRecs_eq (by dsimp only; first | rfl | exact leadR_term _) (by dsimp only; first | rfl | exact leadR_vote _)]; first | done | rfl) | (rw [hpa]; first | done | rfl | (simp only [leadRecs]; rw [if_neg (by assumption)]; done) | (rw [endRecs_ne (by dsimp only; omega)]; rfl) | (rw [endRecs_eq rfl rfl]; done) | (rw [endRecs_eq rfl rfl]; rfl) | (rw [endRecs_eq (by dsimp only; exact leadR_term _) (by dsimp only; exact leadR_vote _)]; first | done | rfl) | (simp only [leadR, if_neg (by assumption)]; rfl) | (rw [endRecs_eq (by dsimp only; first | rfl | exact leadR_term _) (by dsimp only; first | rfl | exact leadR_vote _)]; first | done | rfl)) | (rw [← hpa]; first | done | rfl | (simp only [leadRecs]; rw [if_neg (by assumption)]; done) | (rw [endRecs_ne (by dsimp only; omega)]; rfl) | (rw [endRecs_eq rfl rfl]; done) | (rw [endRecs_eq rfl rfl]; rfl) | (rw [endRecs_eq (by dsimp only; exact leadR_term _) (by dsimp only; exact leadR_vote _)]; first | done | rfl) | (simp only [leadR, if_neg (by assumption)]; rfl) | (rw [endRecs_eq (by dsimp only; first | rfl | exact leadR_term _) (by dsimp only; first | rfl | exact leadR_vote _)]; first | done | rfl))) (show ([]) = ((yess r m).2.1) from by rw [yess_less h1 (by omega) (by omega) (by omega) (by assumption) (by first | omega | (rw [hpa]; omega) | (rw [← hpa]; omega))]; first | first | done | rfl | (simp only [leadRecs]; rw [if_neg (by assumption)]; done) | (rw [endRecs_ne (by dsimp only; omega)]; rfl) | (rw [endRecs_eq rfl rfl]; done) | (rw [endRecs_eq rfl rfl]; rfl) | (rw [endRecs_eq (by dsimp only; exact leadR_term _) (by dsimp only; exact leadR_vote _)]; first | done | rfl) | (simp only [leadR, if_neg (by assumption)]; rfl) | (rw [endRecs_eq (by dsimp only; first | rfl | exact leadR_term _) (by dsimp only; first | rfl | exact leadR_vote _)]; first | done | rfl) | (rw [hpa]; first | done | rfl | (simp only [leadRecs]; rw [if_neg (by assumption)]; done) | (rw [endRecs_ne (by dsimp only; omega)]; rfl) | (rw [endRecs_eq rfl rfl]; done) | (rw [endRecs_eq rfl rfl]; rfl) | (rw [endRecs_eq (by dsimp only; exact leadR_term _) (by dsimp only; exact leadR_vote _)]; first | done | rfl) | (simp only [leadR, if_neg (by assumption)]; rfl) | (rw [endRecs_eq (by dsimp only; first | rfl | exact leadR_term _) (by dsimp only; first | rfl | exact leadR_vote _)]; first | done | rfl)) | (rw [← hpa]; first | done | rfl | (simp only [leadRecs]; rw [if_neg (by assumption)]; done) | (rw [endRecs_ne (by dsimp only; omega)]; rfl) | (rw [endRecs_eq rfl rfl]; done) | (rw [endRecs_eq rfl rfl]; rfl) | (rw [endRecs_eq (by dsimp only; exact leadR_term _) (by dsimp only; exact leadR_vote _)]; first | done | rfl) | (simp only [leadR, if_neg (by assumption)]; rfl) | (rw [endRecs_eq (by dsimp only; first | rfl | exact leadR_term _) (by dsimp only; first | rfl | exact leadR_vote _)]; first | done | rfl))) (show ([]) = ((yess r m).2.2) from by rw [yess_less h1 (by omega) (by omega) (by omega) (by assumption) (by first | omega | (rw [hpa]; omega) | (rw [← hpa]; omega))]; first | first | done | rfl | (simp only [leadRecs]; rw [if_neg (by assumption)]; done) | (rw [endRecs_ne (by dsimp only; omega)]; rfl) | (rw [endRecs_eq rfl rfl]; done) | (rw [endRecs_eq rfl rfl]; rfl) | (rw [endRecs_eq (by dsimp only; exact leadR_term _) (by dsimp only; exact leadR_vote _)]; first | done | rfl) | (simp only [leadR, if_neg (by assumption)]; rfl) | (rw [endRecs_eq (by dsimp only; first | rfl | exact leadR_term _) (by dsimp only; first | rfl | exact leadR_vote _)]; first | done | rfl) | (rw [hpa]; first | done | rfl | (simp only [leadRecs]; rw [if_neg (by assumption)]; done) | (rw [endRecs_ne (by dsimp only; omega)]; rfl) | (rw [endRecs_eq rfl rfl]; done) | (rw [endRecs_eq rfl rfl]; rfl) | (rw [endRecs_eq (by dsimp only; exact leadR_term _) (by dsimp only; exact leadR_vote _)]; first | done | rfl) | (simp only [leadR, if_neg (by assumption)]; rfl) | (rw [endRecs_eq (by dsimp only; first | rfl | exact leadR_term _) (by dsimp only; first | rfl | exact leadR_vote _)]; first | done | rfl)) | (rw [← hpa]; first | done | rfl | (simp only [leadRecs]; rw [if_neg (by assumption)]; done) | (rw [endRecs_ne (by dsimp only; omega)]; rfl) | (rw [endRecs_eq rfl rfl]; done) | (rw [endRecs_eq rfl rfl]; rfl) | (rw [endRecs_eq (by dsimp only; exact leadR_term _) (by dsimp only; exact leadR_vote _)]; first | done | rfl) | (simp only [leadR, if_neg (by assumption)]; rfl) | (rw [endRecs_eq (by dsimp only; first | rfl | exact leadR_term _) (by dsimp only; first | rfl | exact leadR_vote _)]; first | done | rfl))) (KF.n [(1220, 0), (2220, 1), (1222, 2), (1223, 3), (112, 4), (113, 5)])))
     refine At.sB 49 _ _ (sayUT h4) ?_
     refine At.z 4 ?_
     refine AW.cond true (by kernel_rfl) (fun _ => ?_) (fun h => by cases h)
     refine AW.q 6 ?_
     exact AW.ret (rf (k3 (K_spec_OnYes _ r m) (show (r) = ((yess r m).1) from by rw [yess_not h1 (by omega) (by first | exact .inl (by omega) | exact .inr (.inl (by omega)) | exact .inr (.inr (by assumption)))]; first | done | rfl | (simp only [leadRecs]; rw [if_neg (by assumption)]; done) | (rw [endRecs_ne (by dsimp only; omega)]; rfl) | (rw [endRecs_eq rfl rfl]; done) | (rw [endRecs_eq rfl rfl]; rfl) | (rw [endRecs_eq (by dsimp only; exact leadR_term _) (by dsimp only; exact leadR_vote _)]; first | done | rfl) | (simp only [leadR, if_neg (by assumption)]; rfl) | (rw [endRecs_eq (by dsimp only; first | rfl | exact leadR_term _) (by dsimp only; first | rfl | exact leadR_vote _)]; first | done | rfl)) (show ([]) = ((yess r m).2.1) from by rw [yess_not h1 (by omega) (by first | exact .inl (by omega) | exact .inr (.inl (by omega)) | exact .inr (.inr (by assumption)))]; first | done | rfl | (simp only [leadRecs]; rw [if_neg (by assumption)]; done) | (rw [endRecs_ne (by dsimp only; omega)]; rfl) | (rw [endRecs_eq rfl rfl]; done) | (rw [endRecs_eq rfl rfl]; rfl) | (rw [endRecs_eq (by dsimp only; exact leadR_term _) (by dsimp only; exact leadR_vote _)]; first | done | rfl) | (simp only [leadR, if_neg (by assumption)]; rfl) | (rw [endRecs_eq (by dsimp only; first | rfl | exact leadR_term _) (by dsimp only; first | rfl | exact leadR_vote _)]; first | done | rfl)) (show ([]) = ((yess r m).2.2) from by rw [yess_not h1 (by omega) (by first | exact .inl (by omega) | exact .inr (.inl (by omega)) | exact .inr (.inr (by assumption)))]; first | done | rfl | (simp only [leadRecs]; rw [if_neg (by assumption)]; done) | (rw [endRecs_ne (by dsimp only; omega)]; rfl) | (rw [endRecs_eq rfl rfl]; done) | (rw [endRecs_eq rfl rfl]; rfl) | (rw [endRecs_eq (by dsimp only; exact leadR_term _) (by dsimp only; exact leadR_vote _)]; first | done | rfl) | (simp only [leadR, if_neg (by assumption)]; rfl) | (rw [endRecs_eq (by dsimp only; first | rfl | exact leadR_term _) (by dsimp only; first | rfl | exact leadR_vote _)]; first | done | rfl)) (KF.n [(1220, 0), (1221, 1), (1222, 2), (1223, 3), (112, 4), (113, 5)])))
   refine At.sB 41 _ _ (sayUT h3) ?_
   refine At.z 12 ?_
   refine AW.cond true (by kernel_rfl) (fun _ => ?_) (fun h => by cases h)
   refine AW.q 6 ?_
   exact AW.ret (rf (k3 (K_spec_OnYes _ r m) (show (r) = ((yess r m).1) from by rw [yess_not h1 (by omega) (by first | exact .inl (by omega) | exact .inr (.inl (by omega)) | exact .inr (.inr (by assumption)))]; first | done | rfl | (simp only [leadRecs]; rw [if_neg (by assumption)]; done) | (rw [endRecs_ne (by dsimp only; omega)]; rfl) | (rw [endRecs_eq rfl rfl]; done) | (rw [endRecs_eq rfl rfl]; rfl) | (rw [endRecs_eq (by dsimp only; exact leadR_term _) (by dsimp only; exact leadR_vote _)]; first | done | rfl) | (simp only [leadR, if_neg (by assumption)]; rfl) | (rw [endRecs_eq (by dsimp only; first | rfl | exact leadR_term _) (by dsimp only; first | rfl | exact leadR_vote _)]; first | done | rfl)) (show ([]) = ((yess r m).2.1) from by rw [yess_not h1 (by omega) (by first | exact .inl (by omega) | exact .inr (.inl (by omega)) | exact .inr (.inr (by assumption)))]; first | done | rfl | (simp only [leadRecs]; rw [if_neg (by assumption)]; done) | (rw [endRecs_ne (by dsimp only; omega)]; rfl) | (rw [endRecs_eq rfl rfl]; done) | (rw [endRecs_eq rfl rfl]; rfl) | (rw [endRecs_eq (by dsimp only; exact leadR_term _) (by dsimp only; exact leadR_vote _)]; first | done | rfl) | (simp only [leadR, if_neg (by assumption)]; rfl) | (rw [endRecs_eq (by dsimp only; first | rfl | exact leadR_term _) (by dsimp only; first | rfl | exact leadR_vote _)]; first | done | rfl)) (show ([]) = ((yess r m).2.2) from by rw [yess_not h1 (by omega) (by first | exact .inl (by omega) | exact .inr (.inl (by omega)) | exact .inr (.inr (by assumption)))]; first | done | rfl | (simp only [leadRecs]; rw [if_neg (by assumption)]; done) | (rw [endRecs_ne (by dsimp only; omega)]; rfl) | (rw [endRecs_eq rfl rfl]; done) | (rw [endRecs_eq rfl rfl]; rfl) | (rw [endRecs_eq (by dsimp only; exact leadR_term _) (by dsimp only; exact leadR_vote _)]; first | done | rfl) | (simp only [leadR, if_neg (by assumption)]; rfl) | (rw [endRecs_eq (by dsimp only; first | rfl | exact leadR_term _) (by dsimp only; first | rfl | exact leadR_vote _)]; first | done | rfl)) (KF.n [(1220, 0), (1221, 1), (1222, 2), (1223, 3), (112, 4), (113, 5)])))
 refine AW.q 5 ?_
 refine AW.seq ?_
 refine AW.weak (Sub.nils [⟨true, 104, some 6, 5001, 45, 6⟩, ⟨true, 104, some 7, 5002, 3, 1⟩, ⟨true, 104, some 8, 5003, 3, 1⟩, ⟨true, 104, some 9, 5004, 3, 1⟩] (by kernel_rfl)) ?_
 refine AW.g ?_
 refine At.a 1 ?_
 refine At.c (spec_l10Same_F_spec  r (by exact hz) hok) Tryz.call97 true [] [(1220, 0), (1221, 1), (1222, 2), (1223, 3)] [] trivial ?_
 refine At.lit0 (t := 37) (d := 12) (e := 47) (es := 10) (bytes := 88) 112 (by kernel_rfl) (by kernel_rfl) (by kernel_rfl) (by kernel_rfl) ?_
 refine At.lit0 (t := 38) (d := 13) (e := 51) (es := 17) (bytes := 168) 113 (by kernel_rfl) (by kernel_rfl) (by kernel_rfl) (by kernel_rfl) ?_
 refine At.z 4 ?_
 refine AW.seq ?_
 refine AW.r ?_
 refine At.a 2 ?_
 refine At.c (spec_l10Hears_spec  r m 2 (by exact hz) hm) Tryz.call108 true [] [] [] trivial ?_
 refine At.z 1 ?_
 refine AW.condT (!(hears r m 2)) (by kernel_rfl) (by rw [show (hears r m 2) = false from (hears_no hok)]; rfl) ?_
 refine AW.q 6 ?_
 exact AW.ret (rf (k3 (K_spec_OnYes _ r m) (show ((⟨0, 0, 0, 0, ⟨0, 0, []⟩, [], [], []⟩ : Raft)) = ((yess r m).1) from by simp [yess, same, hok, hears_no hok]; try rfl) (show ([]) = ((yess r m).2.1) from by simp [yess, same, hok, hears_no hok]; try rfl) (show ([]) = ((yess r m).2.2) from by simp [yess, same, hok, hears_no hok]; try rfl) (KF.n [(1220, 0), (1221, 1), (1222, 2), (1223, 3), (112, 4), (113, 5)])))
def K_spec_l10Fits (rs : List ResultVar) (r : Raft) (m : Msg) (w0_ : Bool) : Exit → Sg → Prop := KF Tryz.prog 0 rs (.bool w0_) []
theorem spec_l10Fits_spec  (r : Raft) (m : Msg) (hz : SmallR r) (hm : m.entries.length ≤ 1048576) (ha : 0 ≤ m.at_ ∧ m.at_ ≤ 80) (hc : r.commit ≤ r.hard.log.length) : FnSpec Tryz.prog 137 [(raftA r), (msgA m)] [] (.bool (rowB m && !cutsB r m)) [] := by
 obtain ⟨z1, z2, z3, z4⟩ := id hz
 refine FnSpec.of 112 Tryz.func137 rfl Tryz.ntmps137 (by simp) (AW.weakK ?_)
 refine AW.q 3 ?_
 refine AW.q 1 ?_
 refine AW.seq ?_
 refine AW.q 3 ?_
 refine AW.cD (m.at_ > 0) (fun h1 => ?_) (fun h1 => ?_)
 · refine AW.gq 3 ?_
   refine AW.seq ?_
   refine AW.q 1 ?_
   refine AW.block ?_
   refine AW.loopW (fun (x : Nat × Int) => match x with | (k, lo) => Go.Sy.mk [.un, .un, .ptr 102 0 0, .ptr 103 0 0, .un, .int .i64 lo, .int .i64 (k : Int)] [(102, .box 29 [.int .i64 r.id, .int .i64 r.of_, .int .i64 r.role, .int .i64 r.commit, .int .i64 r.hard.term, .int .i64 r.hard.vote, .sl false 6 (r.hard.log.map encEnt), .sl false 1 (r.yes.map encI), .sl false 1 (r.next.map encI), .sl false 1 (r.match_.map encI)]), (103, .box 33 [.int .i64 m.kind, .int .i64 m.from_, .int .i64 m.term, .int .i64 m.at_, .int .i64 m.atTerm, .int .i64 m.commit, .bool m.yes, .int .i64 m.release, .int .i64 m.part, .str m.bytes, .int .i64 m.cmd.kind, .int .i64 m.cmd.release, .int .i64 m.cmd.node, .int .i64 m.cmd.size, .str m.cmd.digest, .sl false 6 (m.entries.map encEnt)])]) (fun (x : Nat × Int) => match x with | (k, lo) => k ≤ m.entries.length ∧ rowGo m.term m.atTerm m.entries = rowGo m.term lo (m.entries.drop k)) (fun (x : Nat × Int) => match x with | (k, lo) => m.entries.length - k) (0, m.atTerm) ⟨by omega, by rw [List.drop_zero]⟩ (Sub.o [(102, 102), (103, 103)] [false, false, true, true, false, true, true]) ?_
   rintro ⟨k, lo⟩ ⟨hk, hR⟩
   refine AW.seq ?_
   refine AW.r ?_
   refine At.a 4 ?_
   refine At.sL 17 encEnt m.entries ?_
   refine At.z 1 ?_
   refine AW.cD ((k : Int) < (m.entries.length : Int)) (fun h2 => ?_) (fun h2 => ?_)
   · refine AW.skip ?_
     refine AW.seq ?_
     refine AW.block ?_
     refine AW.seq ?_
     refine AW.seq ?_
     refine AW.gD Tryz_mix ?_
     refine At.a 3 ?_
     refine At.iSl 24 24 (.tmp 22) (.tmp 23) false 6 (m.entries.map encEnt) .i64 (k : Int) 45 (by omega) (by simp only [List.length_map]; omega) ?_
     refine At.a 1 ?_
     refine Exists.elim (gE m.entries k (by omega)) fun e1 he1 => ?_
     refine At.lVp 3 26 (.tmp 25) false 6 (m.entries.map encEnt) k 0 false 1 (encEnt e1) (.int .i64 e1.term) (mapGet he1) ?_
     refine At.a 3 ?_
     by_cases h3 : e1.term < lo
     · refine At.sB 29 _ _ (sayT h3) ?_
       refine At.zD 10 ?_
       refine AW.cond true (by kernel_rfl) (fun _ => ?_) (fun h => by cases h)
       refine AW.q 1 ?_
       exact AW.ret (rf (k1 (K_spec_l10Fits _ r m) (show (false) = (rowB m && !cutsB r m) from by have q : rowB m = false := (by unfold rowB; (first | rw [if_pos (by omega)] | rw [if_neg (by omega)]); rw [hR, dropCons (by assumption), rowGo, Bool.and_eq_false_iff]; left; rw [Bool.eq_false_iff, ne_eq, inR_iff]; omega); rw [q]; rfl) (KF.n [])))
     refine At.sB 29 _ _ (sayF h3) ?_
     refine At.a 3 ?_
     refine At.iSl 24 33 (.tmp 31) (.tmp 32) false 6 (m.entries.map encEnt) .i64 (k : Int) 45 (by omega) (by simp only [List.length_map]; omega) ?_
     refine At.a 1 ?_
     refine At.lVp 3 35 (.tmp 34) false 6 (m.entries.map encEnt) k 0 false 1 (encEnt e1) (.int .i64 e1.term) (mapGet he1) ?_
     refine At.zD 4 ?_
     refine AW.cD (e1.term > m.term) (fun h4 => ?_) (fun h4 => ?_)
     · refine AW.q 1 ?_
       exact AW.ret (rf (k1 (K_spec_l10Fits _ r m) (show (false) = (rowB m && !cutsB r m) from by have q : rowB m = false := (by unfold rowB; (first | rw [if_pos (by omega)] | rw [if_neg (by omega)]); rw [hR, dropCons (by assumption), rowGo, Bool.and_eq_false_iff]; left; rw [Bool.eq_false_iff, ne_eq, inR_iff]; omega); rw [q]; rfl) (KF.n [])))
     refine AW.skip ?_
     refine AW.g ?_
     refine At.a 3 ?_
     refine At.iSl 24 43 (.tmp 41) (.tmp 42) false 6 (m.entries.map encEnt) .i64 (k : Int) 45 (by omega) (by simp only [List.length_map]; omega) ?_
     refine At.a 1 ?_
     refine At.lVp 3 45 (.tmp 44) false 6 (m.entries.map encEnt) k 0 false 1 (encEnt e1) (.int .i64 e1.term) (mapGet he1) ?_
     refine At.z 1 ?_
     refine AW.g ?_
     refine At.a 2 ?_
     refine At.sI 20 ((k : Int) + 1) (by omega) ?_
     refine At.z 1 ?_
     exact ⟨(k + 1, e1.term), ⟨by omega, by rw [hR, dropCons (by assumption), rowGo, inR_iff.2 (by omega), Bool.true_and]⟩, (by simp only; omega), Sub.o [(102, 102), (103, 103)] [false, false, true, true, false, true, true]⟩
   refine AW.exit ?_
   refine AW.seq ?_
   refine AW.seq ?_
   refine AW.gD Tryz_mix ?_
   refine At.a 3 ?_
   refine At.c (spec_l10End_spec  r ) Tryz.call65 true [] [] [] trivial ?_
   refine At.a 2 ?_
   by_cases h5 : m.at_ > (r.hard.log.length : Int)
   · refine At.sB 51 _ _ (sayT h5) ?_
     have hrow : rowB m = true := by (have q := hR; rw [List.drop_of_length_le (by omega), rowGo] at q; unfold rowB; first | (rw [if_pos (by omega)]; exact q) | (rw [if_neg (by omega)]; exact q))
     refine At.zD 14 ?_
     refine AW.cond true (by kernel_rfl) (fun _ => ?_) (fun h => by cases h)
     refine AW.q 1 ?_
     exact AW.ret (rf (k1 (K_spec_l10Fits _ r m) (show (true) = (rowB m && !cutsB r m) from by have q : fitsB r.hard.log m = false := (by grind [fitsB]); rw [hrow, cutsB, q]; rfl) (KF.n [])))
   refine At.sB 51 _ _ (sayF h5) ?_
   have hrow : rowB m = true := by (have q := hR; rw [List.drop_of_length_le (by omega), rowGo] at q; unfold rowB; first | (rw [if_pos (by omega)]; exact q) | (rw [if_neg (by omega)]; exact q))
   refine At.a 4 ?_
   refine At.sB 55 _ _ (sayT h1) ?_
   refine At.a 4 ?_
   refine At.c (spec_l10Term_spec  r.hard m.at_ (by omega)) Tryz.call115 true [] [] [] trivial ?_
   refine At.zD 5 ?_
   refine AW.cU (termAt r.hard.log m.at_) m.atTerm (fun h7 => ?_) (fun h7 => ?_)
   · refine AW.q 1 ?_
     exact AW.ret (rf (k1 (K_spec_l10Fits _ r m) (show (true) = (rowB m && !cutsB r m) from by have q : fitsB r.hard.log m = false := (by grind [fitsB]); rw [hrow, cutsB, q]; rfl) (KF.n [])))
   refine AW.skip ?_
   refine AW.seq ?_
   refine AW.q 1 ?_
   refine AW.block ?_
   have hfit : fitsB r.hard.log m = true := by grind [fitsB]
   refine AW.loopW (fun (j : Nat) => Go.Sy.mk [.un, .un, .ptr 102 0 0, .ptr 103 0 0, .un, .un, .un, .int .i64 (j : Int)] [(102, .box 29 [.int .i64 r.id, .int .i64 r.of_, .int .i64 r.role, .int .i64 r.commit, .int .i64 r.hard.term, .int .i64 r.hard.vote, .sl false 6 (r.hard.log.map encEnt), .sl false 1 (r.yes.map encI), .sl false 1 (r.next.map encI), .sl false 1 (r.match_.map encI)]), (103, .box 33 [.int .i64 m.kind, .int .i64 m.from_, .int .i64 m.term, .int .i64 m.at_, .int .i64 m.atTerm, .int .i64 m.commit, .bool m.yes, .int .i64 m.release, .int .i64 m.part, .str m.bytes, .int .i64 m.cmd.kind, .int .i64 m.cmd.release, .int .i64 m.cmd.node, .int .i64 m.cmd.size, .str m.cmd.digest, .sl false 6 (m.entries.map encEnt)])]) (fun (j : Nat) => j ≤ m.entries.length ∧ cutGo r.hard.log r.commit m.at_ m.entries = cutGo r.hard.log r.commit (m.at_ + (j : Int)) (m.entries.drop j)) (fun (j : Nat) => m.entries.length - j) 0 ⟨by omega, by rw [List.drop_zero]; simp⟩ (Sub.o [(102, 102), (103, 103)] [false, false, true, true, false, false, false, true]) ?_
   rintro j ⟨hkj, hQ⟩
   refine AW.seq ?_
   refine AW.r ?_
   refine At.a 4 ?_
   refine At.sL 69 encEnt m.entries ?_
   refine At.z 1 ?_
   refine AW.cD ((j : Int) < (m.entries.length : Int)) (fun h8 => ?_) (fun h8 => ?_)
   · refine AW.skip ?_
     refine AW.seq ?_
     refine AW.block ?_
     refine AW.r ?_
     refine At.a 3 ?_
     refine At.sI 75 (m.at_ + 1) (by omega) ?_
     refine At.a 2 ?_
     refine At.say 77 (.int .i64 (IntKind.i64.wrap ((m.at_ + 1) + (j : Int)))) (.int .i64 (m.at_ + (j : Int) + 1)) (by kernel_rfl) (sayAs (by omega) (by omega)) ?_
     refine At.z 1 ?_
     refine AW.seq ?_
     refine AW.seq ?_
     refine AW.gD Tryz_mix ?_
     refine At.a 5 ?_
     by_cases h9 : (m.at_ + (j : Int) + 1) ≤ r.commit
     · refine At.sB 82 _ _ (sayT h9) ?_
       refine At.a 3 ?_
       refine At.c (spec_l10Term_spec  r.hard (m.at_ + (j : Int) + 1) (by omega)) Tryz.call115 true [] [] [] trivial ?_
       refine At.a 3 ?_
       refine At.iSl 24 90 (.tmp 88) (.tmp 89) false 6 (m.entries.map encEnt) .i64 (j : Int) 45 (by omega) (by simp only [List.length_map]; omega) ?_
       refine At.a 1 ?_
       refine Exists.elim (gE m.entries j (by omega)) fun e2 he2 => ?_
       refine At.lVp 3 92 (.tmp 91) false 6 (m.entries.map encEnt) j 0 false 1 (encEnt e2) (.int .i64 e2.term) (mapGet he2) ?_
       refine At.zD 2 ?_
       refine AW.cU (termAt r.hard.log (m.at_ + (j : Int) + 1)) e2.term (fun h10 => ?_) (fun h10 => ?_)
       · refine AW.q 1 ?_
         exact AW.ret (rf (k1 (K_spec_l10Fits _ r m) (show (false) = (rowB m && !cutsB r m) from by have q : cutsB r m = true := (by first | (rw [cutsB, hfit, Bool.true_and, hQ, List.drop_of_length_le (by omega), cutGo]; rw [decide_eq_true (by omega)]) | (rw [cutsB, hfit, Bool.true_and, hQ, dropCons (List.getElem?_eq_getElem (l := m.entries) (i := j) (by omega)), cutGo, if_neg (by omega)]; rw [decide_eq_true (by omega)]) | (rw [cutsB, hfit, Bool.true_and, hQ, dropCons (by assumption), cutGo, if_pos (by omega), if_neg (by assumption)]; rw [decide_eq_true (by omega)])); rw [hrow, q]; rfl) (KF.n [])))
       refine AW.skip ?_
       refine AW.seq ?_
       refine AW.gD Tryz_mix ?_
       refine At.a 2 ?_
       refine At.c (spec_l10End_spec  r ) Tryz.call65 true [] [] [] trivial ?_
       refine At.a 2 ?_
       by_cases h11 : (m.at_ + (j : Int) + 1) > (r.hard.log.length : Int)
       · refine At.sB 99 _ _ (sayT h11) ?_
         refine At.zD 12 ?_
         refine AW.cond true (by kernel_rfl) (fun _ => ?_) (fun h => by cases h)
         refine AW.q 1 ?_
         exact AW.ret (rf (k1 (K_spec_l10Fits _ r m) (show (true) = (rowB m && !cutsB r m) from by have q : fitsB r.hard.log m = false := (by grind [fitsB]); rw [hrow, cutsB, q]; rfl) (KF.n [])))
       refine At.sB 99 _ _ (sayF h11) ?_
       refine At.a 3 ?_
       refine At.c (spec_l10Term_spec  r.hard (m.at_ + (j : Int) + 1) (by omega)) Tryz.call115 true [] [] [] trivial ?_
       refine At.a 3 ?_
       refine At.iSl 24 107 (.tmp 105) (.tmp 106) false 6 (m.entries.map encEnt) .i64 (j : Int) 45 (by omega) (by simp only [List.length_map]; omega) ?_
       refine At.a 1 ?_
       refine At.lVp 3 109 (.tmp 108) false 6 (m.entries.map encEnt) j 0 false 1 (encEnt e2) (.int .i64 e2.term) (mapGet he2) ?_
       refine At.zD 2 ?_
       refine AW.cU (termAt r.hard.log (m.at_ + (j : Int) + 1)) e2.term (fun h12 => ?_) (fun h12 => ?_)
       · refine AW.q 1 ?_
         exact AW.ret (rf (k1 (K_spec_l10Fits _ r m) (show (true) = (rowB m && !cutsB r m) from by have q : fitsB r.hard.log m = false := (by grind [fitsB]); rw [hrow, cutsB, q]; rfl) (KF.n [])))
       refine AW.skip ?_
       refine AW.g ?_
       refine At.a 2 ?_
       refine At.sI 72 ((j : Int) + 1) (by omega) ?_
       refine At.z 1 ?_
       exact ⟨j + 1, ⟨by omega, by rw [hQ, dropCons (by assumption), cutGo, if_pos (by omega), if_pos (by assumption), show m.at_ + ((j + 1 : Nat) : Int) = m.at_ + (j : Int) + 1 from by omega]⟩, (by omega), Sub.o [(102, 102), (103, 103)] [false, false, true, true, false, false, false, true]⟩
     refine At.sB 82 _ _ (sayF h9) ?_
     refine At.zD 12 ?_
     refine AW.cond false (by kernel_rfl) (fun h => by cases h) (fun _ => ?_)
     refine AW.skip ?_
     refine AW.seq ?_
     refine AW.gD Tryz_mix ?_
     refine At.a 2 ?_
     refine At.c (spec_l10End_spec  r ) Tryz.call65 true [] [] [] trivial ?_
     refine At.a 2 ?_
     by_cases h13 : (m.at_ + (j : Int) + 1) > (r.hard.log.length : Int)
     · refine At.sB 99 _ _ (sayT h13) ?_
       refine At.zD 12 ?_
       refine AW.cond true (by kernel_rfl) (fun _ => ?_) (fun h => by cases h)
       refine AW.q 1 ?_
       exact AW.ret (rf (k1 (K_spec_l10Fits _ r m) (show (true) = (rowB m && !cutsB r m) from by have q : cutsB r m = false := (by first | (rw [cutsB, hfit, Bool.true_and, hQ, List.drop_of_length_le (by omega), cutGo]; done) | (rw [cutsB, hfit, Bool.true_and, hQ, dropCons (List.getElem?_eq_getElem (l := m.entries) (i := j) (by omega)), cutGo, if_neg (by omega)]; done) | (rw [cutsB, hfit, Bool.true_and, hQ, dropCons (by assumption), cutGo, if_pos (by omega), if_neg (by assumption)]; done) | (rw [cutsB, hfit, Bool.true_and, hQ, List.drop_of_length_le (by omega), cutGo]; rw [decide_eq_false (by omega)]) | (rw [cutsB, hfit, Bool.true_and, hQ, dropCons (List.getElem?_eq_getElem (l := m.entries) (i := j) (by omega)), cutGo, if_neg (by omega)]; rw [decide_eq_false (by omega)]) | (rw [cutsB, hfit, Bool.true_and, hQ, dropCons (by assumption), cutGo, if_pos (by omega), if_neg (by assumption)]; rw [decide_eq_false (by omega)])); rw [hrow, q]; rfl) (KF.n [])))
     refine At.sB 99 _ _ (sayF h13) ?_
     refine At.a 3 ?_
     refine At.c (spec_l10Term_spec  r.hard (m.at_ + (j : Int) + 1) (by omega)) Tryz.call115 true [] [] [] trivial ?_
     refine At.a 3 ?_
     refine At.iSl 24 107 (.tmp 105) (.tmp 106) false 6 (m.entries.map encEnt) .i64 (j : Int) 45 (by omega) (by simp only [List.length_map]; omega) ?_
     refine At.a 1 ?_
     refine Exists.elim (gE m.entries j (by omega)) fun e3 he3 => ?_
     refine At.lVp 3 109 (.tmp 108) false 6 (m.entries.map encEnt) j 0 false 1 (encEnt e3) (.int .i64 e3.term) (mapGet he3) ?_
     refine At.zD 2 ?_
     refine AW.cU (termAt r.hard.log (m.at_ + (j : Int) + 1)) e3.term (fun h14 => ?_) (fun h14 => ?_)
     · refine AW.q 1 ?_
       exact AW.ret (rf (k1 (K_spec_l10Fits _ r m) (show (true) = (rowB m && !cutsB r m) from by have q : cutsB r m = false := (by first | (rw [cutsB, hfit, Bool.true_and, hQ, List.drop_of_length_le (by omega), cutGo]; done) | (rw [cutsB, hfit, Bool.true_and, hQ, dropCons (List.getElem?_eq_getElem (l := m.entries) (i := j) (by omega)), cutGo, if_neg (by omega)]; done) | (rw [cutsB, hfit, Bool.true_and, hQ, dropCons (by assumption), cutGo, if_pos (by omega), if_neg (by assumption)]; done) | (rw [cutsB, hfit, Bool.true_and, hQ, List.drop_of_length_le (by omega), cutGo]; rw [decide_eq_false (by omega)]) | (rw [cutsB, hfit, Bool.true_and, hQ, dropCons (List.getElem?_eq_getElem (l := m.entries) (i := j) (by omega)), cutGo, if_neg (by omega)]; rw [decide_eq_false (by omega)]) | (rw [cutsB, hfit, Bool.true_and, hQ, dropCons (by assumption), cutGo, if_pos (by omega), if_neg (by assumption)]; rw [decide_eq_false (by omega)])); rw [hrow, q]; rfl) (KF.n [])))
     refine AW.skip ?_
     refine AW.g ?_
     refine At.a 2 ?_
     refine At.sI 72 ((j : Int) + 1) (by omega) ?_
     refine At.z 1 ?_
     exact ⟨j + 1, ⟨by omega, by rw [hQ, dropCons (by assumption), cutGo, if_pos (by omega), if_pos (by assumption), show m.at_ + ((j + 1 : Nat) : Int) = m.at_ + (j : Int) + 1 from by omega]⟩, (by omega), Sub.o [(102, 102), (103, 103)] [false, false, true, true, false, false, false, true]⟩
   refine AW.exit ?_
   refine AW.q 1 ?_
   exact AW.ret (rf (k1 (K_spec_l10Fits _ r m) (show (true) = (rowB m && !cutsB r m) from by have q : cutsB r m = false := (by first | (rw [cutsB, hfit, Bool.true_and, hQ, List.drop_of_length_le (by omega), cutGo]; done) | (rw [cutsB, hfit, Bool.true_and, hQ, dropCons (List.getElem?_eq_getElem (l := m.entries) (i := j) (by omega)), cutGo, if_neg (by omega)]; done) | (rw [cutsB, hfit, Bool.true_and, hQ, dropCons (by assumption), cutGo, if_pos (by omega), if_neg (by assumption)]; done) | (rw [cutsB, hfit, Bool.true_and, hQ, List.drop_of_length_le (by omega), cutGo]; rw [decide_eq_false (by omega)]) | (rw [cutsB, hfit, Bool.true_and, hQ, dropCons (List.getElem?_eq_getElem (l := m.entries) (i := j) (by omega)), cutGo, if_neg (by omega)]; rw [decide_eq_false (by omega)]) | (rw [cutsB, hfit, Bool.true_and, hQ, dropCons (by assumption), cutGo, if_pos (by omega), if_neg (by assumption)]; rw [decide_eq_false (by omega)])); rw [hrow, q]; rfl) (KF.n [])))
 refine AW.skip ?_
 refine AW.seq ?_
 refine AW.q 1 ?_
 refine AW.block ?_
 refine AW.loopW (fun (x : Nat × Int) => match x with | (k, lo) => Go.Sy.mk [.un, .un, .ptr 102 0 0, .ptr 103 0 0, .un, .int .i64 lo, .int .i64 (k : Int)] [(102, .box 29 [.int .i64 r.id, .int .i64 r.of_, .int .i64 r.role, .int .i64 r.commit, .int .i64 r.hard.term, .int .i64 r.hard.vote, .sl false 6 (r.hard.log.map encEnt), .sl false 1 (r.yes.map encI), .sl false 1 (r.next.map encI), .sl false 1 (r.match_.map encI)]), (103, .box 33 [.int .i64 m.kind, .int .i64 m.from_, .int .i64 m.term, .int .i64 m.at_, .int .i64 m.atTerm, .int .i64 m.commit, .bool m.yes, .int .i64 m.release, .int .i64 m.part, .str m.bytes, .int .i64 m.cmd.kind, .int .i64 m.cmd.release, .int .i64 m.cmd.node, .int .i64 m.cmd.size, .str m.cmd.digest, .sl false 6 (m.entries.map encEnt)])]) (fun (x : Nat × Int) => match x with | (k, lo) => k ≤ m.entries.length ∧ rowGo m.term 0 m.entries = rowGo m.term lo (m.entries.drop k)) (fun (x : Nat × Int) => match x with | (k, lo) => m.entries.length - k) (0, 0) ⟨by omega, by rw [List.drop_zero]⟩ (Sub.o [(102, 102), (103, 103)] [false, false, true, true, false, true, true]) ?_
 rintro ⟨k, lo⟩ ⟨hk, hR⟩
 refine AW.seq ?_
 refine AW.r ?_
 refine At.a 4 ?_
 refine At.sL 17 encEnt m.entries ?_
 refine At.z 1 ?_
 refine AW.cD ((k : Int) < (m.entries.length : Int)) (fun h15 => ?_) (fun h15 => ?_)
 · refine AW.skip ?_
   refine AW.seq ?_
   refine AW.block ?_
   refine AW.seq ?_
   refine AW.seq ?_
   refine AW.gD Tryz_mix ?_
   refine At.a 3 ?_
   refine At.iSl 24 24 (.tmp 22) (.tmp 23) false 6 (m.entries.map encEnt) .i64 (k : Int) 45 (by omega) (by simp only [List.length_map]; omega) ?_
   refine At.a 1 ?_
   refine Exists.elim (gE m.entries k (by omega)) fun e4 he4 => ?_
   refine At.lVp 3 26 (.tmp 25) false 6 (m.entries.map encEnt) k 0 false 1 (encEnt e4) (.int .i64 e4.term) (mapGet he4) ?_
   refine At.a 3 ?_
   by_cases h16 : e4.term < lo
   · refine At.sB 29 _ _ (sayT h16) ?_
     refine At.zD 10 ?_
     refine AW.cond true (by kernel_rfl) (fun _ => ?_) (fun h => by cases h)
     refine AW.q 1 ?_
     exact AW.ret (rf (k1 (K_spec_l10Fits _ r m) (show (false) = (rowB m && !cutsB r m) from by have q : rowB m = false := (by unfold rowB; (first | rw [if_pos (by omega)] | rw [if_neg (by omega)]); rw [hR, dropCons (by assumption), rowGo, Bool.and_eq_false_iff]; left; rw [Bool.eq_false_iff, ne_eq, inR_iff]; omega); rw [q]; rfl) (KF.n [])))
   refine At.sB 29 _ _ (sayF h16) ?_
   refine At.a 3 ?_
   refine At.iSl 24 33 (.tmp 31) (.tmp 32) false 6 (m.entries.map encEnt) .i64 (k : Int) 45 (by omega) (by simp only [List.length_map]; omega) ?_
   refine At.a 1 ?_
   refine At.lVp 3 35 (.tmp 34) false 6 (m.entries.map encEnt) k 0 false 1 (encEnt e4) (.int .i64 e4.term) (mapGet he4) ?_
   refine At.zD 4 ?_
   refine AW.cD (e4.term > m.term) (fun h17 => ?_) (fun h17 => ?_)
   · refine AW.q 1 ?_
     exact AW.ret (rf (k1 (K_spec_l10Fits _ r m) (show (false) = (rowB m && !cutsB r m) from by have q : rowB m = false := (by unfold rowB; (first | rw [if_pos (by omega)] | rw [if_neg (by omega)]); rw [hR, dropCons (by assumption), rowGo, Bool.and_eq_false_iff]; left; rw [Bool.eq_false_iff, ne_eq, inR_iff]; omega); rw [q]; rfl) (KF.n [])))
   refine AW.skip ?_
   refine AW.g ?_
   refine At.a 3 ?_
   refine At.iSl 24 43 (.tmp 41) (.tmp 42) false 6 (m.entries.map encEnt) .i64 (k : Int) 45 (by omega) (by simp only [List.length_map]; omega) ?_
   refine At.a 1 ?_
   refine At.lVp 3 45 (.tmp 44) false 6 (m.entries.map encEnt) k 0 false 1 (encEnt e4) (.int .i64 e4.term) (mapGet he4) ?_
   refine At.z 1 ?_
   refine AW.g ?_
   refine At.a 2 ?_
   refine At.sI 20 ((k : Int) + 1) (by omega) ?_
   refine At.z 1 ?_
   exact ⟨(k + 1, e4.term), ⟨by omega, by rw [hR, dropCons (by assumption), rowGo, inR_iff.2 (by omega), Bool.true_and]⟩, (by simp only; omega), Sub.o [(102, 102), (103, 103)] [false, false, true, true, false, true, true]⟩
 refine AW.exit ?_
 refine AW.seq ?_
 refine AW.seq ?_
 refine AW.gD Tryz_mix ?_
 refine At.a 3 ?_
 refine At.c (spec_l10End_spec  r ) Tryz.call65 true [] [] [] trivial ?_
 refine At.a 2 ?_
 by_cases h18 : m.at_ > (r.hard.log.length : Int)
 · refine At.sB 51 _ _ (sayT h18) ?_
   have hrow : rowB m = true := by (have q := hR; rw [List.drop_of_length_le (by omega), rowGo] at q; unfold rowB; first | (rw [if_pos (by omega)]; exact q) | (rw [if_neg (by omega)]; exact q))
   refine At.zD 14 ?_
   refine AW.cond true (by kernel_rfl) (fun _ => ?_) (fun h => by cases h)
   refine AW.q 1 ?_
   exact AW.ret (rf (k1 (K_spec_l10Fits _ r m) (show (true) = (rowB m && !cutsB r m) from by have q : fitsB r.hard.log m = false := (by grind [fitsB]); rw [hrow, cutsB, q]; rfl) (KF.n [])))
 refine At.sB 51 _ _ (sayF h18) ?_
 have hrow : rowB m = true := by (have q := hR; rw [List.drop_of_length_le (by omega), rowGo] at q; unfold rowB; first | (rw [if_pos (by omega)]; exact q) | (rw [if_neg (by omega)]; exact q))
 refine At.a 4 ?_
 refine At.sB 55 _ _ (sayF h1) ?_
 refine At.zD 10 ?_
 refine AW.cond false (by kernel_rfl) (fun h => by cases h) (fun _ => ?_)
 refine AW.skip ?_
 refine AW.seq ?_
 refine AW.q 1 ?_
 refine AW.block ?_
 have hfit : fitsB r.hard.log m = true := by grind [fitsB]
 refine AW.loopW (fun (j : Nat) => Go.Sy.mk [.un, .un, .ptr 102 0 0, .ptr 103 0 0, .un, .un, .un, .int .i64 (j : Int)] [(102, .box 29 [.int .i64 r.id, .int .i64 r.of_, .int .i64 r.role, .int .i64 r.commit, .int .i64 r.hard.term, .int .i64 r.hard.vote, .sl false 6 (r.hard.log.map encEnt), .sl false 1 (r.yes.map encI), .sl false 1 (r.next.map encI), .sl false 1 (r.match_.map encI)]), (103, .box 33 [.int .i64 m.kind, .int .i64 m.from_, .int .i64 m.term, .int .i64 m.at_, .int .i64 m.atTerm, .int .i64 m.commit, .bool m.yes, .int .i64 m.release, .int .i64 m.part, .str m.bytes, .int .i64 m.cmd.kind, .int .i64 m.cmd.release, .int .i64 m.cmd.node, .int .i64 m.cmd.size, .str m.cmd.digest, .sl false 6 (m.entries.map encEnt)])]) (fun (j : Nat) => j ≤ m.entries.length ∧ cutGo r.hard.log r.commit m.at_ m.entries = cutGo r.hard.log r.commit (m.at_ + (j : Int)) (m.entries.drop j)) (fun (j : Nat) => m.entries.length - j) 0 ⟨by omega, by rw [List.drop_zero]; simp⟩ (Sub.o [(102, 102), (103, 103)] [false, false, true, true, false, false, false, true]) ?_
 rintro j ⟨hkj, hQ⟩
 refine AW.seq ?_
 refine AW.r ?_
 refine At.a 4 ?_
 refine At.sL 69 encEnt m.entries ?_
 refine At.z 1 ?_
 refine AW.cD ((j : Int) < (m.entries.length : Int)) (fun h20 => ?_) (fun h20 => ?_)
 · refine AW.skip ?_
   refine AW.seq ?_
   refine AW.block ?_
   refine AW.r ?_
   refine At.a 3 ?_
   refine At.sI 75 (m.at_ + 1) (by omega) ?_
   refine At.a 2 ?_
   refine At.say 77 (.int .i64 (IntKind.i64.wrap ((m.at_ + 1) + (j : Int)))) (.int .i64 (m.at_ + (j : Int) + 1)) (by kernel_rfl) (sayAs (by omega) (by omega)) ?_
   refine At.z 1 ?_
   refine AW.seq ?_
   refine AW.seq ?_
   refine AW.gD Tryz_mix ?_
   refine At.a 5 ?_
   by_cases h21 : (m.at_ + (j : Int) + 1) ≤ r.commit
   · refine At.sB 82 _ _ (sayT h21) ?_
     refine At.a 3 ?_
     refine At.c (spec_l10Term_spec  r.hard (m.at_ + (j : Int) + 1) (by omega)) Tryz.call115 true [] [] [] trivial ?_
     refine At.a 3 ?_
     refine At.iSl 24 90 (.tmp 88) (.tmp 89) false 6 (m.entries.map encEnt) .i64 (j : Int) 45 (by omega) (by simp only [List.length_map]; omega) ?_
     refine At.a 1 ?_
     refine Exists.elim (gE m.entries j (by omega)) fun e5 he5 => ?_
     refine At.lVp 3 92 (.tmp 91) false 6 (m.entries.map encEnt) j 0 false 1 (encEnt e5) (.int .i64 e5.term) (mapGet he5) ?_
     refine At.zD 2 ?_
     refine AW.cU (termAt r.hard.log (m.at_ + (j : Int) + 1)) e5.term (fun h22 => ?_) (fun h22 => ?_)
     · refine AW.q 1 ?_
       exact AW.ret (rf (k1 (K_spec_l10Fits _ r m) (show (false) = (rowB m && !cutsB r m) from by have q : cutsB r m = true := (by first | (rw [cutsB, hfit, Bool.true_and, hQ, List.drop_of_length_le (by omega), cutGo]; rw [decide_eq_true (by omega)]) | (rw [cutsB, hfit, Bool.true_and, hQ, dropCons (List.getElem?_eq_getElem (l := m.entries) (i := j) (by omega)), cutGo, if_neg (by omega)]; rw [decide_eq_true (by omega)]) | (rw [cutsB, hfit, Bool.true_and, hQ, dropCons (by assumption), cutGo, if_pos (by omega), if_neg (by assumption)]; rw [decide_eq_true (by omega)])); rw [hrow, q]; rfl) (KF.n [])))
     refine AW.skip ?_
     refine AW.seq ?_
     refine AW.gD Tryz_mix ?_
     refine At.a 2 ?_
     refine At.c (spec_l10End_spec  r ) Tryz.call65 true [] [] [] trivial ?_
     refine At.a 2 ?_
     by_cases h23 : (m.at_ + (j : Int) + 1) > (r.hard.log.length : Int)
     · refine At.sB 99 _ _ (sayT h23) ?_
       refine At.zD 12 ?_
       refine AW.cond true (by kernel_rfl) (fun _ => ?_) (fun h => by cases h)
       refine AW.q 1 ?_
       exact AW.ret (rf (k1 (K_spec_l10Fits _ r m) (show (true) = (rowB m && !cutsB r m) from by have q : fitsB r.hard.log m = false := (by grind [fitsB]); rw [hrow, cutsB, q]; rfl) (KF.n [])))
     refine At.sB 99 _ _ (sayF h23) ?_
     refine At.a 3 ?_
     refine At.c (spec_l10Term_spec  r.hard (m.at_ + (j : Int) + 1) (by omega)) Tryz.call115 true [] [] [] trivial ?_
     refine At.a 3 ?_
     refine At.iSl 24 107 (.tmp 105) (.tmp 106) false 6 (m.entries.map encEnt) .i64 (j : Int) 45 (by omega) (by simp only [List.length_map]; omega) ?_
     refine At.a 1 ?_
     refine At.lVp 3 109 (.tmp 108) false 6 (m.entries.map encEnt) j 0 false 1 (encEnt e5) (.int .i64 e5.term) (mapGet he5) ?_
     refine At.zD 2 ?_
     refine AW.cU (termAt r.hard.log (m.at_ + (j : Int) + 1)) e5.term (fun h24 => ?_) (fun h24 => ?_)
     · refine AW.q 1 ?_
       exact AW.ret (rf (k1 (K_spec_l10Fits _ r m) (show (true) = (rowB m && !cutsB r m) from by have q : fitsB r.hard.log m = false := (by grind [fitsB]); rw [hrow, cutsB, q]; rfl) (KF.n [])))
     refine AW.skip ?_
     refine AW.g ?_
     refine At.a 2 ?_
     refine At.sI 72 ((j : Int) + 1) (by omega) ?_
     refine At.z 1 ?_
     exact ⟨j + 1, ⟨by omega, by rw [hQ, dropCons (by assumption), cutGo, if_pos (by omega), if_pos (by assumption), show m.at_ + ((j + 1 : Nat) : Int) = m.at_ + (j : Int) + 1 from by omega]⟩, (by omega), Sub.o [(102, 102), (103, 103)] [false, false, true, true, false, false, false, true]⟩
   refine At.sB 82 _ _ (sayF h21) ?_
   refine At.zD 12 ?_
   refine AW.cond false (by kernel_rfl) (fun h => by cases h) (fun _ => ?_)
   refine AW.skip ?_
   refine AW.seq ?_
   refine AW.gD Tryz_mix ?_
   refine At.a 2 ?_
   refine At.c (spec_l10End_spec  r ) Tryz.call65 true [] [] [] trivial ?_
   refine At.a 2 ?_
   by_cases h25 : (m.at_ + (j : Int) + 1) > (r.hard.log.length : Int)
   · refine At.sB 99 _ _ (sayT h25) ?_
     refine At.zD 12 ?_
     refine AW.cond true (by kernel_rfl) (fun _ => ?_) (fun h => by cases h)
     refine AW.q 1 ?_
     exact AW.ret (rf (k1 (K_spec_l10Fits _ r m) (show (true) = (rowB m && !cutsB r m) from by have q : cutsB r m = false := (by first | (rw [cutsB, hfit, Bool.true_and, hQ, List.drop_of_length_le (by omega), cutGo]; done) | (rw [cutsB, hfit, Bool.true_and, hQ, dropCons (List.getElem?_eq_getElem (l := m.entries) (i := j) (by omega)), cutGo, if_neg (by omega)]; done) | (rw [cutsB, hfit, Bool.true_and, hQ, dropCons (by assumption), cutGo, if_pos (by omega), if_neg (by assumption)]; done) | (rw [cutsB, hfit, Bool.true_and, hQ, List.drop_of_length_le (by omega), cutGo]; rw [decide_eq_false (by omega)]) | (rw [cutsB, hfit, Bool.true_and, hQ, dropCons (List.getElem?_eq_getElem (l := m.entries) (i := j) (by omega)), cutGo, if_neg (by omega)]; rw [decide_eq_false (by omega)]) | (rw [cutsB, hfit, Bool.true_and, hQ, dropCons (by assumption), cutGo, if_pos (by omega), if_neg (by assumption)]; rw [decide_eq_false (by omega)])); rw [hrow, q]; rfl) (KF.n [])))
   refine At.sB 99 _ _ (sayF h25) ?_
   refine At.a 3 ?_
   refine At.c (spec_l10Term_spec  r.hard (m.at_ + (j : Int) + 1) (by omega)) Tryz.call115 true [] [] [] trivial ?_
   refine At.a 3 ?_
   refine At.iSl 24 107 (.tmp 105) (.tmp 106) false 6 (m.entries.map encEnt) .i64 (j : Int) 45 (by omega) (by simp only [List.length_map]; omega) ?_
   refine At.a 1 ?_
   refine Exists.elim (gE m.entries j (by omega)) fun e6 he6 => ?_
   refine At.lVp 3 109 (.tmp 108) false 6 (m.entries.map encEnt) j 0 false 1 (encEnt e6) (.int .i64 e6.term) (mapGet he6) ?_
   refine At.zD 2 ?_
   refine AW.cU (termAt r.hard.log (m.at_ + (j : Int) + 1)) e6.term (fun h26 => ?_) (fun h26 => ?_)
   · refine AW.q 1 ?_
     exact AW.ret (rf (k1 (K_spec_l10Fits _ r m) (show (true) = (rowB m && !cutsB r m) from by have q : cutsB r m = false := (by first | (rw [cutsB, hfit, Bool.true_and, hQ, List.drop_of_length_le (by omega), cutGo]; done) | (rw [cutsB, hfit, Bool.true_and, hQ, dropCons (List.getElem?_eq_getElem (l := m.entries) (i := j) (by omega)), cutGo, if_neg (by omega)]; done) | (rw [cutsB, hfit, Bool.true_and, hQ, dropCons (by assumption), cutGo, if_pos (by omega), if_neg (by assumption)]; done) | (rw [cutsB, hfit, Bool.true_and, hQ, List.drop_of_length_le (by omega), cutGo]; rw [decide_eq_false (by omega)]) | (rw [cutsB, hfit, Bool.true_and, hQ, dropCons (List.getElem?_eq_getElem (l := m.entries) (i := j) (by omega)), cutGo, if_neg (by omega)]; rw [decide_eq_false (by omega)]) | (rw [cutsB, hfit, Bool.true_and, hQ, dropCons (by assumption), cutGo, if_pos (by omega), if_neg (by assumption)]; rw [decide_eq_false (by omega)])); rw [hrow, q]; rfl) (KF.n [])))
   refine AW.skip ?_
   refine AW.g ?_
   refine At.a 2 ?_
   refine At.sI 72 ((j : Int) + 1) (by omega) ?_
   refine At.z 1 ?_
   exact ⟨j + 1, ⟨by omega, by rw [hQ, dropCons (by assumption), cutGo, if_pos (by omega), if_pos (by assumption), show m.at_ + ((j + 1 : Nat) : Int) = m.at_ + (j : Int) + 1 from by omega]⟩, (by omega), Sub.o [(102, 102), (103, 103)] [false, false, true, true, false, false, false, true]⟩
 refine AW.exit ?_
 refine AW.q 1 ?_
 exact AW.ret (rf (k1 (K_spec_l10Fits _ r m) (show (true) = (rowB m && !cutsB r m) from by have q : cutsB r m = false := (by first | (rw [cutsB, hfit, Bool.true_and, hQ, List.drop_of_length_le (by omega), cutGo]; done) | (rw [cutsB, hfit, Bool.true_and, hQ, dropCons (List.getElem?_eq_getElem (l := m.entries) (i := j) (by omega)), cutGo, if_neg (by omega)]; done) | (rw [cutsB, hfit, Bool.true_and, hQ, dropCons (by assumption), cutGo, if_pos (by omega), if_neg (by assumption)]; done) | (rw [cutsB, hfit, Bool.true_and, hQ, List.drop_of_length_le (by omega), cutGo]; rw [decide_eq_false (by omega)]) | (rw [cutsB, hfit, Bool.true_and, hQ, dropCons (List.getElem?_eq_getElem (l := m.entries) (i := j) (by omega)), cutGo, if_neg (by omega)]; rw [decide_eq_false (by omega)]) | (rw [cutsB, hfit, Bool.true_and, hQ, dropCons (by assumption), cutGo, if_pos (by omega), if_neg (by assumption)]; rw [decide_eq_false (by omega)])); rw [hrow, q]; rfl) (KF.n [])))
theorem spec_l1Max_spec  (a : Int) (b : Int) : FnSpec Tryz.prog 59 [.int .i64 a, .int .i64 b] [] (.int .i64 (max a b)) [] := by
 refine FnSpec.of 10 Tryz.func59 rfl Tryz.ntmps59 (by simp) (AW.weakK ?_)
 refine AW.q 1 ?_
 refine AW.seq ?_
 refine AW.q 3 ?_
 refine AW.cD (a > b) (fun h1 => ?_) (fun h1 => ?_)
 · refine AW.q 2 ?_
   refine AW.ret ?_
   refine ⟨_, Sub.refl _ _, ?_⟩
   refine KF.conv (fun w => .int .i64 w) (fun w => []) (show (a) = (max a b) from by omega) ?_
   exact KF.n []
 refine AW.skip ?_
 refine AW.q 2 ?_
 refine AW.ret ?_
 refine ⟨_, Sub.refl _ _, ?_⟩
 refine KF.conv (fun w => .int .i64 w) (fun w => []) (show (b) = (max a b) from by omega) ?_
 exact KF.n []
end Go.Proofs.YtlmadhahghiedaaGreat
