/- The contracts of the functions that FnSent reaches (each: what it answers, said over values), printed by a program of this session (wip/sy/g/gen.py). -/
import Derived.Test.YtlmadhahghiedaaGreatFFnSent3
set_option linter.unusedVariables false
set_option linter.unusedSimpArgs false
set_option maxRecDepth 100000
set_option maxHeartbeats 4000000
namespace Go.Proofs.YtlmadhahghiedaaGreat
open Go Go.Sy Go.Proofs
def K_spec_OnSend (rs : List ResultVar) (r : Raft) (m : Msg) (w0_ : Raft) (w1_ : List Rec) (w2_ : List Out) : Exit → Sg → Prop := KF Tryz.prog 0 rs (.tup [.agg [.int .i64 w0_.id, .int .i64 w0_.of_, .int .i64 w0_.role, .int .i64 w0_.commit, .int .i64 w0_.hard.term, .int .i64 w0_.hard.vote, .ref 0, .ref 1, .ref 2, .ref 3], .ref 4, .ref 5]) [.arr 45 6 (w0_.hard.log.map encEnt), .arr 3 1 (w0_.yes.map encI), .arr 3 1 (w0_.next.map encI), .arr 3 1 (w0_.match_.map encI), .arr 47 10 (w1_.map encRec), .arr 51 17 (w2_.map encOut)]
theorem spec_OnSend_spec  (r : Raft) (m : Msg) (hz : SmallR r) (hm : m.entries.length ≤ 1048576) : FnSpec Tryz.prog 53 [(raftA r), (msgA m)] [] (.tup [.agg [.int .i64 (((sends r m).1).id), .int .i64 (((sends r m).1).of_), .int .i64 (((sends r m).1).role), .int .i64 (((sends r m).1).commit), .int .i64 (((sends r m).1).hard.term), .int .i64 (((sends r m).1).hard.vote), .ref 0, .ref 1, .ref 2, .ref 3], .ref 4, .ref 5]) [.arr 45 6 ((((sends r m).1).hard.log).map encEnt), .arr 3 1 ((((sends r m).1).yes).map encI), .arr 3 1 ((((sends r m).1).next).map encI), .arr 3 1 ((((sends r m).1).match_).map encI), .arr 47 10 (((sends r m).2.1).map encRec), .arr 51 17 (((sends r m).2.2).map encOut)] := by
 obtain ⟨z1, z2, z3, z4⟩ := id hz
 refine FnSpec.of 201 Tryz.func53 rfl Tryz.ntmps53 (by simp) (AW.weakK ?_)
 by_cases hok : raftOk r = true
 · have hokn := raftOk1_nums (raftOk_1 hok)
   refine AW.q 5 ?_
   refine AW.seq ?_
   refine AW.weak (Sub.nils [⟨true, 104, some 6, 5001, 45, 6⟩, ⟨true, 104, some 7, 5002, 3, 1⟩, ⟨true, 104, some 8, 5003, 3, 1⟩, ⟨true, 104, some 9, 5004, 3, 1⟩] (by kernel_rfl)) ?_
   refine AW.g ?_
   refine At.a 1 ?_
   refine At.c (spec_l10Same_T_spec  r hz hok) Tryz.call97 true [] [(1320, 0), (1321, 1), (1322, 2), (1323, 3)] [] trivial ?_
   refine At.lit0 (t := 37) (d := 17) (e := 47) (es := 10) (bytes := 88) 117 (by kernel_rfl) (by kernel_rfl) (by kernel_rfl) (by kernel_rfl) ?_
   refine At.lit0 (t := 38) (d := 18) (e := 51) (es := 17) (bytes := 168) 118 (by kernel_rfl) (by kernel_rfl) (by kernel_rfl) (by kernel_rfl) ?_
   refine At.z 4 ?_
   refine AW.seq ?_
   refine AW.r ?_
   refine At.a 2 ?_
   refine At.c (spec_l10Hears_spec  r m 3 hz hm) Tryz.call108 true [] [] [] trivial ?_
   refine At.a 2 ?_
   by_cases h1 : (hears r m 3) = true
   · refine At.sB 23 (!(hears r m 3)) false (sayNF (sayB h1)) ?_
     have hhr := hears_ok h1
     have hnu := msgFits_nums hhr.2.1
     refine At.a 2 ?_
     refine At.c (spec_l10Fits_spec  r m hz hm hnu.2.1 (by omega)) Tryz.call137 true [] [] [] trivial ?_
     refine At.z 2 ?_
     refine AW.cNB (rowB m && !cutsB r m) (fun h2 => ?_) (fun h2 => ?_)
     · refine AW.q 6 ?_
       exact AW.ret (rf (k3 (K_spec_OnSend _ r m) (show (r) = ((sends r m).1) from by rw [sends_no (sendB_not2 (by first | exact .inl (by assumption) | exact .inr (by assumption))) hok]; first | done | rfl | (rw [endRecs_ne (by dsimp only; omega)]; rfl) | (rw [endRecs_eq rfl rfl]; done) | (rw [endRecs_eq rfl rfl]; rfl) | (rw [show r.hard.term = m.term from by omega]; rfl)) (show ([]) = ((sends r m).2.1) from by rw [sends_no (sendB_not2 (by first | exact .inl (by assumption) | exact .inr (by assumption))) hok]; first | done | rfl | (rw [endRecs_ne (by dsimp only; omega)]; rfl) | (rw [endRecs_eq rfl rfl]; done) | (rw [endRecs_eq rfl rfl]; rfl) | (rw [show r.hard.term = m.term from by omega]; rfl)) (show ([]) = ((sends r m).2.2) from by rw [sends_no (sendB_not2 (by first | exact .inl (by assumption) | exact .inr (by assumption))) hok]; first | done | rfl | (rw [endRecs_ne (by dsimp only; omega)]; rfl) | (rw [endRecs_eq rfl rfl]; done) | (rw [endRecs_eq rfl rfl]; rfl) | (rw [show r.hard.term = m.term from by omega]; rfl)) (KF.n [(1320, 0), (1321, 1), (1322, 2), (1323, 3), (117, 4), (118, 5)])))
     refine AW.skip ?_
     refine AW.q 8 ?_
     refine AW.seq ?_
     refine AW.seq ?_
     refine AW.weak (Sub.nils [⟨true, 110, some 15, 5005, 45, 6⟩] (by kernel_rfl)) ?_
     refine AW.gq 6 ?_
     refine AW.cD (m.term < r.hard.term) (fun h3 => ?_) (fun h3 => ?_)
     · refine AW.seq ?_
       refine AW.gD Tryz_mix ?_
       refine At.a 7 ?_
       refine At.lk 51 51 17 151 (45, 6) [5005] (([(⟨m.from_, ⟨4, r.id, r.hard.term, 0, 0, 0, false, 0, 0, (⟨#[]⟩ : ByteArray), ⟨0, 0, 0, 0, (⟨#[]⟩ : ByteArray)⟩, []⟩⟩ : Out)]).map encOut) [(45, 6, [])] (by intro p hp; simp only [List.mem_cons, List.not_mem_nil, or_false] at hp; subst hp; all_goals first | exact flatEnts | exact flatInts | (intro x hx; cases hx)) ?_
       refine At.apK 52 51 17 168 152 118 151 encOut ([] : List Out) ([(⟨m.from_, ⟨4, r.id, r.hard.term, 0, 0, 0, false, 0, 0, (⟨#[]⟩ : ByteArray), ⟨0, 0, 0, 0, (⟨#[]⟩ : ByteArray)⟩, []⟩⟩ : Out)]) (by simp only [List.length_map, List.length_append, List.length_take, List.length_drop, List.length_replicate, List.length_set, List.length_cons, List.length_nil]; omega) ?_
       refine At.zD 3 ?_
       exact AW.ret (rf (k3 (K_spec_OnSend _ r m) (show (r) = ((sends r m).1) from by rw [sends_old (sendB_of2 h1 h2) (by omega)]; first | done | rfl | (rw [endRecs_ne (by dsimp only; omega)]; rfl) | (rw [endRecs_eq rfl rfl]; done) | (rw [endRecs_eq rfl rfl]; rfl) | (rw [show r.hard.term = m.term from by omega]; rfl)) (show ([]) = ((sends r m).2.1) from by rw [sends_old (sendB_of2 h1 h2) (by omega)]; first | done | rfl | (rw [endRecs_ne (by dsimp only; omega)]; rfl) | (rw [endRecs_eq rfl rfl]; done) | (rw [endRecs_eq rfl rfl]; rfl) | (rw [show r.hard.term = m.term from by omega]; rfl)) (show ([(⟨m.from_, ⟨4, r.id, r.hard.term, 0, 0, 0, false, 0, 0, (⟨#[]⟩ : ByteArray), ⟨0, 0, 0, 0, (⟨#[]⟩ : ByteArray)⟩, []⟩⟩ : Out)]) = ((sends r m).2.2) from by rw [sends_old (sendB_of2 h1 h2) (by omega)]; first | done | rfl | (rw [endRecs_ne (by dsimp only; omega)]; rfl) | (rw [endRecs_eq rfl rfl]; done) | (rw [endRecs_eq rfl rfl]; rfl) | (rw [show r.hard.term = m.term from by omega]; rfl)) (KF.n [(1320, 0), (1321, 1), (1322, 2), (1323, 3), (117, 4), (152, 5)])))
     refine AW.skip ?_
     refine AW.seq ?_
     refine AW.q 6 ?_
     refine AW.cD (m.term > r.hard.term) (fun h4 => ?_) (fun h4 => ?_)
     · refine AW.r ?_
       refine At.a 3 ?_
       refine At.c (spec_l10Follow_spec  r m.term ) Tryz.call109 true [(1320, 0), (1321, 1), (1322, 2), (1323, 3)] [(2240, 4), (2241, 5), (2242, 6)] [] trivial ?_
       refine At.z 1 ?_
       refine AW.g ?_
       refine At.a 2 ?_
       refine At.c (spec_l10Vote_spec  (⟨r.id, r.of_, 1, r.commit, ⟨m.term, 0, r.hard.log⟩, [], [], []⟩ : Raft) ) Tryz.call98 false [] [] [(1320, 6, (r.hard.log.map encEnt)), (2240, 1, []), (2241, 1, []), (2242, 1, [])] ⟨rfl, ⟨45, (r.hard.log.map encEnt), by kernel_rfl, FrzIs.same (allP_encEnt _)⟩, rfl, ⟨3, [], by kernel_rfl, FrzIs.same (fun _ h => by cases h)⟩, rfl, ⟨3, [], by kernel_rfl, FrzIs.same (fun _ h => by cases h)⟩, rfl, ⟨3, [], by kernel_rfl, FrzIs.same (fun _ h => by cases h)⟩, trivial⟩ ?_
       refine At.ll 66 47 10 166 (45, 6) (([(⟨1, m.term, 0, 0, ⟨0, ⟨0, 0, 0, 0, (⟨#[]⟩ : ByteArray)⟩⟩⟩ : Rec)]).map encRec) ?_
       refine At.apK 67 47 10 88 167 117 166 encRec ([] : List Rec) ([(⟨1, m.term, 0, 0, ⟨0, ⟨0, 0, 0, 0, (⟨#[]⟩ : ByteArray)⟩⟩⟩ : Rec)]) (by simp only [List.length_map, List.length_append, List.length_take, List.length_drop, List.length_replicate, List.length_set, List.length_cons, List.length_nil]; omega) ?_
       refine At.z 1 ?_
       refine AW.r ?_
       refine At.a 1 ?_
       refine At.c (spec_l10Rest_spec  (⟨r.id, r.of_, 1, r.commit, ⟨m.term, 0, r.hard.log⟩, [], [], []⟩ : Raft) ) Tryz.call138 true [(1320, 0), (2240, 1), (2241, 2), (2242, 3)] [(2500, 4), (2501, 5), (2502, 6)] [] trivial ?_
       refine At.z 1 ?_
       refine AW.q 4 ?_
       refine AW.r ?_
       refine At.a 1 ?_
       refine At.c (spec_l10End_spec  (⟨r.id, r.of_, 1, r.commit, ⟨m.term, 0, r.hard.log⟩, [], [], []⟩ : Raft) ) Tryz.call65 false [] [] [(1320, 6, (r.hard.log.map encEnt)), (2500, 1, []), (2501, 1, []), (2502, 1, [])] ⟨rfl, ⟨45, (r.hard.log.map encEnt), by kernel_rfl, FrzIs.same (allP_encEnt _)⟩, rfl, ⟨3, [], by kernel_rfl, FrzIs.same (fun _ h => by cases h)⟩, rfl, ⟨3, [], by kernel_rfl, FrzIs.same (fun _ h => by cases h)⟩, rfl, ⟨3, [], by kernel_rfl, FrzIs.same (fun _ h => by cases h)⟩, trivial⟩ ?_
       refine At.z 1 ?_
       refine AW.seq ?_
       refine AW.seq ?_
       refine AW.cut [(102, 102), (103, 103), (104, 104), (107, 107), (110, 110), (118, 118), (167, 167), (1320, 1320), (1321, 1321), (1322, 1322), (1323, 1323), (2240, 2240), (2241, 2241), (2242, 2242), (2500, 2500), (2501, 2501), (2502, 2502), (5001, 5001), (5002, 5002), (5003, 5003), (5004, 5004), (5005, 5005)] [false, false, false, true, true, false, false, true, true, true, true, true] 99 (!(fitsB r.hard.log m)) ?_ ?_
       · refine AW.gD Tryz_mix ?_
         refine At.a 5 ?_
         by_cases h5 : m.at_ > (r.hard.log.length : Int)
         · refine At.sB 85 _ _ (sayT h5) ?_
           refine At.a 14 ?_
           refine At.sB 99 true (!(fitsB r.hard.log m)) (congrArg V.bool (by grind [fitsB])) ?_
           refine At.done rfl ⟨by kernel_rfl, rfl, ?_⟩
           exact Sub.cut [(102, 102), (103, 103), (104, 104), (107, 107), (110, 110), (118, 118), (167, 167), (1320, 1320), (1321, 1321), (1322, 1322), (1323, 1323), (2240, 2240), (2241, 2241), (2242, 2242), (2500, 2500), (2501, 2501), (2502, 2502), (5001, 5001), (5002, 5002), (5003, 5003), (5004, 5004), (5005, 5005)] [false, false, false, true, true, false, false, true, true, true, true, true] 99 _ (by kernel_rfl) (by kernel_rfl) (by kernel_rfl) (by kernel_rfl)
         refine At.sB 85 _ _ (sayF h5) ?_
         refine At.a 4 ?_
         by_cases h6 : m.at_ > 0
         · refine At.sB 89 _ _ (sayT h6) ?_
           refine At.a 4 ?_
           refine At.c (spec_l10Term_spec  (⟨m.term, 0, r.hard.log⟩ : Hard) m.at_ (by omega)) Tryz.call115 false [] [] [(1320, 6, (r.hard.log.map encEnt))] ⟨rfl, ⟨45, (r.hard.log.map encEnt), by kernel_rfl, FrzIs.same (allP_encEnt _)⟩, trivial⟩ ?_
           refine At.a 5 ?_
           refine At.sB 99 ((termAt r.hard.log m.at_) != m.atTerm) (!(fitsB r.hard.log m)) (congrArg V.bool (by grind [fitsB])) ?_
           refine At.done rfl ⟨by kernel_rfl, rfl, ?_⟩
           exact Sub.cut [(102, 102), (103, 103), (104, 104), (107, 107), (110, 110), (118, 118), (167, 167), (1320, 1320), (1321, 1321), (1322, 1322), (1323, 1323), (2240, 2240), (2241, 2241), (2242, 2242), (2500, 2500), (2501, 2501), (2502, 2502), (5001, 5001), (5002, 5002), (5003, 5003), (5004, 5004), (5005, 5005)] [false, false, false, true, true, false, false, true, true, true, true, true] 99 _ (by kernel_rfl) (by kernel_rfl) (by kernel_rfl) (by kernel_rfl)
         refine At.sB 89 _ _ (sayF h6) ?_
         refine At.a 10 ?_
         refine At.sB 99 false (!(fitsB r.hard.log m)) (congrArg V.bool (by grind [fitsB])) ?_
         refine At.done rfl ⟨by kernel_rfl, rfl, ?_⟩
         exact Sub.cut [(102, 102), (103, 103), (104, 104), (107, 107), (110, 110), (118, 118), (167, 167), (1320, 1320), (1321, 1321), (1322, 1322), (1323, 1323), (2240, 2240), (2241, 2241), (2242, 2242), (2500, 2500), (2501, 2501), (2502, 2502), (5001, 5001), (5002, 5002), (5003, 5003), (5004, 5004), (5005, 5005)] [false, false, false, true, true, false, false, true, true, true, true, true] 99 _ (by kernel_rfl) (by kernel_rfl) (by kernel_rfl) (by kernel_rfl)
       refine AW.cNB (fitsB r.hard.log m) (fun h7 => ?_) (fun h7 => ?_)
       · refine AW.r ?_
         refine At.a 4 ?_
         refine At.sI 103 (m.at_ - 1) (by omega) ?_
         refine At.c (spec_l1Min_spec  (r.hard.log.length : Int) (m.at_ - 1) ) Tryz.call111 true [] [] [] trivial ?_
         refine At.z 2 ?_
         refine AW.seq ?_
         refine AW.gD Tryz_mix ?_
         refine At.a 7 ?_
         refine At.lk 113 51 17 213 (45, 6) [5005] (([(⟨m.from_, ⟨4, r.id, m.term, min (r.hard.log.length : Int) (m.at_ - 1), 0, 0, false, 0, 0, (⟨#[]⟩ : ByteArray), ⟨0, 0, 0, 0, (⟨#[]⟩ : ByteArray)⟩, []⟩⟩ : Out)]).map encOut) [(45, 6, [])] (by intro p hp; simp only [List.mem_cons, List.not_mem_nil, or_false] at hp; subst hp; all_goals first | exact flatEnts | exact flatInts | (intro x hx; cases hx)) ?_
         refine At.apK 114 51 17 168 214 118 213 encOut ([] : List Out) ([(⟨m.from_, ⟨4, r.id, m.term, min (r.hard.log.length : Int) (m.at_ - 1), 0, 0, false, 0, 0, (⟨#[]⟩ : ByteArray), ⟨0, 0, 0, 0, (⟨#[]⟩ : ByteArray)⟩, []⟩⟩ : Out)]) (by simp only [List.length_map, List.length_append, List.length_take, List.length_drop, List.length_replicate, List.length_set, List.length_cons, List.length_nil]; omega) ?_
         refine At.zD 3 ?_
         exact AW.ret (rf (k3 (K_spec_OnSend _ r m) (show ((⟨r.id, r.of_, 1, r.commit, ⟨m.term, 0, r.hard.log⟩, [], [], []⟩ : Raft)) = ((sends r m).1) from by rw [sends_far1 (sendB_of2 h1 h2) (by omega) (by assumption)]; first | done | rfl | (rw [endRecs_ne (by dsimp only; omega)]; rfl) | (rw [endRecs_eq rfl rfl]; done) | (rw [endRecs_eq rfl rfl]; rfl) | (rw [show r.hard.term = m.term from by omega]; rfl)) (show ([(⟨1, m.term, 0, 0, ⟨0, ⟨0, 0, 0, 0, (⟨#[]⟩ : ByteArray)⟩⟩⟩ : Rec)]) = ((sends r m).2.1) from by rw [sends_far1 (sendB_of2 h1 h2) (by omega) (by assumption)]; first | done | rfl | (rw [endRecs_ne (by dsimp only; omega)]; rfl) | (rw [endRecs_eq rfl rfl]; done) | (rw [endRecs_eq rfl rfl]; rfl) | (rw [show r.hard.term = m.term from by omega]; rfl)) (show ([(⟨m.from_, ⟨4, r.id, m.term, min (r.hard.log.length : Int) (m.at_ - 1), 0, 0, false, 0, 0, (⟨#[]⟩ : ByteArray), ⟨0, 0, 0, 0, (⟨#[]⟩ : ByteArray)⟩, []⟩⟩ : Out)]) = ((sends r m).2.2) from by rw [sends_far1 (sendB_of2 h1 h2) (by omega) (by assumption)]; first | done | rfl | (rw [endRecs_ne (by dsimp only; omega)]; rfl) | (rw [endRecs_eq rfl rfl]; done) | (rw [endRecs_eq rfl rfl]; rfl) | (rw [show r.hard.term = m.term from by omega]; rfl)) (KF.n [(1320, 0), (2500, 1), (2501, 2), (2502, 3), (167, 4), (214, 5)])))
       have hfit := h7
       have hat := fitsB_at hfit
       refine AW.skip ?_
       refine AW.q 3 ?_
       refine AW.seq ?_
       refine AW.q 1 ?_
       refine AW.block ?_
       refine AW.loopW (fun (x : Nat × Int × List Ent × List Rec) => match x with | (k, b, lg, rc) => Go.Sy.mk [.un, .un, .un, .ptr 103 0 0, .ptr 104 0 0, .un, .un, .ptr 107 0 0, .ref 167, .ref 118, .ptr 110 0 0, .un, .int .i64 b, .int .i64 (k : Int)] [(103, .box 33 [.int .i64 m.kind, .int .i64 m.from_, .int .i64 m.term, .int .i64 m.at_, .int .i64 m.atTerm, .int .i64 m.commit, .bool m.yes, .int .i64 m.release, .int .i64 m.part, .str m.bytes, .int .i64 m.cmd.kind, .int .i64 m.cmd.release, .int .i64 m.cmd.node, .int .i64 m.cmd.size, .str m.cmd.digest, .sl false 6 (m.entries.map encEnt)]), (104, .box 29 [.int .i64 0, .int .i64 0, .int .i64 0, .int .i64 0, .int .i64 0, .int .i64 0, .ref 5001, .ref 5002, .ref 5003, .ref 5004]), (107, .box 29 [.int .i64 r.id, .int .i64 r.of_, .int .i64 1, .int .i64 r.commit, .int .i64 m.term, .int .i64 0, .ref 1320, .ref 2500, .ref 2501, .ref 2502]), (110, .box 33 [.int .i64 4, .int .i64 r.id, .int .i64 m.term, .int .i64 0, .int .i64 0, .int .i64 0, .bool false, .int .i64 0, .int .i64 0, .str (⟨#[]⟩ : ByteArray), .int .i64 0, .int .i64 0, .int .i64 0, .int .i64 0, .str (⟨#[]⟩ : ByteArray), .ref 5005]), (118, .arr 51 17 []), (167, .arr 47 10 (rc.map encRec)), (1320, .arr 45 6 (lg.map encEnt)), (2500, .arr 3 1 []), (2501, .arr 3 1 []), (2502, .arr 3 1 []), (5001, .arr 45 6 []), (5002, .arr 3 1 []), (5003, .arr 3 1 []), (5004, .arr 3 1 []), (5005, .arr 45 6 [])]) (fun (x : Nat × Int × List Ent × List Rec) => match x with | (k, b, lg, rc) => k ≤ m.entries.length ∧ (b = m.at_ + (k : Int) ∧ b ≤ lg.length ∧ lg.length ≤ 80 ∧ rc.length ≤ 1000 + 2 * k) ∧ takeE m.entries m.at_ r.hard.log ([(⟨1, m.term, 0, 0, ⟨0, ⟨0, 0, 0, 0, (⟨#[]⟩ : ByteArray)⟩⟩⟩ : Rec)]) = takeE (m.entries.drop k) b lg rc) (fun (x : Nat × Int × List Ent × List Rec) => match x with | (k, b, lg, rc) => m.entries.length - k) (0, m.at_, r.hard.log, [(⟨1, m.term, 0, 0, ⟨0, ⟨0, 0, 0, 0, (⟨#[]⟩ : ByteArray)⟩⟩⟩ : Rec)]) ⟨by omega, (by simp only [List.length_cons, List.length_nil]; omega), by rw [List.drop_zero]⟩ (Sub.o [(103, 103), (104, 104), (107, 107), (110, 110), (118, 118), (167, 167), (1320, 1320), (2500, 2500), (2501, 2501), (2502, 2502), (5001, 5001), (5002, 5002), (5003, 5003), (5004, 5004), (5005, 5005)] [false, false, false, true, true, false, false, true, true, true, true, false, true, true]) ?_
       rintro ⟨k, b, lg, rc⟩ ⟨hk, hb, hR⟩
       refine AW.seq ?_
       refine AW.r ?_
       refine At.a 4 ?_
       refine At.sL 120 encEnt m.entries ?_
       refine At.z 1 ?_
       refine AW.cD ((k : Int) < (m.entries.length : Int)) (fun h8 => ?_) (fun h8 => ?_)
       · refine AW.skip ?_
         refine AW.seq ?_
         refine AW.block ?_
         refine AW.r ?_
         refine At.a 3 ?_
         refine At.sI 126 (m.at_ + 1) (by omega) ?_
         refine At.a 2 ?_
         refine At.say 128 (.int .i64 (IntKind.i64.wrap ((m.at_ + 1) + (k : Int)))) (.int .i64 (b + 1)) (by kernel_rfl) (sayAs (by omega) (by omega)) ?_
         refine At.z 1 ?_
         refine AW.seq ?_
         refine AW.seq ?_
         refine AW.gD Tryz_mix ?_
         refine At.a 2 ?_
         refine At.c (spec_l10End_spec  (⟨r.id, r.of_, 1, r.commit, ⟨m.term, 0, lg⟩, [], [], []⟩ : Raft) ) Tryz.call65 false [] [] [(1320, 6, (lg.map encEnt)), (2500, 1, []), (2501, 1, []), (2502, 1, [])] ⟨rfl, ⟨45, (lg.map encEnt), by kernel_rfl, FrzIs.same (allP_encEnt _)⟩, rfl, ⟨3, [], by kernel_rfl, FrzIs.same (fun _ h => by cases h)⟩, rfl, ⟨3, [], by kernel_rfl, FrzIs.same (fun _ h => by cases h)⟩, rfl, ⟨3, [], by kernel_rfl, FrzIs.same (fun _ h => by cases h)⟩, trivial⟩ ?_
         refine At.a 2 ?_
         by_cases h9 : (b + 1) ≤ (lg.length : Int)
         · refine At.sB 133 _ _ (sayT h9) ?_
           refine At.a 3 ?_
           refine At.c (spec_l10Term_spec  (⟨m.term, 0, lg⟩ : Hard) (b + 1) (by dsimp only; omega)) Tryz.call115 false [] [] [(1320, 6, (lg.map encEnt))] ⟨rfl, ⟨45, (lg.map encEnt), by kernel_rfl, FrzIs.same (allP_encEnt _)⟩, trivial⟩ ?_
           refine At.a 3 ?_
           refine At.iSl 24 141 (.tmp 139) (.tmp 140) false 6 (m.entries.map encEnt) .i64 (k : Int) 45 (by omega) (by simp only [List.length_map]; omega) ?_
           refine At.a 1 ?_
           refine Exists.elim (gE m.entries k (by omega)) fun e1 he1 => ?_
           refine At.lVp 3 143 (.tmp 142) false 6 (m.entries.map encEnt) k 0 false 1 (encEnt e1) (.int .i64 e1.term) (mapGet he1) ?_
           refine At.zD 2 ?_
           refine AW.cE (termAt lg (b + 1)) e1.term (fun h10 => ?_) (fun h10 => ?_)
           · refine AW.q 2 ?_
             refine AW.exit ?_
             refine AW.g ?_
             refine At.a 2 ?_
             refine At.sI 123 ((k : Int) + 1) (by omega) ?_
             refine At.z 1 ?_
             exact ⟨(k + 1, (b + 1), lg, rc), ⟨by omega, ⟨by omega, by omega, by omega, by omega⟩, by rw [hR, dropCons (by assumption), takeE_same (by omega) (by assumption)]⟩, (by simp only; omega), Sub.o [(103, 103), (104, 104), (107, 107), (110, 110), (118, 118), (167, 167), (1320, 1320), (2500, 2500), (2501, 2501), (2502, 2502), (5001, 5001), (5002, 5002), (5003, 5003), (5004, 5004), (5005, 5005)] [false, false, false, true, true, false, false, true, true, true, true, false, true, true]⟩
           refine AW.skip ?_
           refine AW.seq ?_
           refine AW.r ?_
           refine At.a 2 ?_
           refine At.c (spec_l10End_spec  (⟨r.id, r.of_, 1, r.commit, ⟨m.term, 0, lg⟩, [], [], []⟩ : Raft) ) Tryz.call65 false [] [] [(1320, 6, (lg.map encEnt)), (2500, 1, []), (2501, 1, []), (2502, 1, [])] ⟨rfl, ⟨45, (lg.map encEnt), by kernel_rfl, FrzIs.same (allP_encEnt _)⟩, rfl, ⟨3, [], by kernel_rfl, FrzIs.same (fun _ h => by cases h)⟩, rfl, ⟨3, [], by kernel_rfl, FrzIs.same (fun _ h => by cases h)⟩, rfl, ⟨3, [], by kernel_rfl, FrzIs.same (fun _ h => by cases h)⟩, trivial⟩ ?_
           refine At.z 1 ?_
           refine AW.condT (decide ((b + 1) ≤ (lg.length : Int))) (by kernel_rfl) (decide_eq_true h9) ?_
           refine AW.r ?_
           refine At.lit0 (t := 24) (d := 151) (e := 45) (es := 6) (bytes := 56) 251 (by kernel_rfl) (by kernel_rfl) (by kernel_rfl) (by kernel_rfl) ?_
           refine At.a 5 ?_
           refine At.sJ 156 ((b + 1) - 1) b (by omega) (by omega) ?_
           refine At.sliceRef (t := 24) (d := 157) (e := 45) (es := 6) (i := 1320) (x := .tmp 154) (lx := none) (hx := some (.tmp 156)) (xs := (lg.map encEnt)) (vl := .un) (vh := .int .i64 b) 0 ((b).toNat) (by kernel_rfl) (by kernel_rfl) (by kernel_rfl) (by kernel_rfl) (by kernel_rfl) (.inl ⟨rfl, rfl⟩) (.inr ⟨_, _, rfl, sayNat (by omega)⟩) (by omega) (by simp only [List.length_map]; omega) ?_
           refine At.append (t := 24) (d := 158) (e := 45) (es := 6) (bytes := 56) (s := .tmp 151) (x := .tmp 157) (S := .ref 251) (T := .sub 1320 0 (((b).toNat) - 0)) (xs := []) (ys := (((lg.drop 0).take (((b).toNat) - 0)).map encEnt)) 258 [251] [] ((lg.take b.toNat).map encEnt) (by kernel_rfl) (by kernel_rfl) (by kernel_rfl) (by kernel_rfl) ⟨by kernel_rfl, rfl⟩ ⟨(lg.map encEnt), by kernel_rfl, by rw [List.length_map]; omega, (by simp [List.map_take, List.map_drop]), (allP_encEnt _), rfl⟩ (by kernel_rfl) (by kernel_rfl) (by simp [List.map_take]) (by simp only [List.length_map, List.length_append, List.length_take, List.length_drop, List.length_replicate, List.length_set, List.length_cons, List.length_nil]; omega) (by simp only [List.length_map, List.length_append, List.length_take, List.length_drop, List.length_replicate, List.length_set, List.length_cons, List.length_nil]; omega) ?_
           refine At.z 3 ?_
           refine AW.g ?_
           refine At.a 3 ?_
           refine At.sJ 163 ((b + 1) - 1) b (by omega) (by omega) ?_
           refine At.a 1 ?_
           refine At.ll 165 47 10 265 (45, 6) (([(⟨3, 0, 0, b, ⟨0, ⟨0, 0, 0, 0, (⟨#[]⟩ : ByteArray)⟩⟩⟩ : Rec)]).map encRec) ?_
           refine At.apK 166 47 10 88 266 167 265 encRec rc ([(⟨3, 0, 0, b, ⟨0, ⟨0, 0, 0, 0, (⟨#[]⟩ : ByteArray)⟩⟩⟩ : Rec)]) (by simp only [List.length_map, List.length_append, List.length_take, List.length_drop, List.length_replicate, List.length_set, List.length_cons, List.length_nil]; omega) ?_
           refine At.z 1 ?_
           refine AW.seq ?_
           refine AW.q 2 ?_
           refine AW.cD ((b + 1) > 80) (fun h11 => ?_) (fun h11 => ?_)
           · refine AW.exit ?_
             refine AW.seq ?_
             refine AW.gD Tryz_mix ?_
             refine At.a 5 ?_
             refine At.c (spec_l1Min_spec  m.commit b ) Tryz.call111 true [] [] [] trivial ?_
             refine At.c (spec_l1Max_spec  r.commit (min m.commit b) ) Tryz.call59 true [] [] [] trivial ?_
             refine At.zD 2 ?_
             refine AW.q 2 ?_
             refine AW.q 3 ?_
             refine AW.seq ?_
             refine AW.gD Tryz_mix ?_
             refine At.a 7 ?_
             refine At.lk 199 51 17 299 (45, 6) [5005] (([(⟨m.from_, ⟨4, r.id, m.term, b, 0, 0, true, 0, 0, (⟨#[]⟩ : ByteArray), ⟨0, 0, 0, 0, (⟨#[]⟩ : ByteArray)⟩, []⟩⟩ : Out)]).map encOut) [(45, 6, [])] (by intro p hp; simp only [List.mem_cons, List.not_mem_nil, or_false] at hp; subst hp; all_goals first | exact flatEnts | exact flatInts | (intro x hx; cases hx)) ?_
             refine At.apK 200 51 17 168 300 118 299 encOut ([] : List Out) ([(⟨m.from_, ⟨4, r.id, m.term, b, 0, 0, true, 0, 0, (⟨#[]⟩ : ByteArray), ⟨0, 0, 0, 0, (⟨#[]⟩ : ByteArray)⟩, []⟩⟩ : Out)]) (by omega) ?_
             refine At.zD 3 ?_
             exact AW.ret (rf (k3 (K_spec_OnSend _ r m) (show ((⟨r.id, r.of_, 1, max r.commit (min m.commit b), ⟨m.term, 0, lg.take b.toNat⟩, [], [], []⟩ : Raft)) = ((sends r m).1) from by exfalso; omega) (show (rc ++ ([(⟨3, 0, 0, b, ⟨0, ⟨0, 0, 0, 0, (⟨#[]⟩ : ByteArray)⟩⟩⟩ : Rec)])) = ((sends r m).2.1) from by exfalso; omega) (show ([(⟨m.from_, ⟨4, r.id, m.term, b, 0, 0, true, 0, 0, (⟨#[]⟩ : ByteArray), ⟨0, 0, 0, 0, (⟨#[]⟩ : ByteArray)⟩, []⟩⟩ : Out)]) = ((sends r m).2.2) from by exfalso; omega) (KF.n [(258, 0), (2500, 1), (2501, 2), (2502, 3), (266, 4), (300, 5)])))
           refine AW.skip ?_
           refine AW.seq ?_
           refine AW.gD Tryz_mix ?_
           refine At.a 4 ?_
           refine At.iSl 24 174 (.tmp 172) (.tmp 173) false 6 (m.entries.map encEnt) .i64 (k : Int) 45 (by omega) (by simp only [List.length_map]; omega) ?_
           refine At.lVp 45 175 (.tmp 174) false 6 (m.entries.map encEnt) k 0 true 6 (encEnt e1) (.agg [.int .i64 e1.term, .int .i64 e1.cmd.kind, .int .i64 e1.cmd.release, .int .i64 e1.cmd.node, .int .i64 e1.cmd.size, .str e1.cmd.digest]) (mapGet he1) ?_
           refine At.a 1 ?_
           refine At.c (spec_l10Put_spec  (⟨r.id, r.of_, 1, r.commit, ⟨m.term, 0, lg.take b.toNat⟩, [], [], []⟩ : Raft) e1 (rc ++ ([(⟨3, 0, 0, b, ⟨0, ⟨0, 0, 0, 0, (⟨#[]⟩ : ByteArray)⟩⟩⟩ : Rec)])) (by dsimp only; rw [List.length_take]; omega) (by simp only [List.length_append, List.length_cons, List.length_nil]; omega)) Tryz.call105 true [(258, 0), (2500, 1), (2501, 2), (2502, 3), (266, 4)] [(4540, 5), (4541, 6)] [] trivial ?_
           refine At.zD 5 ?_
           refine AW.gq 2 ?_
           refine AW.g ?_
           refine At.a 2 ?_
           refine At.sI 123 ((k : Int) + 1) (by omega) ?_
           refine At.z 1 ?_
           exact ⟨(k + 1, (b + 1), ((lg.take b.toNat) ++ [e1]), ((rc ++ ([(⟨3, 0, 0, b, ⟨0, ⟨0, 0, 0, 0, (⟨#[]⟩ : ByteArray)⟩⟩⟩ : Rec)])) ++ [(⟨2, 0, 0, (((lg.take b.toNat) ++ [e1]).length : Int), e1⟩ : Rec)])), ⟨by omega, ⟨by omega, by simp only [List.length_append, List.length_take, List.length_cons, List.length_nil]; omega, by simp only [List.length_append, List.length_take, List.length_cons, List.length_nil]; omega, by simp only [List.length_append, List.length_cons, List.length_nil]; omega⟩, by rw [hR, dropCons (by assumption)]; exact takeE_cut2 (by omega) (by assumption) (by simp only [List.length_append, List.length_take, List.length_cons, List.length_nil]; omega)⟩, (by simp only; omega), Sub.o [(103, 103), (104, 104), (107, 107), (110, 110), (118, 118), (4541, 167), (4540, 1320), (2500, 2500), (2501, 2501), (2502, 2502), (5001, 5001), (5002, 5002), (5003, 5003), (5004, 5004), (5005, 5005)] [false, false, false, true, true, false, false, true, true, true, true, false, true, true]⟩
         refine At.sB 133 _ _ (sayF h9) ?_
         refine At.zD 12 ?_
         refine AW.cond false (by kernel_rfl) (fun h => by cases h) (fun _ => ?_)
         refine AW.skip ?_
         refine AW.seq ?_
         refine AW.r ?_
         refine At.a 2 ?_
         refine At.c (spec_l10End_spec  (⟨r.id, r.of_, 1, r.commit, ⟨m.term, 0, lg⟩, [], [], []⟩ : Raft) ) Tryz.call65 false [] [] [(1320, 6, (lg.map encEnt)), (2500, 1, []), (2501, 1, []), (2502, 1, [])] ⟨rfl, ⟨45, (lg.map encEnt), by kernel_rfl, FrzIs.same (allP_encEnt _)⟩, rfl, ⟨3, [], by kernel_rfl, FrzIs.same (fun _ h => by cases h)⟩, rfl, ⟨3, [], by kernel_rfl, FrzIs.same (fun _ h => by cases h)⟩, rfl, ⟨3, [], by kernel_rfl, FrzIs.same (fun _ h => by cases h)⟩, trivial⟩ ?_
         refine At.z 1 ?_
         refine AW.condF (decide ((b + 1) ≤ (lg.length : Int))) (by kernel_rfl) (decide_eq_false h9) ?_
         refine AW.skip ?_
         refine AW.seq ?_
         refine AW.q 2 ?_
         refine AW.cD ((b + 1) > 80) (fun h12 => ?_) (fun h12 => ?_)
         · refine AW.exit ?_
           refine AW.seq ?_
           refine AW.gD Tryz_mix ?_
           refine At.a 5 ?_
           refine At.c (spec_l1Min_spec  m.commit b ) Tryz.call111 true [] [] [] trivial ?_
           refine At.c (spec_l1Max_spec  r.commit (min m.commit b) ) Tryz.call59 true [] [] [] trivial ?_
           refine At.zD 2 ?_
           refine AW.q 2 ?_
           refine AW.q 3 ?_
           refine AW.seq ?_
           refine AW.gD Tryz_mix ?_
           refine At.a 7 ?_
           refine At.lk 199 51 17 299 (45, 6) [5005] (([(⟨m.from_, ⟨4, r.id, m.term, b, 0, 0, true, 0, 0, (⟨#[]⟩ : ByteArray), ⟨0, 0, 0, 0, (⟨#[]⟩ : ByteArray)⟩, []⟩⟩ : Out)]).map encOut) [(45, 6, [])] (by intro p hp; simp only [List.mem_cons, List.not_mem_nil, or_false] at hp; subst hp; all_goals first | exact flatEnts | exact flatInts | (intro x hx; cases hx)) ?_
           refine At.apK 200 51 17 168 300 118 299 encOut ([] : List Out) ([(⟨m.from_, ⟨4, r.id, m.term, b, 0, 0, true, 0, 0, (⟨#[]⟩ : ByteArray), ⟨0, 0, 0, 0, (⟨#[]⟩ : ByteArray)⟩, []⟩⟩ : Out)]) (by simp only [List.length_map, List.length_append, List.length_take, List.length_drop, List.length_replicate, List.length_set, List.length_cons, List.length_nil]; omega) ?_
           refine At.zD 3 ?_
           exact AW.ret (rf (k3 (K_spec_OnSend _ r m) (show ((⟨r.id, r.of_, 1, max r.commit (min m.commit b), ⟨m.term, 0, lg⟩, [], [], []⟩ : Raft)) = ((sends r m).1) from by rw [sends_spec1 (lg := lg) (rc := rc) (b := b) (sendB_of2 h1 h2) (by omega) (by assumption) (hR.trans (by first | (rw [List.drop_of_length_le (by omega)]; rfl) | (rw [dropCons (List.getElem?_eq_getElem (l := m.entries) (i := k) (by omega)), takeE_full (by omega) (by omega)]))) rfl]; first | done | rfl | (rw [endRecs_ne (by dsimp only; omega)]; rfl) | (rw [endRecs_eq rfl rfl]; done) | (rw [endRecs_eq rfl rfl]; rfl) | (rw [show r.hard.term = m.term from by omega]; rfl)) (show (rc) = ((sends r m).2.1) from by rw [sends_spec1 (lg := lg) (rc := rc) (b := b) (sendB_of2 h1 h2) (by omega) (by assumption) (hR.trans (by first | (rw [List.drop_of_length_le (by omega)]; rfl) | (rw [dropCons (List.getElem?_eq_getElem (l := m.entries) (i := k) (by omega)), takeE_full (by omega) (by omega)]))) rfl]; first | done | rfl | (rw [endRecs_ne (by dsimp only; omega)]; rfl) | (rw [endRecs_eq rfl rfl]; done) | (rw [endRecs_eq rfl rfl]; rfl) | (rw [show r.hard.term = m.term from by omega]; rfl)) (show ([(⟨m.from_, ⟨4, r.id, m.term, b, 0, 0, true, 0, 0, (⟨#[]⟩ : ByteArray), ⟨0, 0, 0, 0, (⟨#[]⟩ : ByteArray)⟩, []⟩⟩ : Out)]) = ((sends r m).2.2) from by rw [sends_spec1 (lg := lg) (rc := rc) (b := b) (sendB_of2 h1 h2) (by omega) (by assumption) (hR.trans (by first | (rw [List.drop_of_length_le (by omega)]; rfl) | (rw [dropCons (List.getElem?_eq_getElem (l := m.entries) (i := k) (by omega)), takeE_full (by omega) (by omega)]))) rfl]; first | done | rfl | (rw [endRecs_ne (by dsimp only; omega)]; rfl) | (rw [endRecs_eq rfl rfl]; done) | (rw [endRecs_eq rfl rfl]; rfl) | (rw [show r.hard.term = m.term from by omega]; rfl)) (KF.n [(1320, 0), (2500, 1), (2501, 2), (2502, 3), (167, 4), (300, 5)])))
         refine AW.skip ?_
         refine AW.seq ?_
         refine AW.gD Tryz_mix ?_
         refine At.a 4 ?_
         refine At.iSl 24 174 (.tmp 172) (.tmp 173) false 6 (m.entries.map encEnt) .i64 (k : Int) 45 (by omega) (by simp only [List.length_map]; omega) ?_
         refine Exists.elim (gE m.entries k (by omega)) fun e2 he2 => ?_
         refine At.lVp 45 175 (.tmp 174) false 6 (m.entries.map encEnt) k 0 true 6 (encEnt e2) (.agg [.int .i64 e2.term, .int .i64 e2.cmd.kind, .int .i64 e2.cmd.release, .int .i64 e2.cmd.node, .int .i64 e2.cmd.size, .str e2.cmd.digest]) (mapGet he2) ?_
         refine At.a 1 ?_
         refine At.c (spec_l10Put_spec  (⟨r.id, r.of_, 1, r.commit, ⟨m.term, 0, lg⟩, [], [], []⟩ : Raft) e2 rc (by dsimp only; omega) (by omega)) Tryz.call105 true [(1320, 0), (2500, 1), (2501, 2), (2502, 3), (167, 4)] [(4540, 5), (4541, 6)] [] trivial ?_
         refine At.zD 5 ?_
         refine AW.gq 2 ?_
         refine AW.g ?_
         refine At.a 2 ?_
         refine At.sI 123 ((k : Int) + 1) (by omega) ?_
         refine At.z 1 ?_
         exact ⟨(k + 1, (b + 1), (lg ++ [e2]), (rc ++ [(⟨2, 0, 0, ((lg ++ [e2]).length : Int), e2⟩ : Rec)])), ⟨by omega, ⟨by omega, by simp only [List.length_append, List.length_take, List.length_cons, List.length_nil]; omega, by simp only [List.length_append, List.length_take, List.length_cons, List.length_nil]; omega, by simp only [List.length_append, List.length_cons, List.length_nil]; omega⟩, by rw [hR, dropCons (by assumption)]; exact takeE_put2 (by omega) (by omega) (by simp only [List.length_append, List.length_take, List.length_cons, List.length_nil]; omega)⟩, (by simp only; omega), Sub.o [(103, 103), (104, 104), (107, 107), (110, 110), (118, 118), (4541, 167), (4540, 1320), (2500, 2500), (2501, 2501), (2502, 2502), (5001, 5001), (5002, 5002), (5003, 5003), (5004, 5004), (5005, 5005)] [false, false, false, true, true, false, false, true, true, true, true, false, true, true]⟩
       refine AW.exit ?_
       refine AW.seq ?_
       refine AW.gD Tryz_mix ?_
       refine At.a 5 ?_
       refine At.c (spec_l1Min_spec  m.commit b ) Tryz.call111 true [] [] [] trivial ?_
       refine At.c (spec_l1Max_spec  r.commit (min m.commit b) ) Tryz.call59 true [] [] [] trivial ?_
       refine At.zD 2 ?_
       refine AW.q 2 ?_
       refine AW.q 3 ?_
       refine AW.seq ?_
       refine AW.gD Tryz_mix ?_
       refine At.a 7 ?_
       refine At.lk 199 51 17 299 (45, 6) [5005] (([(⟨m.from_, ⟨4, r.id, m.term, b, 0, 0, true, 0, 0, (⟨#[]⟩ : ByteArray), ⟨0, 0, 0, 0, (⟨#[]⟩ : ByteArray)⟩, []⟩⟩ : Out)]).map encOut) [(45, 6, [])] (by intro p hp; simp only [List.mem_cons, List.not_mem_nil, or_false] at hp; subst hp; all_goals first | exact flatEnts | exact flatInts | (intro x hx; cases hx)) ?_
       refine At.apK 200 51 17 168 300 118 299 encOut ([] : List Out) ([(⟨m.from_, ⟨4, r.id, m.term, b, 0, 0, true, 0, 0, (⟨#[]⟩ : ByteArray), ⟨0, 0, 0, 0, (⟨#[]⟩ : ByteArray)⟩, []⟩⟩ : Out)]) (by simp only [List.length_map, List.length_append, List.length_take, List.length_drop, List.length_replicate, List.length_set, List.length_cons, List.length_nil]; omega) ?_
       refine At.zD 3 ?_
       exact AW.ret (rf (k3 (K_spec_OnSend _ r m) (show ((⟨r.id, r.of_, 1, max r.commit (min m.commit b), ⟨m.term, 0, lg⟩, [], [], []⟩ : Raft)) = ((sends r m).1) from by rw [sends_spec1 (lg := lg) (rc := rc) (b := b) (sendB_of2 h1 h2) (by omega) (by assumption) (hR.trans (by first | (rw [List.drop_of_length_le (by omega)]; rfl) | (rw [dropCons (List.getElem?_eq_getElem (l := m.entries) (i := k) (by omega)), takeE_full (by omega) (by omega)]))) rfl]; first | done | rfl | (rw [endRecs_ne (by dsimp only; omega)]; rfl) | (rw [endRecs_eq rfl rfl]; done) | (rw [endRecs_eq rfl rfl]; rfl) | (rw [show r.hard.term = m.term from by omega]; rfl)) (show (rc) = ((sends r m).2.1) from by rw [sends_spec1 (lg := lg) (rc := rc) (b := b) (sendB_of2 h1 h2) (by omega) (by assumption) (hR.trans (by first | (rw [List.drop_of_length_le (by omega)]; rfl) | (rw [dropCons (List.getElem?_eq_getElem (l := m.entries) (i := k) (by omega)), takeE_full (by omega) (by omega)]))) rfl]; first | done | rfl | (rw [endRecs_ne (by dsimp only; omega)]; rfl) | (rw [endRecs_eq rfl rfl]; done) | (rw [endRecs_eq rfl rfl]; rfl) | (rw [show r.hard.term = m.term from by omega]; rfl)) (show ([(⟨m.from_, ⟨4, r.id, m.term, b, 0, 0, true, 0, 0, (⟨#[]⟩ : ByteArray), ⟨0, 0, 0, 0, (⟨#[]⟩ : ByteArray)⟩, []⟩⟩ : Out)]) = ((sends r m).2.2) from by rw [sends_spec1 (lg := lg) (rc := rc) (b := b) (sendB_of2 h1 h2) (by omega) (by assumption) (hR.trans (by first | (rw [List.drop_of_length_le (by omega)]; rfl) | (rw [dropCons (List.getElem?_eq_getElem (l := m.entries) (i := k) (by omega)), takeE_full (by omega) (by omega)]))) rfl]; first | done | rfl | (rw [endRecs_ne (by dsimp only; omega)]; rfl) | (rw [endRecs_eq rfl rfl]; done) | (rw [endRecs_eq rfl rfl]; rfl) | (rw [show r.hard.term = m.term from by omega]; rfl)) (KF.n [(1320, 0), (2500, 1), (2501, 2), (2502, 3), (167, 4), (300, 5)])))
     refine AW.q 3 ?_
     refine AW.cE r.role (3 : Int) (fun h13 => ?_) (fun h13 => ?_)
     · have hnx := raftOk_next hok h13
       have hmx := raftOk_match hok h13
       refine AW.q 6 ?_
       exact AW.ret (rf (k3 (K_spec_OnSend _ r m) (show (r) = ((sends r m).1) from by rw [sends_lead (sendB_of2 h1 h2) (by omega) (by omega) (by omega)]; first | done | rfl | (rw [endRecs_ne (by dsimp only; omega)]; rfl) | (rw [endRecs_eq rfl rfl]; done) | (rw [endRecs_eq rfl rfl]; rfl) | (rw [show r.hard.term = m.term from by omega]; rfl)) (show ([]) = ((sends r m).2.1) from by rw [sends_lead (sendB_of2 h1 h2) (by omega) (by omega) (by omega)]; first | done | rfl | (rw [endRecs_ne (by dsimp only; omega)]; rfl) | (rw [endRecs_eq rfl rfl]; done) | (rw [endRecs_eq rfl rfl]; rfl) | (rw [show r.hard.term = m.term from by omega]; rfl)) (show ([]) = ((sends r m).2.2) from by rw [sends_lead (sendB_of2 h1 h2) (by omega) (by omega) (by omega)]; first | done | rfl | (rw [endRecs_ne (by dsimp only; omega)]; rfl) | (rw [endRecs_eq rfl rfl]; done) | (rw [endRecs_eq rfl rfl]; rfl) | (rw [show r.hard.term = m.term from by omega]; rfl)) (KF.n [(1320, 0), (1321, 1), (1322, 2), (1323, 3), (117, 4), (118, 5)])))
     refine AW.skip ?_
     refine AW.r ?_
     refine At.a 1 ?_
     refine At.c (spec_l10Rest_spec  r ) Tryz.call138 true [(1320, 0), (1321, 1), (1322, 2), (1323, 3)] [(2500, 4), (2501, 5), (2502, 6)] [] trivial ?_
     refine At.z 1 ?_
     refine AW.q 4 ?_
     refine AW.r ?_
     refine At.a 1 ?_
     refine At.c (spec_l10End_spec  (⟨r.id, r.of_, 1, r.commit, r.hard, [], [], []⟩ : Raft) ) Tryz.call65 false [] [] [(1320, 6, (r.hard.log.map encEnt)), (2500, 1, []), (2501, 1, []), (2502, 1, [])] ⟨rfl, ⟨45, (r.hard.log.map encEnt), by kernel_rfl, FrzIs.same (allP_encEnt _)⟩, rfl, ⟨3, [], by kernel_rfl, FrzIs.same (fun _ h => by cases h)⟩, rfl, ⟨3, [], by kernel_rfl, FrzIs.same (fun _ h => by cases h)⟩, rfl, ⟨3, [], by kernel_rfl, FrzIs.same (fun _ h => by cases h)⟩, trivial⟩ ?_
     refine At.z 1 ?_
     refine AW.seq ?_
     refine AW.seq ?_
     refine AW.cut [(102, 102), (103, 103), (104, 104), (107, 107), (110, 110), (117, 117), (118, 118), (1320, 1320), (1321, 1321), (1322, 1322), (1323, 1323), (2500, 2500), (2501, 2501), (2502, 2502), (5001, 5001), (5002, 5002), (5003, 5003), (5004, 5004), (5005, 5005)] [false, false, false, true, true, false, false, true, true, true, true, true] 99 (!(fitsB r.hard.log m)) ?_ ?_
     · refine AW.gD Tryz_mix ?_
       refine At.a 5 ?_
       by_cases h14 : m.at_ > (r.hard.log.length : Int)
       · refine At.sB 85 _ _ (sayT h14) ?_
         refine At.a 14 ?_
         refine At.sB 99 true (!(fitsB r.hard.log m)) (congrArg V.bool (by grind [fitsB])) ?_
         refine At.done rfl ⟨by kernel_rfl, rfl, ?_⟩
         exact Sub.cut [(102, 102), (103, 103), (104, 104), (107, 107), (110, 110), (117, 117), (118, 118), (1320, 1320), (1321, 1321), (1322, 1322), (1323, 1323), (2500, 2500), (2501, 2501), (2502, 2502), (5001, 5001), (5002, 5002), (5003, 5003), (5004, 5004), (5005, 5005)] [false, false, false, true, true, false, false, true, true, true, true, true] 99 _ (by kernel_rfl) (by kernel_rfl) (by kernel_rfl) (by kernel_rfl)
       refine At.sB 85 _ _ (sayF h14) ?_
       refine At.a 4 ?_
       by_cases h15 : m.at_ > 0
       · refine At.sB 89 _ _ (sayT h15) ?_
         refine At.a 4 ?_
         refine At.c (spec_l10Term_spec  r.hard m.at_ (by omega)) Tryz.call115 false [] [] [(1320, 6, (r.hard.log.map encEnt))] ⟨rfl, ⟨45, (r.hard.log.map encEnt), by kernel_rfl, FrzIs.same (allP_encEnt _)⟩, trivial⟩ ?_
         refine At.a 5 ?_
         refine At.sB 99 ((termAt r.hard.log m.at_) != m.atTerm) (!(fitsB r.hard.log m)) (congrArg V.bool (by grind [fitsB])) ?_
         refine At.done rfl ⟨by kernel_rfl, rfl, ?_⟩
         exact Sub.cut [(102, 102), (103, 103), (104, 104), (107, 107), (110, 110), (117, 117), (118, 118), (1320, 1320), (1321, 1321), (1322, 1322), (1323, 1323), (2500, 2500), (2501, 2501), (2502, 2502), (5001, 5001), (5002, 5002), (5003, 5003), (5004, 5004), (5005, 5005)] [false, false, false, true, true, false, false, true, true, true, true, true] 99 _ (by kernel_rfl) (by kernel_rfl) (by kernel_rfl) (by kernel_rfl)
       refine At.sB 89 _ _ (sayF h15) ?_
       refine At.a 10 ?_
       refine At.sB 99 false (!(fitsB r.hard.log m)) (congrArg V.bool (by grind [fitsB])) ?_
       refine At.done rfl ⟨by kernel_rfl, rfl, ?_⟩
       exact Sub.cut [(102, 102), (103, 103), (104, 104), (107, 107), (110, 110), (117, 117), (118, 118), (1320, 1320), (1321, 1321), (1322, 1322), (1323, 1323), (2500, 2500), (2501, 2501), (2502, 2502), (5001, 5001), (5002, 5002), (5003, 5003), (5004, 5004), (5005, 5005)] [false, false, false, true, true, false, false, true, true, true, true, true] 99 _ (by kernel_rfl) (by kernel_rfl) (by kernel_rfl) (by kernel_rfl)
     refine AW.cNB (fitsB r.hard.log m) (fun h16 => ?_) (fun h16 => ?_)
     · refine AW.r ?_
       refine At.a 4 ?_
       refine At.sI 103 (m.at_ - 1) (by omega) ?_
       refine At.c (spec_l1Min_spec  (r.hard.log.length : Int) (m.at_ - 1) ) Tryz.call111 true [] [] [] trivial ?_
       refine At.z 2 ?_
       refine AW.seq ?_
       refine AW.gD Tryz_mix ?_
       refine At.a 7 ?_
       refine At.lk 113 51 17 213 (45, 6) [5005] (([(⟨m.from_, ⟨4, r.id, m.term, min (r.hard.log.length : Int) (m.at_ - 1), 0, 0, false, 0, 0, (⟨#[]⟩ : ByteArray), ⟨0, 0, 0, 0, (⟨#[]⟩ : ByteArray)⟩, []⟩⟩ : Out)]).map encOut) [(45, 6, [])] (by intro p hp; simp only [List.mem_cons, List.not_mem_nil, or_false] at hp; subst hp; all_goals first | exact flatEnts | exact flatInts | (intro x hx; cases hx)) ?_
       refine At.apK 114 51 17 168 214 118 213 encOut ([] : List Out) ([(⟨m.from_, ⟨4, r.id, m.term, min (r.hard.log.length : Int) (m.at_ - 1), 0, 0, false, 0, 0, (⟨#[]⟩ : ByteArray), ⟨0, 0, 0, 0, (⟨#[]⟩ : ByteArray)⟩, []⟩⟩ : Out)]) (by simp only [List.length_map, List.length_append, List.length_take, List.length_drop, List.length_replicate, List.length_set, List.length_cons, List.length_nil]; omega) ?_
       refine At.zD 3 ?_
       exact AW.ret (rf (k3 (K_spec_OnSend _ r m) (show ((⟨r.id, r.of_, 1, r.commit, r.hard, [], [], []⟩ : Raft)) = ((sends r m).1) from by rw [sends_far0 (sendB_of2 h1 h2) (by omega) (by omega) (by omega) (by assumption)]; first | done | rfl | (rw [endRecs_ne (by dsimp only; omega)]; rfl) | (rw [endRecs_eq rfl rfl]; done) | (rw [endRecs_eq rfl rfl]; rfl) | (rw [show r.hard.term = m.term from by omega]; rfl)) (show ([]) = ((sends r m).2.1) from by rw [sends_far0 (sendB_of2 h1 h2) (by omega) (by omega) (by omega) (by assumption)]; first | done | rfl | (rw [endRecs_ne (by dsimp only; omega)]; rfl) | (rw [endRecs_eq rfl rfl]; done) | (rw [endRecs_eq rfl rfl]; rfl) | (rw [show r.hard.term = m.term from by omega]; rfl)) (show ([(⟨m.from_, ⟨4, r.id, m.term, min (r.hard.log.length : Int) (m.at_ - 1), 0, 0, false, 0, 0, (⟨#[]⟩ : ByteArray), ⟨0, 0, 0, 0, (⟨#[]⟩ : ByteArray)⟩, []⟩⟩ : Out)]) = ((sends r m).2.2) from by rw [sends_far0 (sendB_of2 h1 h2) (by omega) (by omega) (by omega) (by assumption)]; first | done | rfl | (rw [endRecs_ne (by dsimp only; omega)]; rfl) | (rw [endRecs_eq rfl rfl]; done) | (rw [endRecs_eq rfl rfl]; rfl) | (rw [show r.hard.term = m.term from by omega]; rfl)) (KF.n [(1320, 0), (2500, 1), (2501, 2), (2502, 3), (117, 4), (214, 5)])))
     have hfit := h16
     have hat := fitsB_at hfit
     refine AW.skip ?_
     refine AW.q 3 ?_
     refine AW.seq ?_
     refine AW.q 1 ?_
     refine AW.block ?_
     refine AW.loopW (fun (x : Nat × Int × List Ent × List Rec) => match x with | (k, b, lg, rc) => Go.Sy.mk [.un, .un, .un, .ptr 103 0 0, .ptr 104 0 0, .un, .un, .ptr 107 0 0, .ref 117, .ref 118, .ptr 110 0 0, .un, .int .i64 b, .int .i64 (k : Int)] [(103, .box 33 [.int .i64 m.kind, .int .i64 m.from_, .int .i64 m.term, .int .i64 m.at_, .int .i64 m.atTerm, .int .i64 m.commit, .bool m.yes, .int .i64 m.release, .int .i64 m.part, .str m.bytes, .int .i64 m.cmd.kind, .int .i64 m.cmd.release, .int .i64 m.cmd.node, .int .i64 m.cmd.size, .str m.cmd.digest, .sl false 6 (m.entries.map encEnt)]), (104, .box 29 [.int .i64 0, .int .i64 0, .int .i64 0, .int .i64 0, .int .i64 0, .int .i64 0, .ref 5001, .ref 5002, .ref 5003, .ref 5004]), (107, .box 29 [.int .i64 r.id, .int .i64 r.of_, .int .i64 1, .int .i64 r.commit, .int .i64 r.hard.term, .int .i64 r.hard.vote, .ref 1320, .ref 2500, .ref 2501, .ref 2502]), (110, .box 33 [.int .i64 4, .int .i64 r.id, .int .i64 m.term, .int .i64 0, .int .i64 0, .int .i64 0, .bool false, .int .i64 0, .int .i64 0, .str (⟨#[]⟩ : ByteArray), .int .i64 0, .int .i64 0, .int .i64 0, .int .i64 0, .str (⟨#[]⟩ : ByteArray), .ref 5005]), (117, .arr 47 10 (rc.map encRec)), (118, .arr 51 17 []), (1320, .arr 45 6 (lg.map encEnt)), (2500, .arr 3 1 []), (2501, .arr 3 1 []), (2502, .arr 3 1 []), (5001, .arr 45 6 []), (5002, .arr 3 1 []), (5003, .arr 3 1 []), (5004, .arr 3 1 []), (5005, .arr 45 6 [])]) (fun (x : Nat × Int × List Ent × List Rec) => match x with | (k, b, lg, rc) => k ≤ m.entries.length ∧ (b = m.at_ + (k : Int) ∧ b ≤ lg.length ∧ lg.length ≤ 80 ∧ rc.length ≤ 1000 + 2 * k) ∧ takeE m.entries m.at_ r.hard.log [] = takeE (m.entries.drop k) b lg rc) (fun (x : Nat × Int × List Ent × List Rec) => match x with | (k, b, lg, rc) => m.entries.length - k) (0, m.at_, r.hard.log, []) ⟨by omega, (by simp only [List.length_cons, List.length_nil]; omega), by rw [List.drop_zero]⟩ (Sub.o [(103, 103), (104, 104), (107, 107), (110, 110), (117, 117), (118, 118), (1320, 1320), (2500, 2500), (2501, 2501), (2502, 2502), (5001, 5001), (5002, 5002), (5003, 5003), (5004, 5004), (5005, 5005)] [false, false, false, true, true, false, false, true, true, true, true, false, true, true]) ?_
     rintro ⟨k, b, lg, rc⟩ ⟨hk, hb, hR⟩
     refine AW.seq ?_
     refine AW.r ?_
     refine At.a 4 ?_
     refine At.sL 120 encEnt m.entries ?_
     refine At.z 1 ?_
     refine AW.cD ((k : Int) < (m.entries.length : Int)) (fun h17 => ?_) (fun h17 => ?_)
     · refine AW.skip ?_
       refine AW.seq ?_
       refine AW.block ?_
       refine AW.r ?_
       refine At.a 3 ?_
       refine At.sI 126 (m.at_ + 1) (by omega) ?_
       refine At.a 2 ?_
       refine At.say 128 (.int .i64 (IntKind.i64.wrap ((m.at_ + 1) + (k : Int)))) (.int .i64 (b + 1)) (by kernel_rfl) (sayAs (by omega) (by omega)) ?_
       refine At.z 1 ?_
       refine AW.seq ?_
       refine AW.seq ?_
       refine AW.gD Tryz_mix ?_
       refine At.a 2 ?_
       refine At.c (spec_l10End_spec  (⟨r.id, r.of_, 1, r.commit, ⟨r.hard.term, r.hard.vote, lg⟩, [], [], []⟩ : Raft) ) Tryz.call65 false [] [] [(1320, 6, (lg.map encEnt)), (2500, 1, []), (2501, 1, []), (2502, 1, [])] ⟨rfl, ⟨45, (lg.map encEnt), by kernel_rfl, FrzIs.same (allP_encEnt _)⟩, rfl, ⟨3, [], by kernel_rfl, FrzIs.same (fun _ h => by cases h)⟩, rfl, ⟨3, [], by kernel_rfl, FrzIs.same (fun _ h => by cases h)⟩, rfl, ⟨3, [], by kernel_rfl, FrzIs.same (fun _ h => by cases h)⟩, trivial⟩ ?_
       refine At.a 2 ?_
       by_cases h18 : (b + 1) ≤ (lg.length : Int)
       · refine At.sB 133 _ _ (sayT h18) ?_
         refine At.a 3 ?_
         refine At.c (spec_l10Term_spec  (⟨r.hard.term, r.hard.vote, lg⟩ : Hard) (b + 1) (by dsimp only; omega)) Tryz.call115 false [] [] [(1320, 6, (lg.map encEnt))] ⟨rfl, ⟨45, (lg.map encEnt), by kernel_rfl, FrzIs.same (allP_encEnt _)⟩, trivial⟩ ?_
         refine At.a 3 ?_
         refine At.iSl 24 141 (.tmp 139) (.tmp 140) false 6 (m.entries.map encEnt) .i64 (k : Int) 45 (by omega) (by simp only [List.length_map]; omega) ?_
         refine At.a 1 ?_
         refine Exists.elim (gE m.entries k (by omega)) fun e3 he3 => ?_
         refine At.lVp 3 143 (.tmp 142) false 6 (m.entries.map encEnt) k 0 false 1 (encEnt e3) (.int .i64 e3.term) (mapGet he3) ?_
         refine At.zD 2 ?_
         refine AW.cE (termAt lg (b + 1)) e3.term (fun h19 => ?_) (fun h19 => ?_)
         · refine AW.q 2 ?_
           refine AW.exit ?_
           refine AW.g ?_
           refine At.a 2 ?_
           refine At.sI 123 ((k : Int) + 1) (by omega) ?_
           refine At.z 1 ?_
           exact ⟨(k + 1, (b + 1), lg, rc), ⟨by omega, ⟨by omega, by omega, by omega, by omega⟩, by rw [hR, dropCons (by assumption), takeE_same (by omega) (by assumption)]⟩, (by simp only; omega), Sub.o [(103, 103), (104, 104), (107, 107), (110, 110), (117, 117), (118, 118), (1320, 1320), (2500, 2500), (2501, 2501), (2502, 2502), (5001, 5001), (5002, 5002), (5003, 5003), (5004, 5004), (5005, 5005)] [false, false, false, true, true, false, false, true, true, true, true, false, true, true]⟩
         refine AW.skip ?_
         refine AW.seq ?_
         refine AW.r ?_
         refine At.a 2 ?_
         refine At.c (spec_l10End_spec  (⟨r.id, r.of_, 1, r.commit, ⟨r.hard.term, r.hard.vote, lg⟩, [], [], []⟩ : Raft) ) Tryz.call65 false [] [] [(1320, 6, (lg.map encEnt)), (2500, 1, []), (2501, 1, []), (2502, 1, [])] ⟨rfl, ⟨45, (lg.map encEnt), by kernel_rfl, FrzIs.same (allP_encEnt _)⟩, rfl, ⟨3, [], by kernel_rfl, FrzIs.same (fun _ h => by cases h)⟩, rfl, ⟨3, [], by kernel_rfl, FrzIs.same (fun _ h => by cases h)⟩, rfl, ⟨3, [], by kernel_rfl, FrzIs.same (fun _ h => by cases h)⟩, trivial⟩ ?_
         refine At.z 1 ?_
         refine AW.condT (decide ((b + 1) ≤ (lg.length : Int))) (by kernel_rfl) (decide_eq_true h18) ?_
         refine AW.r ?_
         refine At.lit0 (t := 24) (d := 151) (e := 45) (es := 6) (bytes := 56) 251 (by kernel_rfl) (by kernel_rfl) (by kernel_rfl) (by kernel_rfl) ?_
         refine At.a 5 ?_
         refine At.sJ 156 ((b + 1) - 1) b (by omega) (by omega) ?_
         refine At.sliceRef (t := 24) (d := 157) (e := 45) (es := 6) (i := 1320) (x := .tmp 154) (lx := none) (hx := some (.tmp 156)) (xs := (lg.map encEnt)) (vl := .un) (vh := .int .i64 b) 0 ((b).toNat) (by kernel_rfl) (by kernel_rfl) (by kernel_rfl) (by kernel_rfl) (by kernel_rfl) (.inl ⟨rfl, rfl⟩) (.inr ⟨_, _, rfl, sayNat (by omega)⟩) (by omega) (by simp only [List.length_map]; omega) ?_
         refine At.append (t := 24) (d := 158) (e := 45) (es := 6) (bytes := 56) (s := .tmp 151) (x := .tmp 157) (S := .ref 251) (T := .sub 1320 0 (((b).toNat) - 0)) (xs := []) (ys := (((lg.drop 0).take (((b).toNat) - 0)).map encEnt)) 258 [251] [] ((lg.take b.toNat).map encEnt) (by kernel_rfl) (by kernel_rfl) (by kernel_rfl) (by kernel_rfl) ⟨by kernel_rfl, rfl⟩ ⟨(lg.map encEnt), by kernel_rfl, by rw [List.length_map]; omega, (by simp [List.map_take, List.map_drop]), (allP_encEnt _), rfl⟩ (by kernel_rfl) (by kernel_rfl) (by simp [List.map_take]) (by simp only [List.length_map, List.length_append, List.length_take, List.length_drop, List.length_replicate, List.length_set, List.length_cons, List.length_nil]; omega) (by simp only [List.length_map, List.length_append, List.length_take, List.length_drop, List.length_replicate, List.length_set, List.length_cons, List.length_nil]; omega) ?_
         refine At.z 3 ?_
         refine AW.g ?_
         refine At.a 3 ?_
         refine At.sJ 163 ((b + 1) - 1) b (by omega) (by omega) ?_
         refine At.a 1 ?_
         refine At.ll 165 47 10 265 (45, 6) (([(⟨3, 0, 0, b, ⟨0, ⟨0, 0, 0, 0, (⟨#[]⟩ : ByteArray)⟩⟩⟩ : Rec)]).map encRec) ?_
         refine At.apK 166 47 10 88 266 117 265 encRec rc ([(⟨3, 0, 0, b, ⟨0, ⟨0, 0, 0, 0, (⟨#[]⟩ : ByteArray)⟩⟩⟩ : Rec)]) (by simp only [List.length_map, List.length_append, List.length_take, List.length_drop, List.length_replicate, List.length_set, List.length_cons, List.length_nil]; omega) ?_
         refine At.z 1 ?_
         refine AW.seq ?_
         refine AW.q 2 ?_
         refine AW.cD ((b + 1) > 80) (fun h20 => ?_) (fun h20 => ?_)
         · refine AW.exit ?_
           refine AW.seq ?_
           refine AW.gD Tryz_mix ?_
           refine At.a 5 ?_
           refine At.c (spec_l1Min_spec  m.commit b ) Tryz.call111 true [] [] [] trivial ?_
           refine At.c (spec_l1Max_spec  r.commit (min m.commit b) ) Tryz.call59 true [] [] [] trivial ?_
           refine At.zD 2 ?_
           refine AW.q 2 ?_
           refine AW.q 3 ?_
           refine AW.seq ?_
           refine AW.gD Tryz_mix ?_
           refine At.a 7 ?_
           refine At.lk 199 51 17 299 (45, 6) [5005] (([(⟨m.from_, ⟨4, r.id, m.term, b, 0, 0, true, 0, 0, (⟨#[]⟩ : ByteArray), ⟨0, 0, 0, 0, (⟨#[]⟩ : ByteArray)⟩, []⟩⟩ : Out)]).map encOut) [(45, 6, [])] (by intro p hp; simp only [List.mem_cons, List.not_mem_nil, or_false] at hp; subst hp; all_goals first | exact flatEnts | exact flatInts | (intro x hx; cases hx)) ?_
           refine At.apK 200 51 17 168 300 118 299 encOut ([] : List Out) ([(⟨m.from_, ⟨4, r.id, m.term, b, 0, 0, true, 0, 0, (⟨#[]⟩ : ByteArray), ⟨0, 0, 0, 0, (⟨#[]⟩ : ByteArray)⟩, []⟩⟩ : Out)]) (by omega) ?_
           refine At.zD 3 ?_
           exact AW.ret (rf (k3 (K_spec_OnSend _ r m) (show ((⟨r.id, r.of_, 1, max r.commit (min m.commit b), ⟨r.hard.term, r.hard.vote, lg.take b.toNat⟩, [], [], []⟩ : Raft)) = ((sends r m).1) from by exfalso; omega) (show (rc ++ ([(⟨3, 0, 0, b, ⟨0, ⟨0, 0, 0, 0, (⟨#[]⟩ : ByteArray)⟩⟩⟩ : Rec)])) = ((sends r m).2.1) from by exfalso; omega) (show ([(⟨m.from_, ⟨4, r.id, m.term, b, 0, 0, true, 0, 0, (⟨#[]⟩ : ByteArray), ⟨0, 0, 0, 0, (⟨#[]⟩ : ByteArray)⟩, []⟩⟩ : Out)]) = ((sends r m).2.2) from by exfalso; omega) (KF.n [(258, 0), (2500, 1), (2501, 2), (2502, 3), (266, 4), (300, 5)])))
         refine AW.skip ?_
         refine AW.seq ?_
         refine AW.gD Tryz_mix ?_
         refine At.a 4 ?_
         refine At.iSl 24 174 (.tmp 172) (.tmp 173) false 6 (m.entries.map encEnt) .i64 (k : Int) 45 (by omega) (by simp only [List.length_map]; omega) ?_
         refine At.lVp 45 175 (.tmp 174) false 6 (m.entries.map encEnt) k 0 true 6 (encEnt e3) (.agg [.int .i64 e3.term, .int .i64 e3.cmd.kind, .int .i64 e3.cmd.release, .int .i64 e3.cmd.node, .int .i64 e3.cmd.size, .str e3.cmd.digest]) (mapGet he3) ?_
         refine At.a 1 ?_
         refine At.c (spec_l10Put_spec  (⟨r.id, r.of_, 1, r.commit, ⟨r.hard.term, r.hard.vote, lg.take b.toNat⟩, [], [], []⟩ : Raft) e3 (rc ++ ([(⟨3, 0, 0, b, ⟨0, ⟨0, 0, 0, 0, (⟨#[]⟩ : ByteArray)⟩⟩⟩ : Rec)])) (by dsimp only; rw [List.length_take]; omega) (by simp only [List.length_append, List.length_cons, List.length_nil]; omega)) Tryz.call105 true [(258, 0), (2500, 1), (2501, 2), (2502, 3), (266, 4)] [(4540, 5), (4541, 6)] [] trivial ?_
         refine At.zD 5 ?_
         refine AW.gq 2 ?_
         refine AW.g ?_
         refine At.a 2 ?_
         refine At.sI 123 ((k : Int) + 1) (by omega) ?_
         refine At.z 1 ?_
         exact ⟨(k + 1, (b + 1), ((lg.take b.toNat) ++ [e3]), ((rc ++ ([(⟨3, 0, 0, b, ⟨0, ⟨0, 0, 0, 0, (⟨#[]⟩ : ByteArray)⟩⟩⟩ : Rec)])) ++ [(⟨2, 0, 0, (((lg.take b.toNat) ++ [e3]).length : Int), e3⟩ : Rec)])), ⟨by omega, ⟨by omega, by simp only [List.length_append, List.length_take, List.length_cons, List.length_nil]; omega, by simp only [List.length_append, List.length_take, List.length_cons, List.length_nil]; omega, by simp only [List.length_append, List.length_cons, List.length_nil]; omega⟩, by rw [hR, dropCons (by assumption)]; exact takeE_cut2 (by omega) (by assumption) (by simp only [List.length_append, List.length_take, List.length_cons, List.length_nil]; omega)⟩, (by simp only; omega), Sub.o [(103, 103), (104, 104), (107, 107), (110, 110), (4541, 117), (118, 118), (4540, 1320), (2500, 2500), (2501, 2501), (2502, 2502), (5001, 5001), (5002, 5002), (5003, 5003), (5004, 5004), (5005, 5005)] [false, false, false, true, true, false, false, true, true, true, true, false, true, true]⟩
       refine At.sB 133 _ _ (sayF h18) ?_
       refine At.zD 12 ?_
       refine AW.cond false (by kernel_rfl) (fun h => by cases h) (fun _ => ?_)
       refine AW.skip ?_
       refine AW.seq ?_
       refine AW.r ?_
       refine At.a 2 ?_
       refine At.c (spec_l10End_spec  (⟨r.id, r.of_, 1, r.commit, ⟨r.hard.term, r.hard.vote, lg⟩, [], [], []⟩ : Raft) ) Tryz.call65 false [] [] [(1320, 6, (lg.map encEnt)), (2500, 1, []), (2501, 1, []), (2502, 1, [])] ⟨rfl, ⟨45, (lg.map encEnt), by kernel_rfl, FrzIs.same (allP_encEnt _)⟩, rfl, ⟨3, [], by kernel_rfl, FrzIs.same (fun _ h => by cases h)⟩, rfl, ⟨3, [], by kernel_rfl, FrzIs.same (fun _ h => by cases h)⟩, rfl, ⟨3, [], by kernel_rfl, FrzIs.same (fun _ h => by cases h)⟩, trivial⟩ ?_
       refine At.z 1 ?_
       refine AW.condF (decide ((b + 1) ≤ (lg.length : Int))) (by kernel_rfl) (decide_eq_false h18) ?_
       refine AW.skip ?_
       refine AW.seq ?_
       refine AW.q 2 ?_
       refine AW.cD ((b + 1) > 80) (fun h21 => ?_) (fun h21 => ?_)
       · refine AW.exit ?_
         refine AW.seq ?_
         refine AW.gD Tryz_mix ?_
         refine At.a 5 ?_
         refine At.c (spec_l1Min_spec  m.commit b ) Tryz.call111 true [] [] [] trivial ?_
         refine At.c (spec_l1Max_spec  r.commit (min m.commit b) ) Tryz.call59 true [] [] [] trivial ?_
         refine At.zD 2 ?_
         refine AW.q 2 ?_
         refine AW.q 3 ?_
         refine AW.seq ?_
         refine AW.gD Tryz_mix ?_
         refine At.a 7 ?_
         refine At.lk 199 51 17 299 (45, 6) [5005] (([(⟨m.from_, ⟨4, r.id, m.term, b, 0, 0, true, 0, 0, (⟨#[]⟩ : ByteArray), ⟨0, 0, 0, 0, (⟨#[]⟩ : ByteArray)⟩, []⟩⟩ : Out)]).map encOut) [(45, 6, [])] (by intro p hp; simp only [List.mem_cons, List.not_mem_nil, or_false] at hp; subst hp; all_goals first | exact flatEnts | exact flatInts | (intro x hx; cases hx)) ?_
         refine At.apK 200 51 17 168 300 118 299 encOut ([] : List Out) ([(⟨m.from_, ⟨4, r.id, m.term, b, 0, 0, true, 0, 0, (⟨#[]⟩ : ByteArray), ⟨0, 0, 0, 0, (⟨#[]⟩ : ByteArray)⟩, []⟩⟩ : Out)]) (by simp only [List.length_map, List.length_append, List.length_take, List.length_drop, List.length_replicate, List.length_set, List.length_cons, List.length_nil]; omega) ?_
         refine At.zD 3 ?_
         exact AW.ret (rf (k3 (K_spec_OnSend _ r m) (show ((⟨r.id, r.of_, 1, max r.commit (min m.commit b), ⟨r.hard.term, r.hard.vote, lg⟩, [], [], []⟩ : Raft)) = ((sends r m).1) from by rw [sends_spec0 (lg := lg) (rc := rc) (b := b) (sendB_of2 h1 h2) (by omega) (by omega) (by omega) (by assumption) (hR.trans (by first | (rw [List.drop_of_length_le (by omega)]; rfl) | (rw [dropCons (List.getElem?_eq_getElem (l := m.entries) (i := k) (by omega)), takeE_full (by omega) (by omega)])))]; first | done | rfl | (rw [endRecs_ne (by dsimp only; omega)]; rfl) | (rw [endRecs_eq rfl rfl]; done) | (rw [endRecs_eq rfl rfl]; rfl) | (rw [show r.hard.term = m.term from by omega]; rfl)) (show (rc) = ((sends r m).2.1) from by rw [sends_spec0 (lg := lg) (rc := rc) (b := b) (sendB_of2 h1 h2) (by omega) (by omega) (by omega) (by assumption) (hR.trans (by first | (rw [List.drop_of_length_le (by omega)]; rfl) | (rw [dropCons (List.getElem?_eq_getElem (l := m.entries) (i := k) (by omega)), takeE_full (by omega) (by omega)])))]; first | done | rfl | (rw [endRecs_ne (by dsimp only; omega)]; rfl) | (rw [endRecs_eq rfl rfl]; done) | (rw [endRecs_eq rfl rfl]; rfl) | (rw [show r.hard.term = m.term from by omega]; rfl)) (show ([(⟨m.from_, ⟨4, r.id, m.term, b, 0, 0, true, 0, 0, (⟨#[]⟩ : ByteArray), ⟨0, 0, 0, 0, (⟨#[]⟩ : ByteArray)⟩, []⟩⟩ : Out)]) = ((sends r m).2.2) from by rw [sends_spec0 (lg := lg) (rc := rc) (b := b) (sendB_of2 h1 h2) (by omega) (by omega) (by omega) (by assumption) (hR.trans (by first | (rw [List.drop_of_length_le (by omega)]; rfl) | (rw [dropCons (List.getElem?_eq_getElem (l := m.entries) (i := k) (by omega)), takeE_full (by omega) (by omega)])))]; first | done | rfl | (rw [endRecs_ne (by dsimp only; omega)]; rfl) | (rw [endRecs_eq rfl rfl]; done) | (rw [endRecs_eq rfl rfl]; rfl) | (rw [show r.hard.term = m.term from by omega]; rfl)) (KF.n [(1320, 0), (2500, 1), (2501, 2), (2502, 3), (117, 4), (300, 5)])))
       refine AW.skip ?_
       refine AW.seq ?_
       refine AW.gD Tryz_mix ?_
       refine At.a 4 ?_
       refine At.iSl 24 174 (.tmp 172) (.tmp 173) false 6 (m.entries.map encEnt) .i64 (k : Int) 45 (by omega) (by simp only [List.length_map]; omega) ?_
       refine Exists.elim (gE m.entries k (by omega)) fun e4 he4 => ?_
       refine At.lVp 45 175 (.tmp 174) false 6 (m.entries.map encEnt) k 0 true 6 (encEnt e4) (.agg [.int .i64 e4.term, .int .i64 e4.cmd.kind, .int .i64 e4.cmd.release, .int .i64 e4.cmd.node, .int .i64 e4.cmd.size, .str e4.cmd.digest]) (mapGet he4) ?_
       refine At.a 1 ?_
       refine At.c (spec_l10Put_spec  (⟨r.id, r.of_, 1, r.commit, ⟨r.hard.term, r.hard.vote, lg⟩, [], [], []⟩ : Raft) e4 rc (by dsimp only; omega) (by omega)) Tryz.call105 true [(1320, 0), (2500, 1), (2501, 2), (2502, 3), (117, 4)] [(4540, 5), (4541, 6)] [] trivial ?_
       refine At.zD 5 ?_
       refine AW.gq 2 ?_
       refine AW.g ?_
       refine At.a 2 ?_
       refine At.sI 123 ((k : Int) + 1) (by omega) ?_
       refine At.z 1 ?_
       exact ⟨(k + 1, (b + 1), (lg ++ [e4]), (rc ++ [(⟨2, 0, 0, ((lg ++ [e4]).length : Int), e4⟩ : Rec)])), ⟨by omega, ⟨by omega, by simp only [List.length_append, List.length_take, List.length_cons, List.length_nil]; omega, by simp only [List.length_append, List.length_take, List.length_cons, List.length_nil]; omega, by simp only [List.length_append, List.length_cons, List.length_nil]; omega⟩, by rw [hR, dropCons (by assumption)]; exact takeE_put2 (by omega) (by omega) (by simp only [List.length_append, List.length_take, List.length_cons, List.length_nil]; omega)⟩, (by simp only; omega), Sub.o [(103, 103), (104, 104), (107, 107), (110, 110), (4541, 117), (118, 118), (4540, 1320), (2500, 2500), (2501, 2501), (2502, 2502), (5001, 5001), (5002, 5002), (5003, 5003), (5004, 5004), (5005, 5005)] [false, false, false, true, true, false, false, true, true, true, true, false, true, true]⟩
     refine AW.exit ?_
     refine AW.seq ?_
     refine AW.gD Tryz_mix ?_
     refine At.a 5 ?_
     refine At.c (spec_l1Min_spec  m.commit b ) Tryz.call111 true [] [] [] trivial ?_
     refine At.c (spec_l1Max_spec  r.commit (min m.commit b) ) Tryz.call59 true [] [] [] trivial ?_
     refine At.zD 2 ?_
     refine AW.q 2 ?_
     refine AW.q 3 ?_
     refine AW.seq ?_
     refine AW.gD Tryz_mix ?_
     refine At.a 7 ?_
     refine At.lk 199 51 17 299 (45, 6) [5005] (([(⟨m.from_, ⟨4, r.id, m.term, b, 0, 0, true, 0, 0, (⟨#[]⟩ : ByteArray), ⟨0, 0, 0, 0, (⟨#[]⟩ : ByteArray)⟩, []⟩⟩ : Out)]).map encOut) [(45, 6, [])] (by intro p hp; simp only [List.mem_cons, List.not_mem_nil, or_false] at hp; subst hp; all_goals first | exact flatEnts | exact flatInts | (intro x hx; cases hx)) ?_
     refine At.apK 200 51 17 168 300 118 299 encOut ([] : List Out) ([(⟨m.from_, ⟨4, r.id, m.term, b, 0, 0, true, 0, 0, (⟨#[]⟩ : ByteArray), ⟨0, 0, 0, 0, (⟨#[]⟩ : ByteArray)⟩, []⟩⟩ : Out)]) (by simp only [List.length_map, List.length_append, List.length_take, List.length_drop, List.length_replicate, List.length_set, List.length_cons, List.length_nil]; omega) ?_
     refine At.zD 3 ?_
     exact AW.ret (rf (k3 (K_spec_OnSend _ r m) (show ((⟨r.id, r.of_, 1, max r.commit (min m.commit b), ⟨r.hard.term, r.hard.vote, lg⟩, [], [], []⟩ : Raft)) = ((sends r m).1) from by rw [sends_spec0 (lg := lg) (rc := rc) (b := b) (sendB_of2 h1 h2) (by omega) (by omega) (by omega) (by assumption) (hR.trans (by first | (rw [List.drop_of_length_le (by omega)]; rfl) | (rw [dropCons (List.getElem?_eq_getElem (l := m.entries) (i := k) (by omega)), takeE_full (by omega) (by omega)])))]; first | done | rfl | (rw [endRecs_ne (by dsimp only; omega)]; rfl) | (rw [endRecs_eq rfl rfl]; done) | (rw [endRecs_eq rfl rfl]; rfl) | (rw [show r.hard.term = m.term from by omega]; rfl)) (show (rc) = ((sends r m).2.1) from by rw [sends_spec0 (lg := lg) (rc := rc) (b := b) (sendB_of2 h1 h2) (by omega) (by omega) (by omega) (by assumption) (hR.trans (by first | (rw [List.drop_of_length_le (by omega)]; rfl) | (rw [dropCons (List.getElem?_eq_getElem (l := m.entries) (i := k) (by omega)), takeE_full (by omega) (by omega)])))]; first | done | rfl | (rw [endRecs_ne (by dsimp only; omega)]; rfl) | (rw [endRecs_eq rfl rfl]; done) | (rw [endRecs_eq rfl rfl]; rfl) | (rw [show r.hard.term = m.term from by omega]; rfl)) (show ([(⟨m.from_, ⟨4, r.id, m.term, b, 0, 0, true, 0, 0, (⟨#[]⟩ : ByteArray), ⟨0, 0, 0, 0, (⟨#[]⟩ : ByteArray)⟩, []⟩⟩ : Out)]) = ((sends r m).2.2) from by rw [sends_spec0 (lg := lg) (rc := rc) (b := b) (sendB_of2 h1 h2) (by omega) (by omega) (by omega) (by assumption) (hR.trans (by first | (rw [List.drop_of_length_le (by omega)]; rfl) | (rw [dropCons (List.getElem?_eq_getElem (l := m.entries) (i := k) (by omega)), takeE_full (by omega) (by omega)])))]; first | done | rfl | (rw [endRecs_ne (by dsimp only; omega)]; rfl) | (rw [endRecs_eq rfl rfl]; done) | (rw [endRecs_eq rfl rfl]; rfl) | (rw [show r.hard.term = m.term from by omega]; rfl)) (KF.n [(1320, 0), (2500, 1), (2501, 2), (2502, 3), (117, 4), (300, 5)])))
   refine At.sB 23 (!(hears r m 3)) true (sayNT (sayB (Bool.eq_false_iff.2 h1))) ?_
   replace h1 := Bool.eq_false_iff.2 h1
   refine At.z 5 ?_
   refine AW.cond true (by kernel_rfl) (fun _ => ?_) (fun h => by cases h)
   refine AW.q 6 ?_
   exact AW.ret (rf (k3 (K_spec_OnSend _ r m) (show (r) = ((sends r m).1) from by rw [sends_no (sendB_not2 (by first | exact .inl (by assumption) | exact .inr (by assumption))) hok]; first | done | rfl | (rw [endRecs_ne (by dsimp only; omega)]; rfl) | (rw [endRecs_eq rfl rfl]; done) | (rw [endRecs_eq rfl rfl]; rfl) | (rw [show r.hard.term = m.term from by omega]; rfl)) (show ([]) = ((sends r m).2.1) from by rw [sends_no (sendB_not2 (by first | exact .inl (by assumption) | exact .inr (by assumption))) hok]; first | done | rfl | (rw [endRecs_ne (by dsimp only; omega)]; rfl) | (rw [endRecs_eq rfl rfl]; done) | (rw [endRecs_eq rfl rfl]; rfl) | (rw [show r.hard.term = m.term from by omega]; rfl)) (show ([]) = ((sends r m).2.2) from by rw [sends_no (sendB_not2 (by first | exact .inl (by assumption) | exact .inr (by assumption))) hok]; first | done | rfl | (rw [endRecs_ne (by dsimp only; omega)]; rfl) | (rw [endRecs_eq rfl rfl]; done) | (rw [endRecs_eq rfl rfl]; rfl) | (rw [show r.hard.term = m.term from by omega]; rfl)) (KF.n [(1320, 0), (1321, 1), (1322, 2), (1323, 3), (117, 4), (118, 5)])))
 refine AW.q 5 ?_
 refine AW.seq ?_
 refine AW.weak (Sub.nils [⟨true, 104, some 6, 5001, 45, 6⟩, ⟨true, 104, some 7, 5002, 3, 1⟩, ⟨true, 104, some 8, 5003, 3, 1⟩, ⟨true, 104, some 9, 5004, 3, 1⟩] (by kernel_rfl)) ?_
 refine AW.g ?_
 refine At.a 1 ?_
 refine At.c (spec_l10Same_F_spec  r hz hok) Tryz.call97 true [] [(1320, 0), (1321, 1), (1322, 2), (1323, 3)] [] trivial ?_
 refine At.lit0 (t := 37) (d := 17) (e := 47) (es := 10) (bytes := 88) 117 (by kernel_rfl) (by kernel_rfl) (by kernel_rfl) (by kernel_rfl) ?_
 refine At.lit0 (t := 38) (d := 18) (e := 51) (es := 17) (bytes := 168) 118 (by kernel_rfl) (by kernel_rfl) (by kernel_rfl) (by kernel_rfl) ?_
 refine At.z 4 ?_
 refine AW.seq ?_
 refine AW.r ?_
 refine At.a 2 ?_
 refine At.c (spec_l10Hears_spec  r m 3 hz hm) Tryz.call108 true [] [] [] trivial ?_
 refine At.a 2 ?_
 refine At.sB 23 (!(hears r m 3)) true (sayB (by rw [show (hears r m 3) = false from (hears_no hok)]; rfl)) ?_
 refine At.z 5 ?_
 refine AW.cond true (by kernel_rfl) (fun _ => ?_) (fun h => by cases h)
 refine AW.q 6 ?_
 exact AW.ret (rf (k3 (K_spec_OnSend _ r m) (show ((⟨0, 0, 0, 0, ⟨0, 0, []⟩, [], [], []⟩ : Raft)) = ((sends r m).1) from by simp [sends, sendB, same, hok, hears_no hok]; try rfl) (show ([]) = ((sends r m).2.1) from by simp [sends, sendB, same, hok, hears_no hok]; try rfl) (show ([]) = ((sends r m).2.2) from by simp [sends, sendB, same, hok, hears_no hok]; try rfl) (KF.n [(1320, 0), (1321, 1), (1322, 2), (1323, 3), (117, 4), (118, 5)])))
theorem spec_l10Commit_spec  (r : Raft) (hz : SmallR r) (hc : 0 ≤ r.commit) (ho : 0 ≤ r.of_ ∧ r.of_ ≤ 5) (hm : (r.match_.length : Int) = r.of_) : FnSpec Tryz.prog 110 [(raftA r)] [] (.int .i64 (commitOf r)) [] := by
 obtain ⟨z1, z2, z3, z4⟩ := id hz
 refine FnSpec.of 47 Tryz.func110 rfl Tryz.ntmps110 (by simp) (AW.weakK ?_)
 refine AW.q 2 ?_
 refine AW.seq ?_
 refine AW.r ?_
 refine At.a 1 ?_
 refine At.c (spec_l10End_spec  r ) Tryz.call65 true [] [] [] trivial ?_
 refine At.z 1 ?_
 refine AW.block ?_
 refine AW.loopW (fun (n : Int) => Go.Sy.mk [.un, .ptr 101 0 0, .un, .int .i64 n] [(101, .box 29 [.int .i64 r.id, .int .i64 r.of_, .int .i64 r.role, .int .i64 r.commit, .int .i64 r.hard.term, .int .i64 r.hard.vote, .sl false 6 (r.hard.log.map encEnt), .sl false 1 (r.yes.map encI), .sl false 1 (r.next.map encI), .sl false 1 (r.match_.map encI)])]) (fun (n : Int) => (0 ≤ n ∧ n ≤ r.hard.log.length) ∧ commitOf r = commitGo r n.toNat) (fun (n : Int) => n.toNat) (r.hard.log.length : Int) ⟨by omega, by simp [commitOf]⟩ (Sub.o [(101, 101)] [false, true, false, true]) ?_
 rintro n ⟨hn, hR⟩
 refine AW.seq ?_
 refine AW.q 4 ?_
 refine AW.cD (n > r.commit) (fun h1 => ?_) (fun h1 => ?_)
 · refine AW.skip ?_
   refine AW.seq ?_
   refine AW.block ?_
   refine AW.q 1 ?_
   refine AW.seq ?_
   refine AW.q 1 ?_
   refine AW.block ?_
   refine AW.loopW (fun (x : Nat × Int) => match x with | (i, c) => Go.Sy.mk [.un, .ptr 101 0 0, .un, .int .i64 n, .int .i64 c, .int .i64 (i : Int)] [(101, .box 29 [.int .i64 r.id, .int .i64 r.of_, .int .i64 r.role, .int .i64 r.commit, .int .i64 r.hard.term, .int .i64 r.hard.vote, .sl false 6 (r.hard.log.map encEnt), .sl false 1 (r.yes.map encI), .sl false 1 (r.next.map encI), .sl false 1 (r.match_.map encI)])]) (fun (x : Nat × Int) => match x with | (i, c) => (i : Int) ≤ r.of_ ∧ (0 ≤ c ∧ c ≤ i) ∧ c = cntGe (r.match_.take i) n) (fun (x : Nat × Int) => match x with | (i, c) => (r.of_ : Int).toNat - i) (0, 0) ⟨by omega, by omega, by simp [cntGe]⟩ (Sub.o [(101, 101)] [false, true, false, true, true, true]) ?_
   rintro ⟨i, c⟩ ⟨hi, hc1, hc2⟩
   refine AW.seq ?_
   refine AW.q 4 ?_
   refine AW.cD ((i : Int) < r.of_) (fun h2 => ?_) (fun h2 => ?_)
   · refine AW.skip ?_
     refine AW.seq ?_
     refine AW.block ?_
     refine AW.r ?_
     refine At.a 3 ?_
     refine At.iSl 27 23 (.tmp 21) (.tmp 22) false 1 (r.match_.map encI) .i64 (i : Int) 3 (by omega) (by simp only [List.length_map]; omega) ?_
     refine Exists.elim (gE r.match_ i (by omega)) fun e1 he1 => ?_
     refine At.lVp 3 24 (.tmp 23) false 1 (r.match_.map encI) i 0 false 1 (encI e1) (.int .i64 e1) (mapGet he1) ?_
     refine At.z 2 ?_
     refine AW.cD (e1 ≥ n) (fun h3 => ?_) (fun h3 => ?_)
     · refine AW.g ?_
       refine At.a 2 ?_
       refine At.sI 28 (c + 1) (by omega) ?_
       refine At.z 1 ?_
       refine AW.g ?_
       refine At.a 2 ?_
       refine At.sI 19 ((i : Int) + 1) (by omega) ?_
       refine At.z 1 ?_
       exact ⟨(i + 1, (c + 1)), ⟨by omega, by omega, by rw [cntGe_step (by assumption), ← hc2]; first | (rw [if_pos (by assumption)]; done) | (rw [if_neg (by assumption)]; omega)⟩, (by simp only; omega), Sub.o [(101, 101)] [false, true, false, true, true, true]⟩
     refine AW.skip ?_
     refine AW.g ?_
     refine At.a 2 ?_
     refine At.sI 19 ((i : Int) + 1) (by omega) ?_
     refine At.z 1 ?_
     exact ⟨(i + 1, c), ⟨by omega, by omega, by rw [cntGe_step (by assumption), ← hc2]; first | (rw [if_pos (by assumption)]; done) | (rw [if_neg (by assumption)]; omega)⟩, (by simp only; omega), Sub.o [(101, 101)] [false, true, false, true, true, true]⟩
   refine AW.exit ?_
   refine AW.seq ?_
   refine AW.gD Tryz_mix ?_
   refine At.a 2 ?_
   refine At.sI 30 (2 * c) (by omega) ?_
   refine At.a 4 ?_
   by_cases h4 : (2 * c) > r.of_
   · refine At.sB 34 _ _ (sayT h4) ?_
     refine At.a 3 ?_
     refine At.c (spec_l10Term_spec  r.hard n (by omega)) Tryz.call115 true [] [] [] trivial ?_
     refine At.zD 5 ?_
     refine AW.cE (termAt r.hard.log n) r.hard.term (fun h5 => ?_) (fun h5 => ?_)
     · refine AW.q 2 ?_
       refine AW.ret ?_
       refine ⟨_, Sub.refl _ _, ?_⟩
       refine KF.conv (fun w => .int .i64 w) (fun w => []) (show (n) = (commitOf r) from by have hcc := hc2.trans (cntGe_all (by omega)); rw [hR, commitGo_go (by omega) (by omega), if_pos]; simp only [mostB, Bool.and_eq_true, decide_eq_true_eq, beq_iff_eq, ← hcc]; omega) ?_
       exact KF.n []
     refine AW.skip ?_
     refine AW.g ?_
     refine At.a 2 ?_
     refine At.sI 13 (n - 1) (by omega) ?_
     refine At.z 1 ?_
     exact ⟨n - 1, ⟨by omega, by have hcc := hc2.trans (cntGe_all (by omega)); rw [hR, commitGo_go (by omega) (by omega), if_neg]; simp only [mostB, Bool.and_eq_true, decide_eq_true_eq, beq_iff_eq, ← hcc]; omega⟩, (by omega), Sub.o [(101, 101)] [false, true, false, true]⟩
   refine At.sB 34 _ _ (sayF h4) ?_
   refine At.zD 9 ?_
   refine AW.cond false (by kernel_rfl) (fun h => by cases h) (fun _ => ?_)
   refine AW.skip ?_
   refine AW.g ?_
   refine At.a 2 ?_
   refine At.sI 13 (n - 1) (by omega) ?_
   refine At.z 1 ?_
   exact ⟨n - 1, ⟨by omega, by have hcc := hc2.trans (cntGe_all (by omega)); rw [hR, commitGo_go (by omega) (by omega), if_neg]; simp only [mostB, Bool.and_eq_true, decide_eq_true_eq, beq_iff_eq, ← hcc]; omega⟩, (by omega), Sub.o [(101, 101)] [false, true, false, true]⟩
 refine AW.exit ?_
 refine AW.q 3 ?_
 refine AW.ret ?_
 refine ⟨_, Sub.refl _ _, ?_⟩
 refine KF.conv (fun w => .int .i64 w) (fun w => []) (show (r.commit) = (commitOf r) from by rw [hR, commitGo_end (by omega) (by omega)]) ?_
 exact KF.n []
def K_spec_OnGot (rs : List ResultVar) (r : Raft) (m : Msg) (w0_ : Raft) (w1_ : List Rec) (w2_ : List Out) : Exit → Sg → Prop := KF Tryz.prog 0 rs (.tup [.agg [.int .i64 w0_.id, .int .i64 w0_.of_, .int .i64 w0_.role, .int .i64 w0_.commit, .int .i64 w0_.hard.term, .int .i64 w0_.hard.vote, .ref 0, .ref 1, .ref 2, .ref 3], .ref 4, .ref 5]) [.arr 45 6 (w0_.hard.log.map encEnt), .arr 3 1 (w0_.yes.map encI), .arr 3 1 (w0_.next.map encI), .arr 3 1 (w0_.match_.map encI), .arr 47 10 (w1_.map encRec), .arr 51 17 (w2_.map encOut)]
theorem spec_OnGot_spec  (r : Raft) (m : Msg) (hz : SmallR r) (hm : m.entries.length ≤ 1048576) : FnSpec Tryz.prog 35 [(raftA r), (msgA m)] [] (.tup [.agg [.int .i64 (((gots r m).1).id), .int .i64 (((gots r m).1).of_), .int .i64 (((gots r m).1).role), .int .i64 (((gots r m).1).commit), .int .i64 (((gots r m).1).hard.term), .int .i64 (((gots r m).1).hard.vote), .ref 0, .ref 1, .ref 2, .ref 3], .ref 4, .ref 5]) [.arr 45 6 ((((gots r m).1).hard.log).map encEnt), .arr 3 1 ((((gots r m).1).yes).map encI), .arr 3 1 ((((gots r m).1).next).map encI), .arr 3 1 ((((gots r m).1).match_).map encI), .arr 47 10 (((gots r m).2.1).map encRec), .arr 51 17 (((gots r m).2.2).map encOut)] := by
 obtain ⟨z1, z2, z3, z4⟩ := id hz
 refine FnSpec.of 117 Tryz.func35 rfl Tryz.ntmps35 (by simp) (AW.weakK ?_)
 by_cases hok : raftOk r = true
 · have hokn := raftOk1_nums (raftOk_1 hok)
   refine AW.q 5 ?_
   refine AW.seq ?_
   refine AW.weak (Sub.nils [⟨true, 104, some 6, 5001, 45, 6⟩, ⟨true, 104, some 7, 5002, 3, 1⟩, ⟨true, 104, some 8, 5003, 3, 1⟩, ⟨true, 104, some 9, 5004, 3, 1⟩] (by kernel_rfl)) ?_
   refine AW.g ?_
   refine At.a 1 ?_
   refine At.c (spec_l10Same_T_spec  r (by exact hz) hok) Tryz.call97 true [] [(1220, 0), (1221, 1), (1222, 2), (1223, 3)] [] trivial ?_
   refine At.lit0 (t := 37) (d := 12) (e := 47) (es := 10) (bytes := 88) 112 (by kernel_rfl) (by kernel_rfl) (by kernel_rfl) (by kernel_rfl) ?_
   refine At.lit0 (t := 38) (d := 13) (e := 51) (es := 17) (bytes := 168) 113 (by kernel_rfl) (by kernel_rfl) (by kernel_rfl) (by kernel_rfl) ?_
   refine At.z 4 ?_
   refine AW.seq ?_
   refine AW.r ?_
   refine At.a 2 ?_
   refine At.c (spec_l10Hears_spec  r m 4 (by exact hz) hm) Tryz.call108 true [] [] [] trivial ?_
   refine At.z 1 ?_
   refine AW.cNB (hears r m 4) (fun h1 => ?_) (fun h1 => ?_)
   · refine AW.q 6 ?_
     exact AW.ret (rf (k3 (K_spec_OnGot _ r m) (show (r) = ((gots r m).1) from by rw [gots_un (by assumption) hok]; first | done | rfl | (rw [endRecs_ne (by dsimp only; omega)]; rfl) | (rw [endRecs_eq rfl rfl]; done) | (rw [endRecs_eq rfl rfl]; rfl)) (show ([]) = ((gots r m).2.1) from by rw [gots_un (by assumption) hok]; first | done | rfl | (rw [endRecs_ne (by dsimp only; omega)]; rfl) | (rw [endRecs_eq rfl rfl]; done) | (rw [endRecs_eq rfl rfl]; rfl)) (show ([]) = ((gots r m).2.2) from by rw [gots_un (by assumption) hok]; first | done | rfl | (rw [endRecs_ne (by dsimp only; omega)]; rfl) | (rw [endRecs_eq rfl rfl]; done) | (rw [endRecs_eq rfl rfl]; rfl)) (KF.n [(1220, 0), (1221, 1), (1222, 2), (1223, 3), (112, 4), (113, 5)])))
   have hhr := hears_ok h1
   have hnu := msgFits_nums hhr.2.1
   refine AW.skip ?_
   refine AW.seq ?_
   refine AW.q 6 ?_
   refine AW.cD (m.term > r.hard.term) (fun h2 => ?_) (fun h2 => ?_)
   · refine AW.r ?_
     refine At.a 3 ?_
     refine At.c (spec_l10Follow_spec  r m.term ) Tryz.call109 true [(1220, 0), (1221, 1), (1222, 2), (1223, 3)] [(1600, 4), (1601, 5), (1602, 6)] [] trivial ?_
     refine At.z 1 ?_
     refine AW.seq ?_
     refine AW.gD Tryz_mix ?_
     refine At.a 3 ?_
     refine At.c (spec_l10Vote_spec  (⟨r.id, r.of_, 1, r.commit, ⟨m.term, 0, r.hard.log⟩, [], [], []⟩ : Raft) ) Tryz.call98 false [] [] [(1220, 6, (r.hard.log.map encEnt)), (1600, 1, []), (1601, 1, []), (1602, 1, [])] ⟨rfl, ⟨45, (r.hard.log.map encEnt), by kernel_rfl, FrzIs.same (allP_encEnt _)⟩, rfl, ⟨3, [], by kernel_rfl, FrzIs.same (fun _ h => by cases h)⟩, rfl, ⟨3, [], by kernel_rfl, FrzIs.same (fun _ h => by cases h)⟩, rfl, ⟨3, [], by kernel_rfl, FrzIs.same (fun _ h => by cases h)⟩, trivial⟩ ?_
     refine At.ll 35 47 10 135 (45, 6) (([(⟨1, m.term, 0, 0, ⟨0, ⟨0, 0, 0, 0, (⟨#[]⟩ : ByteArray)⟩⟩⟩ : Rec)]).map encRec) ?_
     refine At.apK 36 47 10 88 136 112 135 encRec ([] : List Rec) ([(⟨1, m.term, 0, 0, ⟨0, ⟨0, 0, 0, 0, (⟨#[]⟩ : ByteArray)⟩⟩⟩ : Rec)]) (by simp only [List.length_map, List.length_append, List.length_take, List.length_drop, List.length_replicate, List.length_set, List.length_cons, List.length_nil]; omega) ?_
     refine At.zD 4 ?_
     exact AW.ret (rf (k3 (K_spec_OnGot _ r m) (show ((⟨r.id, r.of_, 1, r.commit, ⟨m.term, 0, r.hard.log⟩, [], [], []⟩ : Raft)) = ((gots r m).1) from by rw [gots_term h1 (by omega)]; first | done | rfl | (rw [endRecs_ne (by dsimp only; omega)]; rfl) | (rw [endRecs_eq rfl rfl]; done) | (rw [endRecs_eq rfl rfl]; rfl)) (show ([(⟨1, m.term, 0, 0, ⟨0, ⟨0, 0, 0, 0, (⟨#[]⟩ : ByteArray)⟩⟩⟩ : Rec)]) = ((gots r m).2.1) from by rw [gots_term h1 (by omega)]; first | done | rfl | (rw [endRecs_ne (by dsimp only; omega)]; rfl) | (rw [endRecs_eq rfl rfl]; done) | (rw [endRecs_eq rfl rfl]; rfl)) (show ([]) = ((gots r m).2.2) from by rw [gots_term h1 (by omega)]; first | done | rfl | (rw [endRecs_ne (by dsimp only; omega)]; rfl) | (rw [endRecs_eq rfl rfl]; done) | (rw [endRecs_eq rfl rfl]; rfl)) (KF.n [(1220, 0), (1600, 1), (1601, 2), (1602, 3), (136, 4), (113, 5)])))
   refine AW.skip ?_
   refine AW.seq ?_
   refine AW.r ?_
   refine At.a 4 ?_
   by_cases h3 : r.role = 3
   · refine At.sB 41 _ _ (sayUF h3) ?_
     have hnx := raftOk_next hok h3
     have hmx := raftOk_match hok h3
     refine At.z 7 ?_
     refine AW.cU m.term r.hard.term (fun h4 => ?_) (fun h4 => ?_)
     · refine AW.q 6 ?_
       exact AW.ret (rf (k3 (K_spec_OnGot _ r m) (show (r) = ((gots r m).1) from by rw [gots_not h1 (by omega) (by omega)]; first | done | rfl | (rw [endRecs_ne (by dsimp only; omega)]; rfl) | (rw [endRecs_eq rfl rfl]; done) | (rw [endRecs_eq rfl rfl]; rfl)) (show ([]) = ((gots r m).2.1) from by rw [gots_not h1 (by omega) (by omega)]; first | done | rfl | (rw [endRecs_ne (by dsimp only; omega)]; rfl) | (rw [endRecs_eq rfl rfl]; done) | (rw [endRecs_eq rfl rfl]; rfl)) (show ([]) = ((gots r m).2.2) from by rw [gots_not h1 (by omega) (by omega)]; first | done | rfl | (rw [endRecs_ne (by dsimp only; omega)]; rfl) | (rw [endRecs_eq rfl rfl]; done) | (rw [endRecs_eq rfl rfl]; rfl)) (KF.n [(1220, 0), (1221, 1), (1222, 2), (1223, 3), (112, 4), (113, 5)])))
     refine AW.skip ?_
     refine AW.seq ?_
     refine AW.q 2 ?_
     refine AW.cB (m.yes) (fun h5 => ?_) (fun h5 => ?_)
     · refine AW.seq ?_
       refine AW.seq ?_
       refine AW.gD Tryz_mix ?_
       refine At.a 3 ?_
       refine At.c (spec_l10End_spec  r ) Tryz.call65 true [] [] [] trivial ?_
       refine At.zD 1 ?_
       refine AW.cD (m.at_ ≤ (r.hard.log.length : Int)) (fun h6 => ?_) (fun h6 => ?_)
       · refine AW.seq ?_
         refine AW.gD Tryz_mix ?_
         refine At.a 8 ?_
         refine At.iRf 27 67 (.tmp 64) (.tmp 66) 1223 (r.match_.map encI) .i64 m.from_ 3 1 (by omega) (by simp only [List.length_map]; omega) ?_
         refine Exists.elim (gE r.match_ ((m.from_).toNat) (by omega)) fun e1 he1 => ?_
         have hxe1 := hmx _ (List.mem_of_getElem? he1)
         refine At.lEl 3 68 (.tmp 67) 1223 3 1 (r.match_.map encI) ((m.from_).toNat) 0 false 1 (encI e1) (.int .i64 e1) (mapGet he1) ?_
         refine At.a 2 ?_
         refine At.c (spec_l1Max_spec  e1 m.at_ ) Tryz.call59 true [] [] [] trivial ?_
         refine At.iRf 27 72 (.tmp 60) (.tmp 62) 1223 (r.match_.map encI) .i64 m.from_ 3 1 (by omega) (by simp only [List.length_map]; omega) ?_
         refine At.sEl 3 1223 3 1 ((m.from_).toNat) 0 (.tmp 72) (.tmp 71) (r.match_.map encI) ((r.match_.set ((m.from_).toNat) (max e1 m.at_)).map encI) [.int .i64 (max e1 m.at_)] (.int .i64 (max e1 m.at_)) (encI e1) (encI (max e1 m.at_)) (mapGet he1) setV ?_
         refine At.done rfl ⟨by kernel_rfl, ?_⟩
         refine AW.seq ?_
         refine AW.gD Tryz_mix ?_
         refine At.a 8 ?_
         refine At.iRf 27 81 (.tmp 78) (.tmp 80) 1223 ((r.match_.set ((m.from_).toNat) (max e1 m.at_)).map encI) .i64 m.from_ 3 1 (by omega) (by simp only [List.length_map, List.length_append, List.length_take, List.length_drop, List.length_replicate, List.length_set, List.length_cons, List.length_nil]; omega) ?_
         refine At.lEl 3 82 (.tmp 81) 1223 3 1 ((r.match_.set ((m.from_).toNat) (max e1 m.at_)).map encI) ((m.from_).toNat) 0 false 1 (encI (max e1 m.at_)) (.int .i64 (max e1 m.at_)) (mapGet (setGet he1)) ?_
         refine At.a 1 ?_
         refine At.sI 83 ((max e1 m.at_) + 1) (by omega) ?_
         refine At.iRf 27 84 (.tmp 74) (.tmp 76) 1222 (r.next.map encI) .i64 m.from_ 3 1 (by omega) (by simp only [List.length_map]; omega) ?_
         refine Exists.elim (gE r.next ((m.from_).toNat) (by omega)) fun e2 he2 => ?_
         have hxe2 := hnx.2.1 _ (List.mem_of_getElem? he2)
         refine At.sEl 3 1222 3 1 ((m.from_).toNat) 0 (.tmp 84) (.tmp 83) (r.next.map encI) ((r.next.set ((m.from_).toNat) ((max e1 m.at_) + 1)).map encI) [.int .i64 ((max e1 m.at_) + 1)] (.int .i64 ((max e1 m.at_) + 1)) (encI e2) (encI ((max e1 m.at_) + 1)) (mapGet he2) setV ?_
         refine At.done rfl ⟨by kernel_rfl, ?_⟩
         refine AW.g ?_
         refine At.a 1 ?_
         refine At.c (spec_l10Commit_spec  (⟨r.id, r.of_, r.role, r.commit, r.hard, r.yes, r.next.set ((m.from_).toNat) ((max e1 m.at_) + 1), r.match_.set ((m.from_).toNat) (max e1 m.at_)⟩ : Raft) (by unfold SmallR; simp only [List.length_set]; omega) (by dsimp only; omega) (by dsimp only; omega) (by dsimp only; simp only [List.length_set]; omega)) Tryz.call110 false [] [] [(1220, 6, (r.hard.log.map encEnt)), (1221, 1, (r.yes.map encI)), (1222, 1, ((r.next.set ((m.from_).toNat) ((max e1 m.at_) + 1)).map encI)), (1223, 1, ((r.match_.set ((m.from_).toNat) (max e1 m.at_)).map encI))] ⟨rfl, ⟨45, (r.hard.log.map encEnt), by kernel_rfl, FrzIs.same (allP_encEnt _)⟩, rfl, ⟨3, (r.yes.map encI), by kernel_rfl, FrzIs.same (allP_encI _)⟩, rfl, ⟨3, ((r.next.set ((m.from_).toNat) ((max e1 m.at_) + 1)).map encI), by kernel_rfl, FrzIs.same (allP_encI _)⟩, rfl, ⟨3, ((r.match_.set ((m.from_).toNat) (max e1 m.at_)).map encI), by kernel_rfl, FrzIs.same (allP_encI _)⟩, trivial⟩ ?_
         refine At.z 2 ?_
         refine AW.q 6 ?_
         exact AW.ret (rf (k3 (K_spec_OnGot _ r m) (show ((⟨r.id, r.of_, r.role, commitOf (⟨r.id, r.of_, r.role, r.commit, r.hard, r.yes, r.next.set ((m.from_).toNat) ((max e1 m.at_) + 1), r.match_.set ((m.from_).toNat) (max e1 m.at_)⟩ : Raft), r.hard, r.yes, r.next.set ((m.from_).toNat) ((max e1 m.at_) + 1), r.match_.set ((m.from_).toNat) (max e1 m.at_)⟩ : Raft)) = ((gots r m).1) from by rw [gots_yes h1 (by omega) (by omega) (by omega) (by assumption) (by omega) (by assumption)]; first | done | rfl | (rw [endRecs_ne (by dsimp only; omega)]; rfl) | (rw [endRecs_eq rfl rfl]; done) | (rw [endRecs_eq rfl rfl]; rfl)) (show ([]) = ((gots r m).2.1) from by rw [gots_yes h1 (by omega) (by omega) (by omega) (by assumption) (by omega) (by assumption)]; first | done | rfl | (rw [endRecs_ne (by dsimp only; omega)]; rfl) | (rw [endRecs_eq rfl rfl]; done) | (rw [endRecs_eq rfl rfl]; rfl)) (show ([]) = ((gots r m).2.2) from by rw [gots_yes h1 (by omega) (by omega) (by omega) (by assumption) (by omega) (by assumption)]; first | done | rfl | (rw [endRecs_ne (by dsimp only; omega)]; rfl) | (rw [endRecs_eq rfl rfl]; done) | (rw [endRecs_eq rfl rfl]; rfl)) (KF.n [(1220, 0), (1221, 1), (1222, 2), (1223, 3), (112, 4), (113, 5)])))
       refine AW.skip ?_
       refine AW.q 6 ?_
       exact AW.ret (rf (k3 (K_spec_OnGot _ r m) (show (r) = ((gots r m).1) from by rw [gots_far h1 (by omega) (by omega) (by omega) (by assumption) (by omega)]; first | done | rfl | (rw [endRecs_ne (by dsimp only; omega)]; rfl) | (rw [endRecs_eq rfl rfl]; done) | (rw [endRecs_eq rfl rfl]; rfl)) (show ([]) = ((gots r m).2.1) from by rw [gots_far h1 (by omega) (by omega) (by omega) (by assumption) (by omega)]; first | done | rfl | (rw [endRecs_ne (by dsimp only; omega)]; rfl) | (rw [endRecs_eq rfl rfl]; done) | (rw [endRecs_eq rfl rfl]; rfl)) (show ([]) = ((gots r m).2.2) from by rw [gots_far h1 (by omega) (by omega) (by omega) (by assumption) (by omega)]; first | done | rfl | (rw [endRecs_ne (by dsimp only; omega)]; rfl) | (rw [endRecs_eq rfl rfl]; done) | (rw [endRecs_eq rfl rfl]; rfl)) (KF.n [(1220, 0), (1221, 1), (1222, 2), (1223, 3), (112, 4), (113, 5)])))
     refine AW.skip ?_
     refine AW.seq ?_
     refine AW.gD Tryz_mix ?_
     refine At.a 8 ?_
     refine At.iRf 27 99 (.tmp 96) (.tmp 98) 1222 (r.next.map encI) .i64 m.from_ 3 1 (by omega) (by simp only [List.length_map]; omega) ?_
     refine Exists.elim (gE r.next ((m.from_).toNat) (by omega)) fun e3 he3 => ?_
     have hxe3 := hnx.2.1 _ (List.mem_of_getElem? he3)
     refine At.lEl 3 100 (.tmp 99) 1222 3 1 (r.next.map encI) ((m.from_).toNat) 0 false 1 (encI e3) (.int .i64 e3) (mapGet he3) ?_
     refine At.a 1 ?_
     refine At.sI 101 (e3 - 1) (by omega) ?_
     refine At.a 3 ?_
     refine At.sI 104 (m.at_ + 1) (by omega) ?_
     refine At.c (spec_l1Min_spec  (e3 - 1) (m.at_ + 1) ) Tryz.call111 true [] [] [] trivial ?_
     refine At.c (spec_l1Max_spec  1 (min (e3 - 1) (m.at_ + 1)) ) Tryz.call59 true [] [] [] trivial ?_
     refine At.iRf 27 107 (.tmp 92) (.tmp 94) 1222 (r.next.map encI) .i64 m.from_ 3 1 (by omega) (by simp only [List.length_map]; omega) ?_
     refine At.sEl 3 1222 3 1 ((m.from_).toNat) 0 (.tmp 107) (.tmp 106) (r.next.map encI) ((r.next.set ((m.from_).toNat) (max 1 (min (e3 - 1) (m.at_ + 1)))).map encI) [.int .i64 (max 1 (min (e3 - 1) (m.at_ + 1)))] (.int .i64 (max 1 (min (e3 - 1) (m.at_ + 1)))) (encI e3) (encI (max 1 (min (e3 - 1) (m.at_ + 1)))) (mapGet he3) setV ?_
     refine At.done rfl ⟨by kernel_rfl, ?_⟩
     refine AW.seq ?_
     refine AW.gD Tryz_mix ?_
     refine At.a 6 ?_
     refine At.c (spec_l10Send_spec  (⟨r.id, r.of_, r.role, r.commit, r.hard, r.yes, r.next.set ((m.from_).toNat) (max 1 (min (e3 - 1) (m.at_ + 1))), r.match_⟩ : Raft) m.from_ (by unfold SmallR; simp only [List.length_set]; omega) (by dsimp only; simp only [List.length_set]; omega) (nextOk_set hnx.2.1 rfl rfl (by omega))) Tryz.call112 false [] [(3280, 0)] [(1220, 6, (r.hard.log.map encEnt)), (1221, 1, (r.yes.map encI)), (1222, 1, ((r.next.set ((m.from_).toNat) (max 1 (min (e3 - 1) (m.at_ + 1)))).map encI)), (1223, 1, (r.match_.map encI))] ⟨rfl, ⟨45, (r.hard.log.map encEnt), by kernel_rfl, FrzIs.same (allP_encEnt _)⟩, rfl, ⟨3, (r.yes.map encI), by kernel_rfl, FrzIs.same (allP_encI _)⟩, rfl, ⟨3, ((r.next.set ((m.from_).toNat) (max 1 (min (e3 - 1) (m.at_ + 1)))).map encI), by kernel_rfl, FrzIs.same (allP_encI _)⟩, rfl, ⟨3, (r.match_.map encI), by kernel_rfl, FrzIs.same (allP_encI _)⟩, trivial⟩ ?_
     refine At.lk 115 51 17 215 (45, 6) [3280] (([(sendOf (⟨r.id, r.of_, r.role, r.commit, r.hard, r.yes, r.next.set ((m.from_).toNat) (max 1 (min (e3 - 1) (m.at_ + 1))), r.match_⟩ : Raft) m.from_)]).map encOut) [(45, 6, (((sendOf (⟨r.id, r.of_, r.role, r.commit, r.hard, r.yes, r.next.set ((m.from_).toNat) (max 1 (min (e3 - 1) (m.at_ + 1))), r.match_⟩ : Raft) m.from_).msg.entries).map encEnt))] (by intro p hp; simp only [List.mem_cons, List.not_mem_nil, or_false] at hp; subst hp; all_goals first | exact flatEnts | exact flatInts | (intro x hx; cases hx)) ?_
     refine At.apK 116 51 17 168 216 113 215 encOut ([] : List Out) ([(sendOf (⟨r.id, r.of_, r.role, r.commit, r.hard, r.yes, r.next.set ((m.from_).toNat) (max 1 (min (e3 - 1) (m.at_ + 1))), r.match_⟩ : Raft) m.from_)]) (by simp only [List.length_map, List.length_append, List.length_take, List.length_drop, List.length_replicate, List.length_set, List.length_cons, List.length_nil]; omega) ?_
     refine At.zD 3 ?_
     exact AW.ret (rf (k3 (K_spec_OnGot _ r m) (show ((⟨r.id, r.of_, r.role, r.commit, r.hard, r.yes, r.next.set ((m.from_).toNat) (max 1 (min (e3 - 1) (m.at_ + 1))), r.match_⟩ : Raft)) = ((gots r m).1) from by rw [gots_no h1 (by omega) (by omega) (by omega) (by assumption) (by assumption)]; first | done | rfl | (rw [endRecs_ne (by dsimp only; omega)]; rfl) | (rw [endRecs_eq rfl rfl]; done) | (rw [endRecs_eq rfl rfl]; rfl)) (show ([]) = ((gots r m).2.1) from by rw [gots_no h1 (by omega) (by omega) (by omega) (by assumption) (by assumption)]; first | done | rfl | (rw [endRecs_ne (by dsimp only; omega)]; rfl) | (rw [endRecs_eq rfl rfl]; done) | (rw [endRecs_eq rfl rfl]; rfl)) (show ([(sendOf (⟨r.id, r.of_, r.role, r.commit, r.hard, r.yes, r.next.set ((m.from_).toNat) (max 1 (min (e3 - 1) (m.at_ + 1))), r.match_⟩ : Raft) m.from_)]) = ((gots r m).2.2) from by rw [gots_no h1 (by omega) (by omega) (by omega) (by assumption) (by assumption)]; first | done | rfl | (rw [endRecs_ne (by dsimp only; omega)]; rfl) | (rw [endRecs_eq rfl rfl]; done) | (rw [endRecs_eq rfl rfl]; rfl)) (KF.n [(1220, 0), (1221, 1), (1222, 2), (1223, 3), (112, 4), (216, 5)])))
   refine At.sB 41 _ _ (sayUT h3) ?_
   refine At.z 7 ?_
   refine AW.cond true (by kernel_rfl) (fun _ => ?_) (fun h => by cases h)
   refine AW.q 6 ?_
   exact AW.ret (rf (k3 (K_spec_OnGot _ r m) (show (r) = ((gots r m).1) from by rw [gots_not h1 (by omega) (by omega)]; first | done | rfl | (rw [endRecs_ne (by dsimp only; omega)]; rfl) | (rw [endRecs_eq rfl rfl]; done) | (rw [endRecs_eq rfl rfl]; rfl)) (show ([]) = ((gots r m).2.1) from by rw [gots_not h1 (by omega) (by omega)]; first | done | rfl | (rw [endRecs_ne (by dsimp only; omega)]; rfl) | (rw [endRecs_eq rfl rfl]; done) | (rw [endRecs_eq rfl rfl]; rfl)) (show ([]) = ((gots r m).2.2) from by rw [gots_not h1 (by omega) (by omega)]; first | done | rfl | (rw [endRecs_ne (by dsimp only; omega)]; rfl) | (rw [endRecs_eq rfl rfl]; done) | (rw [endRecs_eq rfl rfl]; rfl)) (KF.n [(1220, 0), (1221, 1), (1222, 2), (1223, 3), (112, 4), (113, 5)])))
 refine AW.q 5 ?_
 refine AW.seq ?_
 refine AW.weak (Sub.nils [⟨true, 104, some 6, 5001, 45, 6⟩, ⟨true, 104, some 7, 5002, 3, 1⟩, ⟨true, 104, some 8, 5003, 3, 1⟩, ⟨true, 104, some 9, 5004, 3, 1⟩] (by kernel_rfl)) ?_
 refine AW.g ?_
 refine At.a 1 ?_
 refine At.c (spec_l10Same_F_spec  r (by exact hz) hok) Tryz.call97 true [] [(1220, 0), (1221, 1), (1222, 2), (1223, 3)] [] trivial ?_
 refine At.lit0 (t := 37) (d := 12) (e := 47) (es := 10) (bytes := 88) 112 (by kernel_rfl) (by kernel_rfl) (by kernel_rfl) (by kernel_rfl) ?_
 refine At.lit0 (t := 38) (d := 13) (e := 51) (es := 17) (bytes := 168) 113 (by kernel_rfl) (by kernel_rfl) (by kernel_rfl) (by kernel_rfl) ?_
 refine At.z 4 ?_
 refine AW.seq ?_
 refine AW.r ?_
 refine At.a 2 ?_
 refine At.c (spec_l10Hears_spec  r m 4 (by exact hz) hm) Tryz.call108 true [] [] [] trivial ?_
 refine At.z 1 ?_
 refine AW.condT (!(hears r m 4)) (by kernel_rfl) (by rw [show (hears r m 4) = false from (hears_no hok)]; rfl) ?_
 refine AW.q 6 ?_
 exact AW.ret (rf (k3 (K_spec_OnGot _ r m) (show ((⟨0, 0, 0, 0, ⟨0, 0, []⟩, [], [], []⟩ : Raft)) = ((gots r m).1) from by simp [gots, same, hok, hears_no hok]; try rfl) (show ([]) = ((gots r m).2.1) from by simp [gots, same, hok, hears_no hok]; try rfl) (show ([]) = ((gots r m).2.2) from by simp [gots, same, hok, hears_no hok]; try rfl) (KF.n [(1220, 0), (1221, 1), (1222, 2), (1223, 3), (112, 4), (113, 5)])))
def K_spec_l10On (rs : List ResultVar) (r : Raft) (m : Msg) (w0_ : Raft) (w1_ : List Rec) (w2_ : List Out) : Exit → Sg → Prop := KF Tryz.prog 0 rs (.tup [.agg [.int .i64 w0_.id, .int .i64 w0_.of_, .int .i64 w0_.role, .int .i64 w0_.commit, .int .i64 w0_.hard.term, .int .i64 w0_.hard.vote, .ref 0, .ref 1, .ref 2, .ref 3], .ref 4, .ref 5]) [.arr 45 6 (w0_.hard.log.map encEnt), .arr 3 1 (w0_.yes.map encI), .arr 3 1 (w0_.next.map encI), .arr 3 1 (w0_.match_.map encI), .arr 47 10 (w1_.map encRec), .arr 51 17 (w2_.map encOut)]
theorem spec_l10On_spec  (r : Raft) (m : Msg) (hz : SmallR r) (hm : m.entries.length ≤ 1048576) (hok : raftOk r = true) : FnSpec Tryz.prog 169 [(raftA r), (msgA m)] [] (.tup [.agg [.int .i64 (((onR r m).1).id), .int .i64 (((onR r m).1).of_), .int .i64 (((onR r m).1).role), .int .i64 (((onR r m).1).commit), .int .i64 (((onR r m).1).hard.term), .int .i64 (((onR r m).1).hard.vote), .ref 0, .ref 1, .ref 2, .ref 3], .ref 4, .ref 5]) [.arr 45 6 ((((onR r m).1).hard.log).map encEnt), .arr 3 1 ((((onR r m).1).yes).map encI), .arr 3 1 ((((onR r m).1).next).map encI), .arr 3 1 ((((onR r m).1).match_).map encI), .arr 47 10 (((onR r m).2.1).map encRec), .arr 51 17 (((onR r m).2.2).map encOut)] := by
 obtain ⟨z1, z2, z3, z4⟩ := id hz
 refine FnSpec.of 45 Tryz.func169 rfl Tryz.ntmps169 (by simp) (AW.weakK ?_)
 refine AW.q 5 ?_
 refine AW.seq ?_
 refine AW.seq ?_
 refine AW.weak (Sub.nils [⟨true, 104, some 6, 5001, 45, 6⟩, ⟨true, 104, some 7, 5002, 3, 1⟩, ⟨true, 104, some 8, 5003, 3, 1⟩, ⟨true, 104, some 9, 5004, 3, 1⟩] (by kernel_rfl)) ?_
 refine AW.gq 2 ?_
 refine AW.block ?_
 refine AW.q 2 ?_
 refine AW.cE m.kind (1 : Int) (fun h1 => ?_) (fun h1 => ?_)
 · refine AW.r ?_
   refine At.a 2 ?_
   refine At.c (spec_OnAsk_spec  r m hz hm) Tryz.call37 true [] [(1260, 0), (1261, 1), (1262, 2), (1263, 3), (1264, 4), (1265, 5)] [] trivial ?_
   refine At.z 6 ?_
   exact AW.ret (rf (k3 (K_spec_l10On _ r m) (show ((askR r m)) = ((onR r m).1) from by simp only [onR, h1, if_true, if_false] <;> first | rfl | (rw [same_ok hok])) (show (askRecs r m) = ((onR r m).2.1) from by simp only [onR, h1, if_true, if_false] <;> first | rfl | (rw [same_ok hok])) (show (askOuts r m) = ((onR r m).2.2) from by simp only [onR, h1, if_true, if_false] <;> first | rfl | (rw [same_ok hok])) (KF.n [(1260, 0), (1261, 1), (1262, 2), (1263, 3), (1264, 4), (1265, 5)])))
 refine AW.q 2 ?_
 refine AW.cE m.kind (2 : Int) (fun h2 => ?_) (fun h2 => ?_)
 · refine AW.r ?_
   refine At.a 2 ?_
   refine At.c (spec_OnYes_spec  r m hz hm) Tryz.call54 true [] [(1420, 0), (1421, 1), (1422, 2), (1423, 3), (1424, 4), (1425, 5)] [] trivial ?_
   refine At.z 6 ?_
   exact AW.ret (rf (k3 (K_spec_l10On _ r m) (show (((yess r m).1)) = ((onR r m).1) from by simp only [onR, h1, h2, if_true, if_false] <;> first | rfl | (rw [same_ok hok])) (show ((yess r m).2.1) = ((onR r m).2.1) from by simp only [onR, h1, h2, if_true, if_false] <;> first | rfl | (rw [same_ok hok])) (show ((yess r m).2.2) = ((onR r m).2.2) from by simp only [onR, h1, h2, if_true, if_false] <;> first | rfl | (rw [same_ok hok])) (KF.n [(1420, 0), (1421, 1), (1422, 2), (1423, 3), (1424, 4), (1425, 5)])))
 refine AW.q 2 ?_
 refine AW.cE m.kind (3 : Int) (fun h3 => ?_) (fun h3 => ?_)
 · refine AW.r ?_
   refine At.a 2 ?_
   refine At.c (spec_OnSend_spec  r m hz hm) Tryz.call53 true [] [(1580, 0), (1581, 1), (1582, 2), (1583, 3), (1584, 4), (1585, 5)] [] trivial ?_
   refine At.z 6 ?_
   exact AW.ret (rf (k3 (K_spec_l10On _ r m) (show (((sends r m).1)) = ((onR r m).1) from by simp only [onR, h1, h2, h3, if_true, if_false] <;> first | rfl | (rw [same_ok hok])) (show ((sends r m).2.1) = ((onR r m).2.1) from by simp only [onR, h1, h2, h3, if_true, if_false] <;> first | rfl | (rw [same_ok hok])) (show ((sends r m).2.2) = ((onR r m).2.2) from by simp only [onR, h1, h2, h3, if_true, if_false] <;> first | rfl | (rw [same_ok hok])) (KF.n [(1580, 0), (1581, 1), (1582, 2), (1583, 3), (1584, 4), (1585, 5)])))
 refine AW.q 2 ?_
 refine AW.cE m.kind (4 : Int) (fun h4 => ?_) (fun h4 => ?_)
 · refine AW.r ?_
   refine At.a 2 ?_
   refine At.c (spec_OnGot_spec  r m hz hm) Tryz.call35 true [] [(1740, 0), (1741, 1), (1742, 2), (1743, 3), (1744, 4), (1745, 5)] [] trivial ?_
   refine At.z 6 ?_
   exact AW.ret (rf (k3 (K_spec_l10On _ r m) (show (((gots r m).1)) = ((onR r m).1) from by simp only [onR, h1, h2, h3, h4, if_true, if_false] <;> first | rfl | (rw [same_ok hok])) (show ((gots r m).2.1) = ((onR r m).2.1) from by simp only [onR, h1, h2, h3, h4, if_true, if_false] <;> first | rfl | (rw [same_ok hok])) (show ((gots r m).2.2) = ((onR r m).2.2) from by simp only [onR, h1, h2, h3, h4, if_true, if_false] <;> first | rfl | (rw [same_ok hok])) (KF.n [(1740, 0), (1741, 1), (1742, 2), (1743, 3), (1744, 4), (1745, 5)])))
 refine AW.skip ?_
 refine AW.r ?_
 refine At.a 1 ?_
 refine At.c (spec_l10Same_T_spec  r hz hok) Tryz.call97 true [] [(1840, 0), (1841, 1), (1842, 2), (1843, 3)] [] trivial ?_
 refine At.lit0 (t := 37) (d := 43) (e := 47) (es := 10) (bytes := 88) 143 (by kernel_rfl) (by kernel_rfl) (by kernel_rfl) (by kernel_rfl) ?_
 refine At.lit0 (t := 38) (d := 44) (e := 51) (es := 17) (bytes := 168) 144 (by kernel_rfl) (by kernel_rfl) (by kernel_rfl) (by kernel_rfl) ?_
 refine At.z 3 ?_
 exact AW.ret (rf (k3 (K_spec_l10On _ r m) (show (r) = ((onR r m).1) from by simp only [onR, h1, h2, h3, h4, if_true, if_false] <;> first | rfl | (rw [same_ok hok])) (show ([]) = ((onR r m).2.1) from by simp only [onR, h1, h2, h3, h4, if_true, if_false] <;> first | rfl | (rw [same_ok hok])) (show ([]) = ((onR r m).2.2) from by simp only [onR, h1, h2, h3, h4, if_true, if_false] <;> first | rfl | (rw [same_ok hok])) (KF.n [(1840, 0), (1841, 1), (1842, 2), (1843, 3), (143, 4), (144, 5)])))
end Go.Proofs.YtlmadhahghiedaaGreat
