/- The contracts of the functions that FnExactOnSend reaches (each: what it answers, said over values), printed by a program of this session (wip/sy/g/gen.py). -/
import Derived.Test.YtlmadhahghiedaaGreatFFnExactOnSend2
set_option linter.unusedVariables false
set_option linter.unusedSimpArgs false
namespace Go.Proofs.YtlmadhahghiedaaGreat
open Go Go.Sy Go.Proofs
set_option maxRecDepth 100000 in
set_option maxHeartbeats 4000000 in
theorem spec_OnSend_spec  (r : Raft) (m : Msg) (hz : SmallR r) (hm : m.entries.length ≤ 1048576) : FnSpec Tryz.prog 53 [.agg [.int .i64 r.id, .int .i64 r.of_, .int .i64 r.role, .int .i64 r.commit, .int .i64 r.hard.term, .int .i64 r.hard.vote, .sl false 6 (r.hard.log.map encEnt), .sl false 1 (r.yes.map encI), .sl false 1 (r.next.map encI), .sl false 1 (r.match_.map encI)], .agg [.int .i64 m.kind, .int .i64 m.from_, .int .i64 m.term, .int .i64 m.at_, .int .i64 m.atTerm, .int .i64 m.commit, .bool m.yes, .int .i64 m.release, .int .i64 m.part, .str m.bytes, .int .i64 m.cmd.kind, .int .i64 m.cmd.release, .int .i64 m.cmd.node, .int .i64 m.cmd.size, .str m.cmd.digest, .sl false 6 (m.entries.map encEnt)]] [] (.tup [.agg [.int .i64 (((sends r m).1).id), .int .i64 (((sends r m).1).of_), .int .i64 (((sends r m).1).role), .int .i64 (((sends r m).1).commit), .int .i64 (((sends r m).1).hard.term), .int .i64 (((sends r m).1).hard.vote), .ref 0, .ref 1, .ref 2, .ref 3], .ref 4, .ref 5]) [.arr 45 6 ((((sends r m).1).hard.log).map encEnt), .arr 3 1 ((((sends r m).1).yes).map encI), .arr 3 1 ((((sends r m).1).next).map encI), .arr 3 1 ((((sends r m).1).match_).map encI), .arr 47 10 (((sends r m).2.1).map encRec), .arr 51 17 (((sends r m).2.2).map encOut)] := by
  obtain ⟨z1, z2, z3, z4⟩ := id hz
  refine FnSpec.of 201 Tryz.func53 rfl Tryz.ntmps53 (by simp) (AW.weakK ?_)
  by_cases hok : raftOk r = true
  · skip
    have hokn := raftOk1_nums (raftOk_1 hok)
    refine AW.r ?_
    refine At.a 5 ?_
    refine At.done rfl ?_
    refine AW.seq ?_
    refine AW.weak (Sub.nils [⟨true, 104, some 6, 5001, 45, 6⟩, ⟨true, 104, some 7, 5002, 3, 1⟩, ⟨true, 104, some 8, 5003, 3, 1⟩, ⟨true, 104, some 9, 5004, 3, 1⟩] (by kernel_rfl)) ?_
    refine AW.region (At.start ?_)
    refine At.a 1 ?_
    refine At.c (spec_l10Same_T_spec  r hz hok) Tryz.call97 true [] [(1320, 0), (1321, 1), (1322, 2), (1323, 3)] [] trivial ?_
    refine At.lit0 (t := 37) (d := 17) (e := 47) (es := 10) (bytes := 88) 117 (by kernel_rfl) (by kernel_rfl) (by kernel_rfl) (by kernel_rfl) ?_
    refine At.lit0 (t := 38) (d := 18) (e := 51) (es := 17) (bytes := 168) 118 (by kernel_rfl) (by kernel_rfl) (by kernel_rfl) (by kernel_rfl) ?_
    refine At.a 4 ?_
    refine At.done rfl ?_
    refine AW.seq ?_
    refine AW.r ?_
    refine At.a 2 ?_
    refine At.c (spec_l10Hears_spec  r m 3 hz hm) Tryz.call108 true [] [] [] trivial ?_
    refine At.a 2 ?_
    by_cases h1 : (hears r m 3) = true
    · refine At.sB 23 (!(hears r m 3)) false (sayNF (sayB h1)) ?_
      have hhr := hears_ok h1
      have hnu := msgFits_nums hhr.2.1
      refine At.a 2 ?_
      refine At.c (spec_l10Fits_spec  r m hz hm hnu.2.1 (by omega)) Tryz.call137 true [] [] [] trivial ?_
      refine At.a 2 ?_
      refine At.done rfl ?_
      refine AW.cNB (rowB m && !cutsB r m) (fun h2 => ?_) (fun h2 => ?_)
      · skip
        refine AW.r ?_
        refine At.a 6 ?_
        refine At.done rfl ?_
        refine AW.ret ?_
        refine ⟨_, Sub.refl _ _, ?_⟩
        refine KF.conv (fun w => .tup [.agg [.int .i64 w.id, .int .i64 w.of_, .int .i64 w.role, .int .i64 w.commit, .int .i64 w.hard.term, .int .i64 w.hard.vote, .ref 0, .ref 1, .ref 2, .ref 3], .ref 4, .ref 5]) (fun w => [.arr 45 6 (w.hard.log.map encEnt), .arr 3 1 (w.yes.map encI), .arr 3 1 (w.next.map encI), .arr 3 1 (w.match_.map encI), .arr 47 10 (((sends r m).2.1).map encRec), .arr 51 17 (((sends r m).2.2).map encOut)]) (show (r) = ((sends r m).1) from by rw [sends_no (sendB_not2 (by first | exact .inl (by assumption) | exact .inr (by assumption))) hok]; first | done | rfl | (rw [endRecs_ne (by dsimp only; omega)]; rfl) | (rw [endRecs_eq rfl rfl]; done) | (rw [endRecs_eq rfl rfl]; rfl) | (rw [show r.hard.term = m.term from by omega]; rfl)) ?_
        refine KF.conv (fun w => .tup [.agg [.int .i64 r.id, .int .i64 r.of_, .int .i64 r.role, .int .i64 r.commit, .int .i64 r.hard.term, .int .i64 r.hard.vote, .ref 0, .ref 1, .ref 2, .ref 3], .ref 4, .ref 5]) (fun w => [.arr 45 6 (r.hard.log.map encEnt), .arr 3 1 (r.yes.map encI), .arr 3 1 (r.next.map encI), .arr 3 1 (r.match_.map encI), .arr 47 10 (w.map encRec), .arr 51 17 (((sends r m).2.2).map encOut)]) (show ([]) = ((sends r m).2.1) from by rw [sends_no (sendB_not2 (by first | exact .inl (by assumption) | exact .inr (by assumption))) hok]; first | done | rfl | (rw [endRecs_ne (by dsimp only; omega)]; rfl) | (rw [endRecs_eq rfl rfl]; done) | (rw [endRecs_eq rfl rfl]; rfl) | (rw [show r.hard.term = m.term from by omega]; rfl)) ?_
        refine KF.conv (fun w => .tup [.agg [.int .i64 r.id, .int .i64 r.of_, .int .i64 r.role, .int .i64 r.commit, .int .i64 r.hard.term, .int .i64 r.hard.vote, .ref 0, .ref 1, .ref 2, .ref 3], .ref 4, .ref 5]) (fun w => [.arr 45 6 (r.hard.log.map encEnt), .arr 3 1 (r.yes.map encI), .arr 3 1 (r.next.map encI), .arr 3 1 (r.match_.map encI), .arr 47 10 [], .arr 51 17 (w.map encOut)]) (show ([]) = ((sends r m).2.2) from by rw [sends_no (sendB_not2 (by first | exact .inl (by assumption) | exact .inr (by assumption))) hok]; first | done | rfl | (rw [endRecs_ne (by dsimp only; omega)]; rfl) | (rw [endRecs_eq rfl rfl]; done) | (rw [endRecs_eq rfl rfl]; rfl) | (rw [show r.hard.term = m.term from by omega]; rfl)) ?_
        exact KF.m [(1320, 0), (1321, 1), (1322, 2), (1323, 3), (117, 4), (118, 5)] [.agg [.int .i64 r.id, .int .i64 r.of_, .int .i64 r.role, .int .i64 r.commit, .int .i64 r.hard.term, .int .i64 r.hard.vote, .ref 1320, .ref 1321, .ref 1322, .ref 1323], .ref 117, .ref 118]
      · skip
        refine AW.skip ?_
        refine AW.r ?_
        refine At.a 8 ?_
        refine At.done rfl ?_
        refine AW.seq ?_
        refine AW.seq ?_
        refine AW.weak (Sub.nils [⟨true, 110, some 15, 5005, 45, 6⟩] (by kernel_rfl)) ?_
        refine AW.region (At.start ?_)
        refine At.a 6 ?_
        refine At.done rfl ?_
        refine AW.cD (m.term < r.hard.term) (fun h3 => ?_) (fun h3 => ?_)
        · skip
          refine AW.seq ?_
          refine AW.regionD Tryz_mix (At.start ?_)
          refine At.a 7 ?_
          refine At.litK (t := 38) (d := 51) (e := 51) (es := 17) (bytes := 168) (n := 1) (parts := #[(0, .tmp 50)]) (45, 6) 151 [5005] [.int .i64 m.from_, .int .i64 4, .int .i64 r.id, .int .i64 r.hard.term, .int .i64 0, .int .i64 0, .int .i64 0, .bool false, .int .i64 0, .int .i64 0, .str (⟨#[]⟩ : ByteArray), .int .i64 0, .int .i64 0, .int .i64 0, .int .i64 0, .str (⟨#[]⟩ : ByteArray), .ref 5005] [.int .i64 m.from_, .int .i64 4, .int .i64 r.id, .int .i64 r.hard.term, .int .i64 0, .int .i64 0, .int .i64 0, .bool false, .int .i64 0, .int .i64 0, .str (⟨#[]⟩ : ByteArray), .int .i64 0, .int .i64 0, .int .i64 0, .int .i64 0, .str (⟨#[]⟩ : ByteArray), .own 45 6 []] [.int .i64 0, .int .i64 0, .int .i64 0, .int .i64 0, .int .i64 0, .int .i64 0, .int .i64 0, .bool false, .int .i64 0, .int .i64 0, .str (⟨#[]⟩ : ByteArray), .int .i64 0, .int .i64 0, .int .i64 0, .int .i64 0, .str (⟨#[]⟩ : ByteArray), .nil] [.agg [.int .i64 m.from_, .int .i64 4, .int .i64 r.id, .int .i64 r.hard.term, .int .i64 0, .int .i64 0, .int .i64 0, .bool false, .int .i64 0, .int .i64 0, .str (⟨#[]⟩ : ByteArray), .int .i64 0, .int .i64 0, .int .i64 0, .int .i64 0, .str (⟨#[]⟩ : ByteArray), .own 45 6 []]] [(45, 6, [])] (by kernel_rfl) (by kernel_rfl) (by kernel_rfl) (by kernel_rfl) (by kernel_rfl) (by intro p hp; simp only [List.mem_cons, List.not_mem_nil, or_false] at hp; subst hp; all_goals first | exact flatEnts | (intro x hx; cases hx)) (by kernel_rfl) ?_
          refine At.append (t := 38) (d := 52) (e := 51) (es := 17) (bytes := 168) (s := .tmp 46) (x := .tmp 51) (S := .ref 118) (T := .ref 151) (xs := []) (ys := (([(⟨m.from_, ⟨4, r.id, r.hard.term, 0, 0, 0, false, 0, 0, (⟨#[]⟩ : ByteArray), ⟨0, 0, 0, 0, (⟨#[]⟩ : ByteArray)⟩, []⟩⟩ : Out)]).map encOut)) 152 [118] [151] (([(⟨m.from_, ⟨4, r.id, r.hard.term, 0, 0, 0, false, 0, 0, (⟨#[]⟩ : ByteArray), ⟨0, 0, 0, 0, (⟨#[]⟩ : ByteArray)⟩, []⟩⟩ : Out)]).map encOut) (by kernel_rfl) (by kernel_rfl) (by kernel_rfl) (by kernel_rfl) ⟨by kernel_rfl, rfl⟩ ⟨by kernel_rfl, .inr rfl⟩ (by kernel_rfl) (by kernel_rfl) (by simp) (by simp only [List.length_map, List.length_append, List.length_take, List.length_drop, List.length_replicate, List.length_set, List.length_cons, List.length_nil]; omega) (by simp only [List.length_map, List.length_append, List.length_take, List.length_drop, List.length_replicate, List.length_set, List.length_cons, List.length_nil]; omega) ?_
          refine At.a 3 ?_
          refine At.done rfl ⟨by kernel_rfl, ?_⟩
          refine AW.ret ?_
          refine ⟨_, Sub.refl _ _, ?_⟩
          refine KF.conv (fun w => .tup [.agg [.int .i64 w.id, .int .i64 w.of_, .int .i64 w.role, .int .i64 w.commit, .int .i64 w.hard.term, .int .i64 w.hard.vote, .ref 0, .ref 1, .ref 2, .ref 3], .ref 4, .ref 5]) (fun w => [.arr 45 6 (w.hard.log.map encEnt), .arr 3 1 (w.yes.map encI), .arr 3 1 (w.next.map encI), .arr 3 1 (w.match_.map encI), .arr 47 10 (((sends r m).2.1).map encRec), .arr 51 17 (((sends r m).2.2).map encOut)]) (show (r) = ((sends r m).1) from by rw [sends_old (sendB_of2 h1 h2) (by omega)]; first | done | rfl | (rw [endRecs_ne (by dsimp only; omega)]; rfl) | (rw [endRecs_eq rfl rfl]; done) | (rw [endRecs_eq rfl rfl]; rfl) | (rw [show r.hard.term = m.term from by omega]; rfl)) ?_
          refine KF.conv (fun w => .tup [.agg [.int .i64 r.id, .int .i64 r.of_, .int .i64 r.role, .int .i64 r.commit, .int .i64 r.hard.term, .int .i64 r.hard.vote, .ref 0, .ref 1, .ref 2, .ref 3], .ref 4, .ref 5]) (fun w => [.arr 45 6 (r.hard.log.map encEnt), .arr 3 1 (r.yes.map encI), .arr 3 1 (r.next.map encI), .arr 3 1 (r.match_.map encI), .arr 47 10 (w.map encRec), .arr 51 17 (((sends r m).2.2).map encOut)]) (show ([]) = ((sends r m).2.1) from by rw [sends_old (sendB_of2 h1 h2) (by omega)]; first | done | rfl | (rw [endRecs_ne (by dsimp only; omega)]; rfl) | (rw [endRecs_eq rfl rfl]; done) | (rw [endRecs_eq rfl rfl]; rfl) | (rw [show r.hard.term = m.term from by omega]; rfl)) ?_
          refine KF.conv (fun w => .tup [.agg [.int .i64 r.id, .int .i64 r.of_, .int .i64 r.role, .int .i64 r.commit, .int .i64 r.hard.term, .int .i64 r.hard.vote, .ref 0, .ref 1, .ref 2, .ref 3], .ref 4, .ref 5]) (fun w => [.arr 45 6 (r.hard.log.map encEnt), .arr 3 1 (r.yes.map encI), .arr 3 1 (r.next.map encI), .arr 3 1 (r.match_.map encI), .arr 47 10 [], .arr 51 17 (w.map encOut)]) (show ([(⟨m.from_, ⟨4, r.id, r.hard.term, 0, 0, 0, false, 0, 0, (⟨#[]⟩ : ByteArray), ⟨0, 0, 0, 0, (⟨#[]⟩ : ByteArray)⟩, []⟩⟩ : Out)]) = ((sends r m).2.2) from by rw [sends_old (sendB_of2 h1 h2) (by omega)]; first | done | rfl | (rw [endRecs_ne (by dsimp only; omega)]; rfl) | (rw [endRecs_eq rfl rfl]; done) | (rw [endRecs_eq rfl rfl]; rfl) | (rw [show r.hard.term = m.term from by omega]; rfl)) ?_
          exact KF.m [(1320, 0), (1321, 1), (1322, 2), (1323, 3), (117, 4), (152, 5)] [.agg [.int .i64 r.id, .int .i64 r.of_, .int .i64 r.role, .int .i64 r.commit, .int .i64 r.hard.term, .int .i64 r.hard.vote, .ref 1320, .ref 1321, .ref 1322, .ref 1323], .ref 117, .ref 152]
        · skip
          refine AW.skip ?_
          refine AW.seq ?_
          refine AW.r ?_
          refine At.a 6 ?_
          refine At.done rfl ?_
          refine AW.cD (m.term > r.hard.term) (fun h4 => ?_) (fun h4 => ?_)
          · skip
            refine AW.r ?_
            refine At.a 3 ?_
            refine At.c (spec_l10Follow_spec  r m.term ) Tryz.call109 true [(1320, 0), (1321, 1), (1322, 2), (1323, 3)] [(2240, 4), (2241, 5), (2242, 6)] [] trivial ?_
            refine At.a 1 ?_
            refine At.done rfl ?_
            refine AW.region (At.start ?_)
            refine At.a 2 ?_
            refine At.c (spec_l10Vote_spec  (⟨r.id, r.of_, 1, r.commit, ⟨m.term, 0, r.hard.log⟩, [], [], []⟩ : Raft) ) Tryz.call98 false [] [] [(1320, 6, (r.hard.log.map encEnt)), (2240, 1, []), (2241, 1, []), (2242, 1, [])] ⟨rfl, ⟨45, (r.hard.log.map encEnt), by kernel_rfl, FrzIs.same (allP_encEnt _)⟩, rfl, ⟨3, [], by kernel_rfl, FrzIs.same (fun _ h => by cases h)⟩, rfl, ⟨3, [], by kernel_rfl, FrzIs.same (fun _ h => by cases h)⟩, rfl, ⟨3, [], by kernel_rfl, FrzIs.same (fun _ h => by cases h)⟩, trivial⟩ ?_
            refine At.litK (t := 37) (d := 66) (e := 47) (es := 10) (bytes := 88) (n := 1) (parts := #[(0, .tmp 65)]) (45, 6) 166 [] [.int .i64 1, .int .i64 m.term, .int .i64 0, .int .i64 0, .int .i64 0, .int .i64 0, .int .i64 0, .int .i64 0, .int .i64 0, .str (⟨#[]⟩ : ByteArray)] [.int .i64 1, .int .i64 m.term, .int .i64 0, .int .i64 0, .int .i64 0, .int .i64 0, .int .i64 0, .int .i64 0, .int .i64 0, .str (⟨#[]⟩ : ByteArray)] [.int .i64 0, .int .i64 0, .int .i64 0, .int .i64 0, .int .i64 0, .int .i64 0, .int .i64 0, .int .i64 0, .int .i64 0, .str (⟨#[]⟩ : ByteArray)] [.agg [.int .i64 1, .int .i64 m.term, .int .i64 0, .int .i64 0, .int .i64 0, .int .i64 0, .int .i64 0, .int .i64 0, .int .i64 0, .str (⟨#[]⟩ : ByteArray)]] [] (by kernel_rfl) (by kernel_rfl) (by kernel_rfl) (by kernel_rfl) rfl (fun p hp => by cases hp) (by kernel_rfl) ?_
            refine At.append (t := 37) (d := 67) (e := 47) (es := 10) (bytes := 88) (s := .tmp 63) (x := .tmp 66) (S := .ref 117) (T := .ref 166) (xs := []) (ys := (([(⟨1, m.term, 0, 0, ⟨0, ⟨0, 0, 0, 0, (⟨#[]⟩ : ByteArray)⟩⟩⟩ : Rec)]).map encRec)) 167 [117] [166] (([(⟨1, m.term, 0, 0, ⟨0, ⟨0, 0, 0, 0, (⟨#[]⟩ : ByteArray)⟩⟩⟩ : Rec)]).map encRec) (by kernel_rfl) (by kernel_rfl) (by kernel_rfl) (by kernel_rfl) ⟨by kernel_rfl, rfl⟩ ⟨by kernel_rfl, .inr rfl⟩ (by kernel_rfl) (by kernel_rfl) (by simp) (by simp only [List.length_map, List.length_append, List.length_take, List.length_drop, List.length_replicate, List.length_set, List.length_cons, List.length_nil]; omega) (by simp only [List.length_map, List.length_append, List.length_take, List.length_drop, List.length_replicate, List.length_set, List.length_cons, List.length_nil]; omega) ?_
            refine At.a 1 ?_
            refine At.done rfl ?_
            refine AW.r ?_
            refine At.a 1 ?_
            refine At.c (spec_l10Rest_spec  (⟨r.id, r.of_, 1, r.commit, ⟨m.term, 0, r.hard.log⟩, [], [], []⟩ : Raft) ) Tryz.call138 true [(1320, 0), (2240, 1), (2241, 2), (2242, 3)] [(2500, 4), (2501, 5), (2502, 6)] [] trivial ?_
            refine At.a 1 ?_
            refine At.done rfl ?_
            refine AW.r ?_
            refine At.a 4 ?_
            refine At.done rfl ?_
            refine AW.r ?_
            refine At.a 1 ?_
            refine At.c (spec_l10End_spec  (⟨r.id, r.of_, 1, r.commit, ⟨m.term, 0, r.hard.log⟩, [], [], []⟩ : Raft) ) Tryz.call65 false [] [] [(1320, 6, (r.hard.log.map encEnt)), (2500, 1, []), (2501, 1, []), (2502, 1, [])] ⟨rfl, ⟨45, (r.hard.log.map encEnt), by kernel_rfl, FrzIs.same (allP_encEnt _)⟩, rfl, ⟨3, [], by kernel_rfl, FrzIs.same (fun _ h => by cases h)⟩, rfl, ⟨3, [], by kernel_rfl, FrzIs.same (fun _ h => by cases h)⟩, rfl, ⟨3, [], by kernel_rfl, FrzIs.same (fun _ h => by cases h)⟩, trivial⟩ ?_
            refine At.a 1 ?_
            refine At.done rfl ?_
            refine AW.seq ?_
            refine AW.seq ?_
            refine AW.cut [(102, 102), (103, 103), (104, 104), (107, 107), (110, 110), (118, 118), (167, 167), (1320, 1320), (1321, 1321), (1322, 1322), (1323, 1323), (2240, 2240), (2241, 2241), (2242, 2242), (2500, 2500), (2501, 2501), (2502, 2502), (5001, 5001), (5002, 5002), (5003, 5003), (5004, 5004), (5005, 5005)] [false, false, false, true, true, false, false, true, true, true, true, true] 99 (!(fitsB r.hard.log m)) ?_ ?_
            · skip
              refine AW.regionD Tryz_mix (At.start ?_)
              refine At.a 5 ?_
              by_cases h5 : m.at_ > (r.hard.log.length : Int)
              · refine At.sB 85 (decide (m.at_ > (r.hard.log.length : Int))) true (sayT h5) ?_
                refine At.a 14 ?_
                refine At.sB 99 true (!(fitsB r.hard.log m)) (congrArg V.bool (by grind [fitsB])) ?_
                refine At.done rfl ⟨by kernel_rfl, rfl, ?_⟩
                exact Sub.cut [(102, 102), (103, 103), (104, 104), (107, 107), (110, 110), (118, 118), (167, 167), (1320, 1320), (1321, 1321), (1322, 1322), (1323, 1323), (2240, 2240), (2241, 2241), (2242, 2242), (2500, 2500), (2501, 2501), (2502, 2502), (5001, 5001), (5002, 5002), (5003, 5003), (5004, 5004), (5005, 5005)] [false, false, false, true, true, false, false, true, true, true, true, true] 99 _ (by kernel_rfl) (by kernel_rfl) (by kernel_rfl) (by kernel_rfl)
              · refine At.sB 85 (decide (m.at_ > (r.hard.log.length : Int))) false (sayF h5) ?_
                refine At.a 4 ?_
                by_cases h6 : m.at_ > 0
                · refine At.sB 89 (decide (m.at_ > 0)) true (sayT h6) ?_
                  refine At.a 4 ?_
                  refine At.c (spec_l10Term_spec  (⟨m.term, 0, r.hard.log⟩ : Hard) m.at_ (by omega)) Tryz.call115 false [] [] [(1320, 6, (r.hard.log.map encEnt))] ⟨rfl, ⟨45, (r.hard.log.map encEnt), by kernel_rfl, FrzIs.same (allP_encEnt _)⟩, trivial⟩ ?_
                  refine At.a 5 ?_
                  refine At.sB 99 ((termAt r.hard.log m.at_) != m.atTerm) (!(fitsB r.hard.log m)) (congrArg V.bool (by grind [fitsB])) ?_
                  refine At.done rfl ⟨by kernel_rfl, rfl, ?_⟩
                  exact Sub.cut [(102, 102), (103, 103), (104, 104), (107, 107), (110, 110), (118, 118), (167, 167), (1320, 1320), (1321, 1321), (1322, 1322), (1323, 1323), (2240, 2240), (2241, 2241), (2242, 2242), (2500, 2500), (2501, 2501), (2502, 2502), (5001, 5001), (5002, 5002), (5003, 5003), (5004, 5004), (5005, 5005)] [false, false, false, true, true, false, false, true, true, true, true, true] 99 _ (by kernel_rfl) (by kernel_rfl) (by kernel_rfl) (by kernel_rfl)
                · refine At.sB 89 (decide (m.at_ > 0)) false (sayF h6) ?_
                  refine At.a 10 ?_
                  refine At.sB 99 false (!(fitsB r.hard.log m)) (congrArg V.bool (by grind [fitsB])) ?_
                  refine At.done rfl ⟨by kernel_rfl, rfl, ?_⟩
                  exact Sub.cut [(102, 102), (103, 103), (104, 104), (107, 107), (110, 110), (118, 118), (167, 167), (1320, 1320), (1321, 1321), (1322, 1322), (1323, 1323), (2240, 2240), (2241, 2241), (2242, 2242), (2500, 2500), (2501, 2501), (2502, 2502), (5001, 5001), (5002, 5002), (5003, 5003), (5004, 5004), (5005, 5005)] [false, false, false, true, true, false, false, true, true, true, true, true] 99 _ (by kernel_rfl) (by kernel_rfl) (by kernel_rfl) (by kernel_rfl)
            refine AW.cNB (fitsB r.hard.log m) (fun h7 => ?_) (fun h7 => ?_)
            · skip
              refine AW.r ?_
              refine At.a 4 ?_
              refine At.sI 103 (m.at_ - 1) (by omega) ?_
              refine At.c (spec_l1Min_spec  (r.hard.log.length : Int) (m.at_ - 1) ) Tryz.call111 true [] [] [] trivial ?_
              refine At.a 2 ?_
              refine At.done rfl ?_
              refine AW.seq ?_
              refine AW.regionD Tryz_mix (At.start ?_)
              refine At.a 7 ?_
              refine At.litK (t := 38) (d := 113) (e := 51) (es := 17) (bytes := 168) (n := 1) (parts := #[(0, .tmp 112)]) (45, 6) 213 [5005] [.int .i64 m.from_, .int .i64 4, .int .i64 r.id, .int .i64 m.term, .int .i64 (min (r.hard.log.length : Int) (m.at_ - 1)), .int .i64 0, .int .i64 0, .bool false, .int .i64 0, .int .i64 0, .str (⟨#[]⟩ : ByteArray), .int .i64 0, .int .i64 0, .int .i64 0, .int .i64 0, .str (⟨#[]⟩ : ByteArray), .ref 5005] [.int .i64 m.from_, .int .i64 4, .int .i64 r.id, .int .i64 m.term, .int .i64 (min (r.hard.log.length : Int) (m.at_ - 1)), .int .i64 0, .int .i64 0, .bool false, .int .i64 0, .int .i64 0, .str (⟨#[]⟩ : ByteArray), .int .i64 0, .int .i64 0, .int .i64 0, .int .i64 0, .str (⟨#[]⟩ : ByteArray), .own 45 6 []] [.int .i64 0, .int .i64 0, .int .i64 0, .int .i64 0, .int .i64 0, .int .i64 0, .int .i64 0, .bool false, .int .i64 0, .int .i64 0, .str (⟨#[]⟩ : ByteArray), .int .i64 0, .int .i64 0, .int .i64 0, .int .i64 0, .str (⟨#[]⟩ : ByteArray), .nil] [.agg [.int .i64 m.from_, .int .i64 4, .int .i64 r.id, .int .i64 m.term, .int .i64 (min (r.hard.log.length : Int) (m.at_ - 1)), .int .i64 0, .int .i64 0, .bool false, .int .i64 0, .int .i64 0, .str (⟨#[]⟩ : ByteArray), .int .i64 0, .int .i64 0, .int .i64 0, .int .i64 0, .str (⟨#[]⟩ : ByteArray), .own 45 6 []]] [(45, 6, [])] (by kernel_rfl) (by kernel_rfl) (by kernel_rfl) (by kernel_rfl) (by kernel_rfl) (by intro p hp; simp only [List.mem_cons, List.not_mem_nil, or_false] at hp; subst hp; all_goals first | exact flatEnts | (intro x hx; cases hx)) (by kernel_rfl) ?_
              refine At.append (t := 38) (d := 114) (e := 51) (es := 17) (bytes := 168) (s := .tmp 108) (x := .tmp 113) (S := .ref 118) (T := .ref 213) (xs := []) (ys := (([(⟨m.from_, ⟨4, r.id, m.term, min (r.hard.log.length : Int) (m.at_ - 1), 0, 0, false, 0, 0, (⟨#[]⟩ : ByteArray), ⟨0, 0, 0, 0, (⟨#[]⟩ : ByteArray)⟩, []⟩⟩ : Out)]).map encOut)) 214 [118] [213] (([(⟨m.from_, ⟨4, r.id, m.term, min (r.hard.log.length : Int) (m.at_ - 1), 0, 0, false, 0, 0, (⟨#[]⟩ : ByteArray), ⟨0, 0, 0, 0, (⟨#[]⟩ : ByteArray)⟩, []⟩⟩ : Out)]).map encOut) (by kernel_rfl) (by kernel_rfl) (by kernel_rfl) (by kernel_rfl) ⟨by kernel_rfl, rfl⟩ ⟨by kernel_rfl, .inr rfl⟩ (by kernel_rfl) (by kernel_rfl) (by simp) (by simp only [List.length_map, List.length_append, List.length_take, List.length_drop, List.length_replicate, List.length_set, List.length_cons, List.length_nil]; omega) (by simp only [List.length_map, List.length_append, List.length_take, List.length_drop, List.length_replicate, List.length_set, List.length_cons, List.length_nil]; omega) ?_
              refine At.a 3 ?_
              refine At.done rfl ⟨by kernel_rfl, ?_⟩
              refine AW.ret ?_
              refine ⟨_, Sub.refl _ _, ?_⟩
              refine KF.conv (fun w => .tup [.agg [.int .i64 w.id, .int .i64 w.of_, .int .i64 w.role, .int .i64 w.commit, .int .i64 w.hard.term, .int .i64 w.hard.vote, .ref 0, .ref 1, .ref 2, .ref 3], .ref 4, .ref 5]) (fun w => [.arr 45 6 (w.hard.log.map encEnt), .arr 3 1 (w.yes.map encI), .arr 3 1 (w.next.map encI), .arr 3 1 (w.match_.map encI), .arr 47 10 (((sends r m).2.1).map encRec), .arr 51 17 (((sends r m).2.2).map encOut)]) (show ((⟨r.id, r.of_, 1, r.commit, ⟨m.term, 0, r.hard.log⟩, [], [], []⟩ : Raft)) = ((sends r m).1) from by rw [sends_far1 (sendB_of2 h1 h2) (by omega) (by assumption)]; first | done | rfl | (rw [endRecs_ne (by dsimp only; omega)]; rfl) | (rw [endRecs_eq rfl rfl]; done) | (rw [endRecs_eq rfl rfl]; rfl) | (rw [show r.hard.term = m.term from by omega]; rfl)) ?_
              refine KF.conv (fun w => .tup [.agg [.int .i64 r.id, .int .i64 r.of_, .int .i64 1, .int .i64 r.commit, .int .i64 m.term, .int .i64 0, .ref 0, .ref 1, .ref 2, .ref 3], .ref 4, .ref 5]) (fun w => [.arr 45 6 (r.hard.log.map encEnt), .arr 3 1 [], .arr 3 1 [], .arr 3 1 [], .arr 47 10 (w.map encRec), .arr 51 17 (((sends r m).2.2).map encOut)]) (show ([(⟨1, m.term, 0, 0, ⟨0, ⟨0, 0, 0, 0, (⟨#[]⟩ : ByteArray)⟩⟩⟩ : Rec)]) = ((sends r m).2.1) from by rw [sends_far1 (sendB_of2 h1 h2) (by omega) (by assumption)]; first | done | rfl | (rw [endRecs_ne (by dsimp only; omega)]; rfl) | (rw [endRecs_eq rfl rfl]; done) | (rw [endRecs_eq rfl rfl]; rfl) | (rw [show r.hard.term = m.term from by omega]; rfl)) ?_
              refine KF.conv (fun w => .tup [.agg [.int .i64 r.id, .int .i64 r.of_, .int .i64 1, .int .i64 r.commit, .int .i64 m.term, .int .i64 0, .ref 0, .ref 1, .ref 2, .ref 3], .ref 4, .ref 5]) (fun w => [.arr 45 6 (r.hard.log.map encEnt), .arr 3 1 [], .arr 3 1 [], .arr 3 1 [], .arr 47 10 (([(⟨1, m.term, 0, 0, ⟨0, ⟨0, 0, 0, 0, (⟨#[]⟩ : ByteArray)⟩⟩⟩ : Rec)]).map encRec), .arr 51 17 (w.map encOut)]) (show ([(⟨m.from_, ⟨4, r.id, m.term, min (r.hard.log.length : Int) (m.at_ - 1), 0, 0, false, 0, 0, (⟨#[]⟩ : ByteArray), ⟨0, 0, 0, 0, (⟨#[]⟩ : ByteArray)⟩, []⟩⟩ : Out)]) = ((sends r m).2.2) from by rw [sends_far1 (sendB_of2 h1 h2) (by omega) (by assumption)]; first | done | rfl | (rw [endRecs_ne (by dsimp only; omega)]; rfl) | (rw [endRecs_eq rfl rfl]; done) | (rw [endRecs_eq rfl rfl]; rfl) | (rw [show r.hard.term = m.term from by omega]; rfl)) ?_
              exact KF.m [(1320, 0), (2500, 1), (2501, 2), (2502, 3), (167, 4), (214, 5)] [.agg [.int .i64 r.id, .int .i64 r.of_, .int .i64 1, .int .i64 r.commit, .int .i64 m.term, .int .i64 0, .ref 1320, .ref 2500, .ref 2501, .ref 2502], .ref 167, .ref 214]
            · skip
              have hfit := h7
              have hat := fitsB_at hfit
              refine AW.skip ?_
              refine AW.r ?_
              refine At.a 3 ?_
              refine At.done rfl ?_
              refine AW.seq ?_
              refine AW.r ?_
              refine At.a 1 ?_
              refine At.done rfl ?_
              refine AW.block ?_
              refine AW.loopW (fun (x : Nat × Int × List Ent × List Rec) => match x with | (k, b, lg, rc) => Go.Sy.mk [.un, .un, .un, .ptr 103 0 0, .ptr 104 0 0, .un, .un, .ptr 107 0 0, .ref 167, .ref 118, .ptr 110 0 0, .un, .int .i64 b, .int .i64 (k : Int)] [(103, .box 33 [.int .i64 m.kind, .int .i64 m.from_, .int .i64 m.term, .int .i64 m.at_, .int .i64 m.atTerm, .int .i64 m.commit, .bool m.yes, .int .i64 m.release, .int .i64 m.part, .str m.bytes, .int .i64 m.cmd.kind, .int .i64 m.cmd.release, .int .i64 m.cmd.node, .int .i64 m.cmd.size, .str m.cmd.digest, .sl false 6 (m.entries.map encEnt)]), (104, .box 29 [.int .i64 0, .int .i64 0, .int .i64 0, .int .i64 0, .int .i64 0, .int .i64 0, .ref 5001, .ref 5002, .ref 5003, .ref 5004]), (107, .box 29 [.int .i64 r.id, .int .i64 r.of_, .int .i64 1, .int .i64 r.commit, .int .i64 m.term, .int .i64 0, .ref 1320, .ref 2500, .ref 2501, .ref 2502]), (110, .box 33 [.int .i64 4, .int .i64 r.id, .int .i64 m.term, .int .i64 0, .int .i64 0, .int .i64 0, .bool false, .int .i64 0, .int .i64 0, .str (⟨#[]⟩ : ByteArray), .int .i64 0, .int .i64 0, .int .i64 0, .int .i64 0, .str (⟨#[]⟩ : ByteArray), .ref 5005]), (118, .arr 51 17 []), (167, .arr 47 10 (rc.map encRec)), (1320, .arr 45 6 (lg.map encEnt)), (2500, .arr 3 1 []), (2501, .arr 3 1 []), (2502, .arr 3 1 []), (5001, .arr 45 6 []), (5002, .arr 3 1 []), (5003, .arr 3 1 []), (5004, .arr 3 1 []), (5005, .arr 45 6 [])]) (fun (x : Nat × Int × List Ent × List Rec) => match x with | (k, b, lg, rc) => k ≤ m.entries.length ∧ (b = m.at_ + (k : Int) ∧ b ≤ lg.length ∧ lg.length ≤ 80 ∧ rc.length ≤ 1000 + 2 * k) ∧ takeE m.entries m.at_ r.hard.log ([(⟨1, m.term, 0, 0, ⟨0, ⟨0, 0, 0, 0, (⟨#[]⟩ : ByteArray)⟩⟩⟩ : Rec)]) = takeE (m.entries.drop k) b lg rc) (fun (x : Nat × Int × List Ent × List Rec) => match x with | (k, b, lg, rc) => m.entries.length - k) (0, m.at_, r.hard.log, [(⟨1, m.term, 0, 0, ⟨0, ⟨0, 0, 0, 0, (⟨#[]⟩ : ByteArray)⟩⟩⟩ : Rec)]) ⟨by omega, (by simp only [List.length_cons, List.length_nil]; omega), by rw [List.drop_zero]⟩ (Sub.o [(103, 103), (104, 104), (107, 107), (110, 110), (118, 118), (167, 167), (1320, 1320), (2500, 2500), (2501, 2501), (2502, 2502), (5001, 5001), (5002, 5002), (5003, 5003), (5004, 5004), (5005, 5005)] [false, false, false, true, true, false, false, true, true, true, true, false, true, true]) ?_
              rintro ⟨k, b, lg, rc⟩ ⟨hk, hb, hR⟩
              refine AW.seq ?_
              refine AW.r ?_
              refine At.a 4 ?_
              refine At.sL 120 encEnt m.entries ?_
              refine At.a 1 ?_
              refine At.done rfl ?_
              refine AW.cD ((k : Int) < (m.entries.length : Int)) (fun h8 => ?_) (fun h8 => ?_)
              · skip
                refine AW.skip ?_
                refine AW.seq ?_
                refine AW.block ?_
                refine AW.r ?_
                refine At.a 3 ?_
                refine At.sI 126 (m.at_ + 1) (by omega) ?_
                refine At.a 2 ?_
                refine At.say 128 (.int .i64 (IntKind.i64.wrap ((m.at_ + 1) + (k : Int)))) (.int .i64 (b + 1)) (by kernel_rfl) (sayAs (by omega) (by omega)) ?_
                refine At.a 1 ?_
                refine At.done rfl ?_
                refine AW.seq ?_
                refine AW.seq ?_
                refine AW.regionD Tryz_mix (At.start ?_)
                refine At.a 2 ?_
                refine At.c (spec_l10End_spec  (⟨r.id, r.of_, 1, r.commit, ⟨m.term, 0, lg⟩, [], [], []⟩ : Raft) ) Tryz.call65 false [] [] [(1320, 6, (lg.map encEnt)), (2500, 1, []), (2501, 1, []), (2502, 1, [])] ⟨rfl, ⟨45, (lg.map encEnt), by kernel_rfl, FrzIs.same (allP_encEnt _)⟩, rfl, ⟨3, [], by kernel_rfl, FrzIs.same (fun _ h => by cases h)⟩, rfl, ⟨3, [], by kernel_rfl, FrzIs.same (fun _ h => by cases h)⟩, rfl, ⟨3, [], by kernel_rfl, FrzIs.same (fun _ h => by cases h)⟩, trivial⟩ ?_
                refine At.a 2 ?_
                by_cases h9 : (b + 1) ≤ (lg.length : Int)
                · refine At.sB 133 (decide ((b + 1) ≤ (lg.length : Int))) true (sayT h9) ?_
                  refine At.a 3 ?_
                  refine At.c (spec_l10Term_spec  (⟨m.term, 0, lg⟩ : Hard) (b + 1) (by dsimp only; omega)) Tryz.call115 false [] [] [(1320, 6, (lg.map encEnt))] ⟨rfl, ⟨45, (lg.map encEnt), by kernel_rfl, FrzIs.same (allP_encEnt _)⟩, trivial⟩ ?_
                  refine At.a 3 ?_
                  refine At.iSl 24 141 (.tmp 139) (.tmp 140) false 6 (m.entries.map encEnt) .i64 (k : Int) 45 (by omega) (by simp only [List.length_map, List.length_append, List.length_take, List.length_drop, List.length_replicate, List.length_set, List.length_cons, List.length_nil]; omega) ?_
                  refine At.a 1 ?_
                  refine Exists.elim (show ∃ e, m.entries[k]? = some e from ⟨_, List.getElem?_eq_getElem (by omega)⟩) fun e1 he1 => ?_
                  refine At.lVp 3 143 (.tmp 142) false 6 (m.entries.map encEnt) k 0 false 1 (encEnt e1) (.int .i64 e1.term) (mapGet he1) ?_
                  refine At.a 2 ?_
                  refine At.done rfl ⟨by kernel_rfl, ?_⟩
                  refine AW.cE (termAt lg (b + 1)) e1.term (fun h10 => ?_) (fun h10 => ?_)
                  · skip
                    refine AW.r ?_
                    refine At.a 2 ?_
                    refine At.done rfl ?_
                    refine AW.exit ?_
                    refine AW.region (At.start ?_)
                    refine At.a 2 ?_
                    refine At.sI 123 ((k : Int) + 1) (by omega) ?_
                    refine At.a 1 ?_
                    refine At.done rfl ?_
                    exact ⟨(k + 1, (b + 1), lg, rc), ⟨by omega, ⟨by omega, by omega, by omega, by omega⟩, by rw [hR, dropCons (by assumption), takeE_same (by omega) (by assumption)]⟩, (by simp only; omega), Sub.o [(103, 103), (104, 104), (107, 107), (110, 110), (118, 118), (167, 167), (1320, 1320), (2500, 2500), (2501, 2501), (2502, 2502), (5001, 5001), (5002, 5002), (5003, 5003), (5004, 5004), (5005, 5005)] [false, false, false, true, true, false, false, true, true, true, true, false, true, true]⟩
                  · skip
                    refine AW.skip ?_
                    refine AW.seq ?_
                    refine AW.r ?_
                    refine At.a 2 ?_
                    refine At.c (spec_l10End_spec  (⟨r.id, r.of_, 1, r.commit, ⟨m.term, 0, lg⟩, [], [], []⟩ : Raft) ) Tryz.call65 false [] [] [(1320, 6, (lg.map encEnt)), (2500, 1, []), (2501, 1, []), (2502, 1, [])] ⟨rfl, ⟨45, (lg.map encEnt), by kernel_rfl, FrzIs.same (allP_encEnt _)⟩, rfl, ⟨3, [], by kernel_rfl, FrzIs.same (fun _ h => by cases h)⟩, rfl, ⟨3, [], by kernel_rfl, FrzIs.same (fun _ h => by cases h)⟩, rfl, ⟨3, [], by kernel_rfl, FrzIs.same (fun _ h => by cases h)⟩, trivial⟩ ?_
                    refine At.a 1 ?_
                    refine At.done rfl ?_
                    refine AW.condT (decide ((b + 1) ≤ (lg.length : Int))) (by kernel_rfl) (decide_eq_true h9) ?_
                    refine AW.r ?_
                    refine At.lit0 (t := 24) (d := 151) (e := 45) (es := 6) (bytes := 56) 251 (by kernel_rfl) (by kernel_rfl) (by kernel_rfl) (by kernel_rfl) ?_
                    refine At.a 5 ?_
                    refine At.sJ 156 ((b + 1) - 1) b (by omega) (by omega) ?_
                    refine At.sliceRef (t := 24) (d := 157) (e := 45) (es := 6) (i := 1320) (x := .tmp 154) (lx := none) (hx := some (.tmp 156)) (xs := (lg.map encEnt)) (vl := .un) (vh := .int .i64 b) 0 ((b).toNat) (by kernel_rfl) (by kernel_rfl) (by kernel_rfl) (by kernel_rfl) (by kernel_rfl) (.inl ⟨rfl, rfl⟩) (.inr ⟨_, _, rfl, sayNat (by omega)⟩) (by omega) (by simp only [List.length_map, List.length_append, List.length_take, List.length_drop, List.length_replicate, List.length_set, List.length_cons, List.length_nil]; omega) ?_
                    refine At.append (t := 24) (d := 158) (e := 45) (es := 6) (bytes := 56) (s := .tmp 151) (x := .tmp 157) (S := .ref 251) (T := .sub 1320 0 (((b).toNat) - 0)) (xs := []) (ys := (((lg.drop 0).take (((b).toNat) - 0)).map encEnt)) 258 [251] [] ((lg.take b.toNat).map encEnt) (by kernel_rfl) (by kernel_rfl) (by kernel_rfl) (by kernel_rfl) ⟨by kernel_rfl, rfl⟩ ⟨(lg.map encEnt), by kernel_rfl, by rw [List.length_map]; omega, (by simp [List.map_take, List.map_drop]), (allP_encEnt _), rfl⟩ (by kernel_rfl) (by kernel_rfl) (by simp [List.map_take]) (by simp only [List.length_map, List.length_append, List.length_take, List.length_drop, List.length_replicate, List.length_set, List.length_cons, List.length_nil]; omega) (by simp only [List.length_map, List.length_append, List.length_take, List.length_drop, List.length_replicate, List.length_set, List.length_cons, List.length_nil]; omega) ?_
                    refine At.a 3 ?_
                    refine At.done rfl ?_
                    refine AW.region (At.start ?_)
                    refine At.a 3 ?_
                    refine At.sJ 163 ((b + 1) - 1) b (by omega) (by omega) ?_
                    refine At.a 1 ?_
                    refine At.litK (t := 37) (d := 165) (e := 47) (es := 10) (bytes := 88) (n := 1) (parts := #[(0, .tmp 164)]) (45, 6) 265 [] [.int .i64 3, .int .i64 0, .int .i64 0, .int .i64 b, .int .i64 0, .int .i64 0, .int .i64 0, .int .i64 0, .int .i64 0, .str (⟨#[]⟩ : ByteArray)] [.int .i64 3, .int .i64 0, .int .i64 0, .int .i64 b, .int .i64 0, .int .i64 0, .int .i64 0, .int .i64 0, .int .i64 0, .str (⟨#[]⟩ : ByteArray)] [.int .i64 0, .int .i64 0, .int .i64 0, .int .i64 0, .int .i64 0, .int .i64 0, .int .i64 0, .int .i64 0, .int .i64 0, .str (⟨#[]⟩ : ByteArray)] [.agg [.int .i64 3, .int .i64 0, .int .i64 0, .int .i64 b, .int .i64 0, .int .i64 0, .int .i64 0, .int .i64 0, .int .i64 0, .str (⟨#[]⟩ : ByteArray)]] [] (by kernel_rfl) (by kernel_rfl) (by kernel_rfl) (by kernel_rfl) rfl (fun p hp => by cases hp) (by kernel_rfl) ?_
                    refine At.append (t := 37) (d := 166) (e := 47) (es := 10) (bytes := 88) (s := .tmp 161) (x := .tmp 165) (S := .ref 167) (T := .ref 265) (xs := (rc.map encRec)) (ys := (([(⟨3, 0, 0, b, ⟨0, ⟨0, 0, 0, 0, (⟨#[]⟩ : ByteArray)⟩⟩⟩ : Rec)]).map encRec)) 266 [167] [265] ((rc ++ ([(⟨3, 0, 0, b, ⟨0, ⟨0, 0, 0, 0, (⟨#[]⟩ : ByteArray)⟩⟩⟩ : Rec)])).map encRec) (by kernel_rfl) (by kernel_rfl) (by kernel_rfl) (by kernel_rfl) ⟨by kernel_rfl, rfl⟩ ⟨by kernel_rfl, .inr rfl⟩ (by kernel_rfl) (by kernel_rfl) (by simp) (by simp only [List.length_map, List.length_append, List.length_take, List.length_drop, List.length_replicate, List.length_set, List.length_cons, List.length_nil]; omega) (by simp only [List.length_map, List.length_append, List.length_take, List.length_drop, List.length_replicate, List.length_set, List.length_cons, List.length_nil]; omega) ?_
                    refine At.a 1 ?_
                    refine At.done rfl ?_
                    refine AW.seq ?_
                    refine AW.r ?_
                    refine At.a 2 ?_
                    refine At.done rfl ?_
                    refine AW.cD ((b + 1) > 80) (fun h11 => ?_) (fun h11 => ?_)
                    · skip
                      refine AW.exit ?_
                      refine AW.seq ?_
                      refine AW.regionD Tryz_mix (At.start ?_)
                      refine At.a 5 ?_
                      refine At.c (spec_l1Min_spec  m.commit b ) Tryz.call111 true [] [] [] trivial ?_
                      refine At.c (spec_l1Max_spec  r.commit (min m.commit b) ) Tryz.call59 true [] [] [] trivial ?_
                      refine At.a 2 ?_
                      refine At.done rfl ⟨by kernel_rfl, ?_⟩
                      refine AW.r ?_
                      refine At.a 2 ?_
                      refine At.done rfl ?_
                      refine AW.r ?_
                      refine At.a 3 ?_
                      refine At.done rfl ?_
                      refine AW.seq ?_
                      refine AW.regionD Tryz_mix (At.start ?_)
                      refine At.a 7 ?_
                      refine At.litK (t := 38) (d := 199) (e := 51) (es := 17) (bytes := 168) (n := 1) (parts := #[(0, .tmp 198)]) (45, 6) 299 [5005] [.int .i64 m.from_, .int .i64 4, .int .i64 r.id, .int .i64 m.term, .int .i64 b, .int .i64 0, .int .i64 0, .bool true, .int .i64 0, .int .i64 0, .str (⟨#[]⟩ : ByteArray), .int .i64 0, .int .i64 0, .int .i64 0, .int .i64 0, .str (⟨#[]⟩ : ByteArray), .ref 5005] [.int .i64 m.from_, .int .i64 4, .int .i64 r.id, .int .i64 m.term, .int .i64 b, .int .i64 0, .int .i64 0, .bool true, .int .i64 0, .int .i64 0, .str (⟨#[]⟩ : ByteArray), .int .i64 0, .int .i64 0, .int .i64 0, .int .i64 0, .str (⟨#[]⟩ : ByteArray), .own 45 6 []] [.int .i64 0, .int .i64 0, .int .i64 0, .int .i64 0, .int .i64 0, .int .i64 0, .int .i64 0, .bool false, .int .i64 0, .int .i64 0, .str (⟨#[]⟩ : ByteArray), .int .i64 0, .int .i64 0, .int .i64 0, .int .i64 0, .str (⟨#[]⟩ : ByteArray), .nil] [.agg [.int .i64 m.from_, .int .i64 4, .int .i64 r.id, .int .i64 m.term, .int .i64 b, .int .i64 0, .int .i64 0, .bool true, .int .i64 0, .int .i64 0, .str (⟨#[]⟩ : ByteArray), .int .i64 0, .int .i64 0, .int .i64 0, .int .i64 0, .str (⟨#[]⟩ : ByteArray), .own 45 6 []]] [(45, 6, [])] (by kernel_rfl) (by kernel_rfl) (by kernel_rfl) (by kernel_rfl) (by kernel_rfl) (by intro p hp; simp only [List.mem_cons, List.not_mem_nil, or_false] at hp; subst hp; all_goals first | exact flatEnts | (intro x hx; cases hx)) (by kernel_rfl) ?_
                      refine At.append (t := 38) (d := 200) (e := 51) (es := 17) (bytes := 168) (s := .tmp 194) (x := .tmp 199) (S := .ref 118) (T := .ref 299) (xs := []) (ys := (([(⟨m.from_, ⟨4, r.id, m.term, b, 0, 0, true, 0, 0, (⟨#[]⟩ : ByteArray), ⟨0, 0, 0, 0, (⟨#[]⟩ : ByteArray)⟩, []⟩⟩ : Out)]).map encOut)) 300 [118] [299] (([(⟨m.from_, ⟨4, r.id, m.term, b, 0, 0, true, 0, 0, (⟨#[]⟩ : ByteArray), ⟨0, 0, 0, 0, (⟨#[]⟩ : ByteArray)⟩, []⟩⟩ : Out)]).map encOut) (by kernel_rfl) (by kernel_rfl) (by kernel_rfl) (by kernel_rfl) ⟨by kernel_rfl, rfl⟩ ⟨by kernel_rfl, .inr rfl⟩ (by kernel_rfl) (by kernel_rfl) (by simp) (by omega) (by omega) ?_
                      refine At.a 3 ?_
                      refine At.done rfl ⟨by kernel_rfl, ?_⟩
                      refine AW.ret ?_
                      refine ⟨_, Sub.refl _ _, ?_⟩
                      refine KF.conv (fun w => .tup [.agg [.int .i64 w.id, .int .i64 w.of_, .int .i64 w.role, .int .i64 w.commit, .int .i64 w.hard.term, .int .i64 w.hard.vote, .ref 0, .ref 1, .ref 2, .ref 3], .ref 4, .ref 5]) (fun w => [.arr 45 6 (w.hard.log.map encEnt), .arr 3 1 (w.yes.map encI), .arr 3 1 (w.next.map encI), .arr 3 1 (w.match_.map encI), .arr 47 10 (((sends r m).2.1).map encRec), .arr 51 17 (((sends r m).2.2).map encOut)]) (show ((⟨r.id, r.of_, 1, max r.commit (min m.commit b), ⟨m.term, 0, lg.take b.toNat⟩, [], [], []⟩ : Raft)) = ((sends r m).1) from by exfalso; omega) ?_
                      refine KF.conv (fun w => .tup [.agg [.int .i64 r.id, .int .i64 r.of_, .int .i64 1, .int .i64 (max r.commit (min m.commit b)), .int .i64 m.term, .int .i64 0, .ref 0, .ref 1, .ref 2, .ref 3], .ref 4, .ref 5]) (fun w => [.arr 45 6 ((lg.take b.toNat).map encEnt), .arr 3 1 [], .arr 3 1 [], .arr 3 1 [], .arr 47 10 (w.map encRec), .arr 51 17 (((sends r m).2.2).map encOut)]) (show (rc ++ ([(⟨3, 0, 0, b, ⟨0, ⟨0, 0, 0, 0, (⟨#[]⟩ : ByteArray)⟩⟩⟩ : Rec)])) = ((sends r m).2.1) from by exfalso; omega) ?_
                      refine KF.conv (fun w => .tup [.agg [.int .i64 r.id, .int .i64 r.of_, .int .i64 1, .int .i64 (max r.commit (min m.commit b)), .int .i64 m.term, .int .i64 0, .ref 0, .ref 1, .ref 2, .ref 3], .ref 4, .ref 5]) (fun w => [.arr 45 6 ((lg.take b.toNat).map encEnt), .arr 3 1 [], .arr 3 1 [], .arr 3 1 [], .arr 47 10 ((rc ++ ([(⟨3, 0, 0, b, ⟨0, ⟨0, 0, 0, 0, (⟨#[]⟩ : ByteArray)⟩⟩⟩ : Rec)])).map encRec), .arr 51 17 (w.map encOut)]) (show ([(⟨m.from_, ⟨4, r.id, m.term, b, 0, 0, true, 0, 0, (⟨#[]⟩ : ByteArray), ⟨0, 0, 0, 0, (⟨#[]⟩ : ByteArray)⟩, []⟩⟩ : Out)]) = ((sends r m).2.2) from by exfalso; omega) ?_
                      exact KF.m [(258, 0), (2500, 1), (2501, 2), (2502, 3), (266, 4), (300, 5)] [.agg [.int .i64 r.id, .int .i64 r.of_, .int .i64 1, .int .i64 (max r.commit (min m.commit b)), .int .i64 m.term, .int .i64 0, .ref 258, .ref 2500, .ref 2501, .ref 2502], .ref 266, .ref 300]
                    · skip
                      refine AW.skip ?_
                      refine AW.seq ?_
                      refine AW.regionD Tryz_mix (At.start ?_)
                      refine At.a 4 ?_
                      refine At.iSl 24 174 (.tmp 172) (.tmp 173) false 6 (m.entries.map encEnt) .i64 (k : Int) 45 (by omega) (by simp only [List.length_map, List.length_append, List.length_take, List.length_drop, List.length_replicate, List.length_set, List.length_cons, List.length_nil]; omega) ?_
                      refine At.lVp 45 175 (.tmp 174) false 6 (m.entries.map encEnt) k 0 true 6 (encEnt e1) (.agg [.int .i64 e1.term, .int .i64 e1.cmd.kind, .int .i64 e1.cmd.release, .int .i64 e1.cmd.node, .int .i64 e1.cmd.size, .str e1.cmd.digest]) (mapGet he1) ?_
                      refine At.a 1 ?_
                      refine At.c (spec_l10Put_spec  (⟨r.id, r.of_, 1, r.commit, ⟨m.term, 0, lg.take b.toNat⟩, [], [], []⟩ : Raft) e1 (rc ++ ([(⟨3, 0, 0, b, ⟨0, ⟨0, 0, 0, 0, (⟨#[]⟩ : ByteArray)⟩⟩⟩ : Rec)])) (by dsimp only; rw [List.length_take]; omega) (by simp only [List.length_append, List.length_cons, List.length_nil]; omega)) Tryz.call105 true [(258, 0), (2500, 1), (2501, 2), (2502, 3), (266, 4)] [(4540, 5), (4541, 6)] [] trivial ?_
                      refine At.a 5 ?_
                      refine At.done rfl ⟨by kernel_rfl, ?_⟩
                      refine AW.region (At.start ?_)
                      refine At.a 2 ?_
                      refine At.done rfl ?_
                      refine AW.region (At.start ?_)
                      refine At.a 2 ?_
                      refine At.sI 123 ((k : Int) + 1) (by omega) ?_
                      refine At.a 1 ?_
                      refine At.done rfl ?_
                      exact ⟨(k + 1, (b + 1), ((lg.take b.toNat) ++ [e1]), ((rc ++ ([(⟨3, 0, 0, b, ⟨0, ⟨0, 0, 0, 0, (⟨#[]⟩ : ByteArray)⟩⟩⟩ : Rec)])) ++ [(⟨2, 0, 0, (((lg.take b.toNat) ++ [e1]).length : Int), e1⟩ : Rec)])), ⟨by omega, ⟨by omega, by simp only [List.length_append, List.length_take, List.length_cons, List.length_nil]; omega, by simp only [List.length_append, List.length_take, List.length_cons, List.length_nil]; omega, by simp only [List.length_append, List.length_cons, List.length_nil]; omega⟩, by rw [hR, dropCons (by assumption)]; exact takeE_cut2 (by omega) (by assumption) (by simp only [List.length_append, List.length_take, List.length_cons, List.length_nil]; omega)⟩, (by simp only; omega), Sub.o [(103, 103), (104, 104), (107, 107), (110, 110), (118, 118), (4541, 167), (4540, 1320), (2500, 2500), (2501, 2501), (2502, 2502), (5001, 5001), (5002, 5002), (5003, 5003), (5004, 5004), (5005, 5005)] [false, false, false, true, true, false, false, true, true, true, true, false, true, true]⟩
                · refine At.sB 133 (decide ((b + 1) ≤ (lg.length : Int))) false (sayF h9) ?_
                  refine At.a 12 ?_
                  refine At.done rfl ⟨by kernel_rfl, ?_⟩
                  refine AW.cond false (by kernel_rfl) (fun h => by cases h) (fun _ => ?_)
                  refine AW.skip ?_
                  refine AW.seq ?_
                  refine AW.r ?_
                  refine At.a 2 ?_
                  refine At.c (spec_l10End_spec  (⟨r.id, r.of_, 1, r.commit, ⟨m.term, 0, lg⟩, [], [], []⟩ : Raft) ) Tryz.call65 false [] [] [(1320, 6, (lg.map encEnt)), (2500, 1, []), (2501, 1, []), (2502, 1, [])] ⟨rfl, ⟨45, (lg.map encEnt), by kernel_rfl, FrzIs.same (allP_encEnt _)⟩, rfl, ⟨3, [], by kernel_rfl, FrzIs.same (fun _ h => by cases h)⟩, rfl, ⟨3, [], by kernel_rfl, FrzIs.same (fun _ h => by cases h)⟩, rfl, ⟨3, [], by kernel_rfl, FrzIs.same (fun _ h => by cases h)⟩, trivial⟩ ?_
                  refine At.a 1 ?_
                  refine At.done rfl ?_
                  refine AW.condF (decide ((b + 1) ≤ (lg.length : Int))) (by kernel_rfl) (decide_eq_false h9) ?_
                  refine AW.skip ?_
                  refine AW.seq ?_
                  refine AW.r ?_
                  refine At.a 2 ?_
                  refine At.done rfl ?_
                  refine AW.cD ((b + 1) > 80) (fun h12 => ?_) (fun h12 => ?_)
                  · skip
                    refine AW.exit ?_
                    refine AW.seq ?_
                    refine AW.regionD Tryz_mix (At.start ?_)
                    refine At.a 5 ?_
                    refine At.c (spec_l1Min_spec  m.commit b ) Tryz.call111 true [] [] [] trivial ?_
                    refine At.c (spec_l1Max_spec  r.commit (min m.commit b) ) Tryz.call59 true [] [] [] trivial ?_
                    refine At.a 2 ?_
                    refine At.done rfl ⟨by kernel_rfl, ?_⟩
                    refine AW.r ?_
                    refine At.a 2 ?_
                    refine At.done rfl ?_
                    refine AW.r ?_
                    refine At.a 3 ?_
                    refine At.done rfl ?_
                    refine AW.seq ?_
                    refine AW.regionD Tryz_mix (At.start ?_)
                    refine At.a 7 ?_
                    refine At.litK (t := 38) (d := 199) (e := 51) (es := 17) (bytes := 168) (n := 1) (parts := #[(0, .tmp 198)]) (45, 6) 299 [5005] [.int .i64 m.from_, .int .i64 4, .int .i64 r.id, .int .i64 m.term, .int .i64 b, .int .i64 0, .int .i64 0, .bool true, .int .i64 0, .int .i64 0, .str (⟨#[]⟩ : ByteArray), .int .i64 0, .int .i64 0, .int .i64 0, .int .i64 0, .str (⟨#[]⟩ : ByteArray), .ref 5005] [.int .i64 m.from_, .int .i64 4, .int .i64 r.id, .int .i64 m.term, .int .i64 b, .int .i64 0, .int .i64 0, .bool true, .int .i64 0, .int .i64 0, .str (⟨#[]⟩ : ByteArray), .int .i64 0, .int .i64 0, .int .i64 0, .int .i64 0, .str (⟨#[]⟩ : ByteArray), .own 45 6 []] [.int .i64 0, .int .i64 0, .int .i64 0, .int .i64 0, .int .i64 0, .int .i64 0, .int .i64 0, .bool false, .int .i64 0, .int .i64 0, .str (⟨#[]⟩ : ByteArray), .int .i64 0, .int .i64 0, .int .i64 0, .int .i64 0, .str (⟨#[]⟩ : ByteArray), .nil] [.agg [.int .i64 m.from_, .int .i64 4, .int .i64 r.id, .int .i64 m.term, .int .i64 b, .int .i64 0, .int .i64 0, .bool true, .int .i64 0, .int .i64 0, .str (⟨#[]⟩ : ByteArray), .int .i64 0, .int .i64 0, .int .i64 0, .int .i64 0, .str (⟨#[]⟩ : ByteArray), .own 45 6 []]] [(45, 6, [])] (by kernel_rfl) (by kernel_rfl) (by kernel_rfl) (by kernel_rfl) (by kernel_rfl) (by intro p hp; simp only [List.mem_cons, List.not_mem_nil, or_false] at hp; subst hp; all_goals first | exact flatEnts | (intro x hx; cases hx)) (by kernel_rfl) ?_
                    refine At.append (t := 38) (d := 200) (e := 51) (es := 17) (bytes := 168) (s := .tmp 194) (x := .tmp 199) (S := .ref 118) (T := .ref 299) (xs := []) (ys := (([(⟨m.from_, ⟨4, r.id, m.term, b, 0, 0, true, 0, 0, (⟨#[]⟩ : ByteArray), ⟨0, 0, 0, 0, (⟨#[]⟩ : ByteArray)⟩, []⟩⟩ : Out)]).map encOut)) 300 [118] [299] (([(⟨m.from_, ⟨4, r.id, m.term, b, 0, 0, true, 0, 0, (⟨#[]⟩ : ByteArray), ⟨0, 0, 0, 0, (⟨#[]⟩ : ByteArray)⟩, []⟩⟩ : Out)]).map encOut) (by kernel_rfl) (by kernel_rfl) (by kernel_rfl) (by kernel_rfl) ⟨by kernel_rfl, rfl⟩ ⟨by kernel_rfl, .inr rfl⟩ (by kernel_rfl) (by kernel_rfl) (by simp) (by simp only [List.length_map, List.length_append, List.length_take, List.length_drop, List.length_replicate, List.length_set, List.length_cons, List.length_nil]; omega) (by simp only [List.length_map, List.length_append, List.length_take, List.length_drop, List.length_replicate, List.length_set, List.length_cons, List.length_nil]; omega) ?_
                    refine At.a 3 ?_
                    refine At.done rfl ⟨by kernel_rfl, ?_⟩
                    refine AW.ret ?_
                    refine ⟨_, Sub.refl _ _, ?_⟩
                    refine KF.conv (fun w => .tup [.agg [.int .i64 w.id, .int .i64 w.of_, .int .i64 w.role, .int .i64 w.commit, .int .i64 w.hard.term, .int .i64 w.hard.vote, .ref 0, .ref 1, .ref 2, .ref 3], .ref 4, .ref 5]) (fun w => [.arr 45 6 (w.hard.log.map encEnt), .arr 3 1 (w.yes.map encI), .arr 3 1 (w.next.map encI), .arr 3 1 (w.match_.map encI), .arr 47 10 (((sends r m).2.1).map encRec), .arr 51 17 (((sends r m).2.2).map encOut)]) (show ((⟨r.id, r.of_, 1, max r.commit (min m.commit b), ⟨m.term, 0, lg⟩, [], [], []⟩ : Raft)) = ((sends r m).1) from by rw [sends_spec1 (lg := lg) (rc := rc) (b := b) (sendB_of2 h1 h2) (by omega) (by assumption) (hR.trans (by first | (rw [List.drop_of_length_le (by omega)]; rfl) | (rw [dropCons (List.getElem?_eq_getElem (l := m.entries) (i := k) (by omega)), takeE_full (by omega) (by omega)]))) rfl]; first | done | rfl | (rw [endRecs_ne (by dsimp only; omega)]; rfl) | (rw [endRecs_eq rfl rfl]; done) | (rw [endRecs_eq rfl rfl]; rfl) | (rw [show r.hard.term = m.term from by omega]; rfl)) ?_
                    refine KF.conv (fun w => .tup [.agg [.int .i64 r.id, .int .i64 r.of_, .int .i64 1, .int .i64 (max r.commit (min m.commit b)), .int .i64 m.term, .int .i64 0, .ref 0, .ref 1, .ref 2, .ref 3], .ref 4, .ref 5]) (fun w => [.arr 45 6 (lg.map encEnt), .arr 3 1 [], .arr 3 1 [], .arr 3 1 [], .arr 47 10 (w.map encRec), .arr 51 17 (((sends r m).2.2).map encOut)]) (show (rc) = ((sends r m).2.1) from by rw [sends_spec1 (lg := lg) (rc := rc) (b := b) (sendB_of2 h1 h2) (by omega) (by assumption) (hR.trans (by first | (rw [List.drop_of_length_le (by omega)]; rfl) | (rw [dropCons (List.getElem?_eq_getElem (l := m.entries) (i := k) (by omega)), takeE_full (by omega) (by omega)]))) rfl]; first | done | rfl | (rw [endRecs_ne (by dsimp only; omega)]; rfl) | (rw [endRecs_eq rfl rfl]; done) | (rw [endRecs_eq rfl rfl]; rfl) | (rw [show r.hard.term = m.term from by omega]; rfl)) ?_
                    refine KF.conv (fun w => .tup [.agg [.int .i64 r.id, .int .i64 r.of_, .int .i64 1, .int .i64 (max r.commit (min m.commit b)), .int .i64 m.term, .int .i64 0, .ref 0, .ref 1, .ref 2, .ref 3], .ref 4, .ref 5]) (fun w => [.arr 45 6 (lg.map encEnt), .arr 3 1 [], .arr 3 1 [], .arr 3 1 [], .arr 47 10 (rc.map encRec), .arr 51 17 (w.map encOut)]) (show ([(⟨m.from_, ⟨4, r.id, m.term, b, 0, 0, true, 0, 0, (⟨#[]⟩ : ByteArray), ⟨0, 0, 0, 0, (⟨#[]⟩ : ByteArray)⟩, []⟩⟩ : Out)]) = ((sends r m).2.2) from by rw [sends_spec1 (lg := lg) (rc := rc) (b := b) (sendB_of2 h1 h2) (by omega) (by assumption) (hR.trans (by first | (rw [List.drop_of_length_le (by omega)]; rfl) | (rw [dropCons (List.getElem?_eq_getElem (l := m.entries) (i := k) (by omega)), takeE_full (by omega) (by omega)]))) rfl]; first | done | rfl | (rw [endRecs_ne (by dsimp only; omega)]; rfl) | (rw [endRecs_eq rfl rfl]; done) | (rw [endRecs_eq rfl rfl]; rfl) | (rw [show r.hard.term = m.term from by omega]; rfl)) ?_
                    exact KF.m [(1320, 0), (2500, 1), (2501, 2), (2502, 3), (167, 4), (300, 5)] [.agg [.int .i64 r.id, .int .i64 r.of_, .int .i64 1, .int .i64 (max r.commit (min m.commit b)), .int .i64 m.term, .int .i64 0, .ref 1320, .ref 2500, .ref 2501, .ref 2502], .ref 167, .ref 300]
                  · skip
                    refine AW.skip ?_
                    refine AW.seq ?_
                    refine AW.regionD Tryz_mix (At.start ?_)
                    refine At.a 4 ?_
                    refine At.iSl 24 174 (.tmp 172) (.tmp 173) false 6 (m.entries.map encEnt) .i64 (k : Int) 45 (by omega) (by simp only [List.length_map, List.length_append, List.length_take, List.length_drop, List.length_replicate, List.length_set, List.length_cons, List.length_nil]; omega) ?_
                    refine Exists.elim (show ∃ e, m.entries[k]? = some e from ⟨_, List.getElem?_eq_getElem (by omega)⟩) fun e2 he2 => ?_
                    refine At.lVp 45 175 (.tmp 174) false 6 (m.entries.map encEnt) k 0 true 6 (encEnt e2) (.agg [.int .i64 e2.term, .int .i64 e2.cmd.kind, .int .i64 e2.cmd.release, .int .i64 e2.cmd.node, .int .i64 e2.cmd.size, .str e2.cmd.digest]) (mapGet he2) ?_
                    refine At.a 1 ?_
                    refine At.c (spec_l10Put_spec  (⟨r.id, r.of_, 1, r.commit, ⟨m.term, 0, lg⟩, [], [], []⟩ : Raft) e2 rc (by dsimp only; omega) (by omega)) Tryz.call105 true [(1320, 0), (2500, 1), (2501, 2), (2502, 3), (167, 4)] [(4540, 5), (4541, 6)] [] trivial ?_
                    refine At.a 5 ?_
                    refine At.done rfl ⟨by kernel_rfl, ?_⟩
                    refine AW.region (At.start ?_)
                    refine At.a 2 ?_
                    refine At.done rfl ?_
                    refine AW.region (At.start ?_)
                    refine At.a 2 ?_
                    refine At.sI 123 ((k : Int) + 1) (by omega) ?_
                    refine At.a 1 ?_
                    refine At.done rfl ?_
                    exact ⟨(k + 1, (b + 1), (lg ++ [e2]), (rc ++ [(⟨2, 0, 0, ((lg ++ [e2]).length : Int), e2⟩ : Rec)])), ⟨by omega, ⟨by omega, by simp only [List.length_append, List.length_take, List.length_cons, List.length_nil]; omega, by simp only [List.length_append, List.length_take, List.length_cons, List.length_nil]; omega, by simp only [List.length_append, List.length_cons, List.length_nil]; omega⟩, by rw [hR, dropCons (by assumption)]; exact takeE_put2 (by omega) (by omega) (by simp only [List.length_append, List.length_take, List.length_cons, List.length_nil]; omega)⟩, (by simp only; omega), Sub.o [(103, 103), (104, 104), (107, 107), (110, 110), (118, 118), (4541, 167), (4540, 1320), (2500, 2500), (2501, 2501), (2502, 2502), (5001, 5001), (5002, 5002), (5003, 5003), (5004, 5004), (5005, 5005)] [false, false, false, true, true, false, false, true, true, true, true, false, true, true]⟩
              · skip
                refine AW.exit ?_
                refine AW.seq ?_
                refine AW.regionD Tryz_mix (At.start ?_)
                refine At.a 5 ?_
                refine At.c (spec_l1Min_spec  m.commit b ) Tryz.call111 true [] [] [] trivial ?_
                refine At.c (spec_l1Max_spec  r.commit (min m.commit b) ) Tryz.call59 true [] [] [] trivial ?_
                refine At.a 2 ?_
                refine At.done rfl ⟨by kernel_rfl, ?_⟩
                refine AW.r ?_
                refine At.a 2 ?_
                refine At.done rfl ?_
                refine AW.r ?_
                refine At.a 3 ?_
                refine At.done rfl ?_
                refine AW.seq ?_
                refine AW.regionD Tryz_mix (At.start ?_)
                refine At.a 7 ?_
                refine At.litK (t := 38) (d := 199) (e := 51) (es := 17) (bytes := 168) (n := 1) (parts := #[(0, .tmp 198)]) (45, 6) 299 [5005] [.int .i64 m.from_, .int .i64 4, .int .i64 r.id, .int .i64 m.term, .int .i64 b, .int .i64 0, .int .i64 0, .bool true, .int .i64 0, .int .i64 0, .str (⟨#[]⟩ : ByteArray), .int .i64 0, .int .i64 0, .int .i64 0, .int .i64 0, .str (⟨#[]⟩ : ByteArray), .ref 5005] [.int .i64 m.from_, .int .i64 4, .int .i64 r.id, .int .i64 m.term, .int .i64 b, .int .i64 0, .int .i64 0, .bool true, .int .i64 0, .int .i64 0, .str (⟨#[]⟩ : ByteArray), .int .i64 0, .int .i64 0, .int .i64 0, .int .i64 0, .str (⟨#[]⟩ : ByteArray), .own 45 6 []] [.int .i64 0, .int .i64 0, .int .i64 0, .int .i64 0, .int .i64 0, .int .i64 0, .int .i64 0, .bool false, .int .i64 0, .int .i64 0, .str (⟨#[]⟩ : ByteArray), .int .i64 0, .int .i64 0, .int .i64 0, .int .i64 0, .str (⟨#[]⟩ : ByteArray), .nil] [.agg [.int .i64 m.from_, .int .i64 4, .int .i64 r.id, .int .i64 m.term, .int .i64 b, .int .i64 0, .int .i64 0, .bool true, .int .i64 0, .int .i64 0, .str (⟨#[]⟩ : ByteArray), .int .i64 0, .int .i64 0, .int .i64 0, .int .i64 0, .str (⟨#[]⟩ : ByteArray), .own 45 6 []]] [(45, 6, [])] (by kernel_rfl) (by kernel_rfl) (by kernel_rfl) (by kernel_rfl) (by kernel_rfl) (by intro p hp; simp only [List.mem_cons, List.not_mem_nil, or_false] at hp; subst hp; all_goals first | exact flatEnts | (intro x hx; cases hx)) (by kernel_rfl) ?_
                refine At.append (t := 38) (d := 200) (e := 51) (es := 17) (bytes := 168) (s := .tmp 194) (x := .tmp 199) (S := .ref 118) (T := .ref 299) (xs := []) (ys := (([(⟨m.from_, ⟨4, r.id, m.term, b, 0, 0, true, 0, 0, (⟨#[]⟩ : ByteArray), ⟨0, 0, 0, 0, (⟨#[]⟩ : ByteArray)⟩, []⟩⟩ : Out)]).map encOut)) 300 [118] [299] (([(⟨m.from_, ⟨4, r.id, m.term, b, 0, 0, true, 0, 0, (⟨#[]⟩ : ByteArray), ⟨0, 0, 0, 0, (⟨#[]⟩ : ByteArray)⟩, []⟩⟩ : Out)]).map encOut) (by kernel_rfl) (by kernel_rfl) (by kernel_rfl) (by kernel_rfl) ⟨by kernel_rfl, rfl⟩ ⟨by kernel_rfl, .inr rfl⟩ (by kernel_rfl) (by kernel_rfl) (by simp) (by simp only [List.length_map, List.length_append, List.length_take, List.length_drop, List.length_replicate, List.length_set, List.length_cons, List.length_nil]; omega) (by simp only [List.length_map, List.length_append, List.length_take, List.length_drop, List.length_replicate, List.length_set, List.length_cons, List.length_nil]; omega) ?_
                refine At.a 3 ?_
                refine At.done rfl ⟨by kernel_rfl, ?_⟩
                refine AW.ret ?_
                refine ⟨_, Sub.refl _ _, ?_⟩
                refine KF.conv (fun w => .tup [.agg [.int .i64 w.id, .int .i64 w.of_, .int .i64 w.role, .int .i64 w.commit, .int .i64 w.hard.term, .int .i64 w.hard.vote, .ref 0, .ref 1, .ref 2, .ref 3], .ref 4, .ref 5]) (fun w => [.arr 45 6 (w.hard.log.map encEnt), .arr 3 1 (w.yes.map encI), .arr 3 1 (w.next.map encI), .arr 3 1 (w.match_.map encI), .arr 47 10 (((sends r m).2.1).map encRec), .arr 51 17 (((sends r m).2.2).map encOut)]) (show ((⟨r.id, r.of_, 1, max r.commit (min m.commit b), ⟨m.term, 0, lg⟩, [], [], []⟩ : Raft)) = ((sends r m).1) from by rw [sends_spec1 (lg := lg) (rc := rc) (b := b) (sendB_of2 h1 h2) (by omega) (by assumption) (hR.trans (by first | (rw [List.drop_of_length_le (by omega)]; rfl) | (rw [dropCons (List.getElem?_eq_getElem (l := m.entries) (i := k) (by omega)), takeE_full (by omega) (by omega)]))) rfl]; first | done | rfl | (rw [endRecs_ne (by dsimp only; omega)]; rfl) | (rw [endRecs_eq rfl rfl]; done) | (rw [endRecs_eq rfl rfl]; rfl) | (rw [show r.hard.term = m.term from by omega]; rfl)) ?_
                refine KF.conv (fun w => .tup [.agg [.int .i64 r.id, .int .i64 r.of_, .int .i64 1, .int .i64 (max r.commit (min m.commit b)), .int .i64 m.term, .int .i64 0, .ref 0, .ref 1, .ref 2, .ref 3], .ref 4, .ref 5]) (fun w => [.arr 45 6 (lg.map encEnt), .arr 3 1 [], .arr 3 1 [], .arr 3 1 [], .arr 47 10 (w.map encRec), .arr 51 17 (((sends r m).2.2).map encOut)]) (show (rc) = ((sends r m).2.1) from by rw [sends_spec1 (lg := lg) (rc := rc) (b := b) (sendB_of2 h1 h2) (by omega) (by assumption) (hR.trans (by first | (rw [List.drop_of_length_le (by omega)]; rfl) | (rw [dropCons (List.getElem?_eq_getElem (l := m.entries) (i := k) (by omega)), takeE_full (by omega) (by omega)]))) rfl]; first | done | rfl | (rw [endRecs_ne (by dsimp only; omega)]; rfl) | (rw [endRecs_eq rfl rfl]; done) | (rw [endRecs_eq rfl rfl]; rfl) | (rw [show r.hard.term = m.term from by omega]; rfl)) ?_
                refine KF.conv (fun w => .tup [.agg [.int .i64 r.id, .int .i64 r.of_, .int .i64 1, .int .i64 (max r.commit (min m.commit b)), .int .i64 m.term, .int .i64 0, .ref 0, .ref 1, .ref 2, .ref 3], .ref 4, .ref 5]) (fun w => [.arr 45 6 (lg.map encEnt), .arr 3 1 [], .arr 3 1 [], .arr 3 1 [], .arr 47 10 (rc.map encRec), .arr 51 17 (w.map encOut)]) (show ([(⟨m.from_, ⟨4, r.id, m.term, b, 0, 0, true, 0, 0, (⟨#[]⟩ : ByteArray), ⟨0, 0, 0, 0, (⟨#[]⟩ : ByteArray)⟩, []⟩⟩ : Out)]) = ((sends r m).2.2) from by rw [sends_spec1 (lg := lg) (rc := rc) (b := b) (sendB_of2 h1 h2) (by omega) (by assumption) (hR.trans (by first | (rw [List.drop_of_length_le (by omega)]; rfl) | (rw [dropCons (List.getElem?_eq_getElem (l := m.entries) (i := k) (by omega)), takeE_full (by omega) (by omega)]))) rfl]; first | done | rfl | (rw [endRecs_ne (by dsimp only; omega)]; rfl) | (rw [endRecs_eq rfl rfl]; done) | (rw [endRecs_eq rfl rfl]; rfl) | (rw [show r.hard.term = m.term from by omega]; rfl)) ?_
                exact KF.m [(1320, 0), (2500, 1), (2501, 2), (2502, 3), (167, 4), (300, 5)] [.agg [.int .i64 r.id, .int .i64 r.of_, .int .i64 1, .int .i64 (max r.commit (min m.commit b)), .int .i64 m.term, .int .i64 0, .ref 1320, .ref 2500, .ref 2501, .ref 2502], .ref 167, .ref 300]
          · skip
            refine AW.r ?_
            refine At.a 3 ?_
            refine At.done rfl ?_
            refine AW.cE r.role (3 : Int) (fun h13 => ?_) (fun h13 => ?_)
            · skip
              have hnx := raftOk_next hok h13
              have hmx := raftOk_match hok h13
              refine AW.r ?_
              refine At.a 6 ?_
              refine At.done rfl ?_
              refine AW.ret ?_
              refine ⟨_, Sub.refl _ _, ?_⟩
              refine KF.conv (fun w => .tup [.agg [.int .i64 w.id, .int .i64 w.of_, .int .i64 w.role, .int .i64 w.commit, .int .i64 w.hard.term, .int .i64 w.hard.vote, .ref 0, .ref 1, .ref 2, .ref 3], .ref 4, .ref 5]) (fun w => [.arr 45 6 (w.hard.log.map encEnt), .arr 3 1 (w.yes.map encI), .arr 3 1 (w.next.map encI), .arr 3 1 (w.match_.map encI), .arr 47 10 (((sends r m).2.1).map encRec), .arr 51 17 (((sends r m).2.2).map encOut)]) (show (r) = ((sends r m).1) from by rw [sends_lead (sendB_of2 h1 h2) (by omega) (by omega) (by omega)]; first | done | rfl | (rw [endRecs_ne (by dsimp only; omega)]; rfl) | (rw [endRecs_eq rfl rfl]; done) | (rw [endRecs_eq rfl rfl]; rfl) | (rw [show r.hard.term = m.term from by omega]; rfl)) ?_
              refine KF.conv (fun w => .tup [.agg [.int .i64 r.id, .int .i64 r.of_, .int .i64 r.role, .int .i64 r.commit, .int .i64 r.hard.term, .int .i64 r.hard.vote, .ref 0, .ref 1, .ref 2, .ref 3], .ref 4, .ref 5]) (fun w => [.arr 45 6 (r.hard.log.map encEnt), .arr 3 1 (r.yes.map encI), .arr 3 1 (r.next.map encI), .arr 3 1 (r.match_.map encI), .arr 47 10 (w.map encRec), .arr 51 17 (((sends r m).2.2).map encOut)]) (show ([]) = ((sends r m).2.1) from by rw [sends_lead (sendB_of2 h1 h2) (by omega) (by omega) (by omega)]; first | done | rfl | (rw [endRecs_ne (by dsimp only; omega)]; rfl) | (rw [endRecs_eq rfl rfl]; done) | (rw [endRecs_eq rfl rfl]; rfl) | (rw [show r.hard.term = m.term from by omega]; rfl)) ?_
              refine KF.conv (fun w => .tup [.agg [.int .i64 r.id, .int .i64 r.of_, .int .i64 r.role, .int .i64 r.commit, .int .i64 r.hard.term, .int .i64 r.hard.vote, .ref 0, .ref 1, .ref 2, .ref 3], .ref 4, .ref 5]) (fun w => [.arr 45 6 (r.hard.log.map encEnt), .arr 3 1 (r.yes.map encI), .arr 3 1 (r.next.map encI), .arr 3 1 (r.match_.map encI), .arr 47 10 [], .arr 51 17 (w.map encOut)]) (show ([]) = ((sends r m).2.2) from by rw [sends_lead (sendB_of2 h1 h2) (by omega) (by omega) (by omega)]; first | done | rfl | (rw [endRecs_ne (by dsimp only; omega)]; rfl) | (rw [endRecs_eq rfl rfl]; done) | (rw [endRecs_eq rfl rfl]; rfl) | (rw [show r.hard.term = m.term from by omega]; rfl)) ?_
              exact KF.m [(1320, 0), (1321, 1), (1322, 2), (1323, 3), (117, 4), (118, 5)] [.agg [.int .i64 r.id, .int .i64 r.of_, .int .i64 r.role, .int .i64 r.commit, .int .i64 r.hard.term, .int .i64 r.hard.vote, .ref 1320, .ref 1321, .ref 1322, .ref 1323], .ref 117, .ref 118]
            · skip
              refine AW.skip ?_
              refine AW.r ?_
              refine At.a 1 ?_
              refine At.c (spec_l10Rest_spec  r ) Tryz.call138 true [(1320, 0), (1321, 1), (1322, 2), (1323, 3)] [(2500, 4), (2501, 5), (2502, 6)] [] trivial ?_
              refine At.a 1 ?_
              refine At.done rfl ?_
              refine AW.r ?_
              refine At.a 4 ?_
              refine At.done rfl ?_
              refine AW.r ?_
              refine At.a 1 ?_
              refine At.c (spec_l10End_spec  (⟨r.id, r.of_, 1, r.commit, r.hard, [], [], []⟩ : Raft) ) Tryz.call65 false [] [] [(1320, 6, (r.hard.log.map encEnt)), (2500, 1, []), (2501, 1, []), (2502, 1, [])] ⟨rfl, ⟨45, (r.hard.log.map encEnt), by kernel_rfl, FrzIs.same (allP_encEnt _)⟩, rfl, ⟨3, [], by kernel_rfl, FrzIs.same (fun _ h => by cases h)⟩, rfl, ⟨3, [], by kernel_rfl, FrzIs.same (fun _ h => by cases h)⟩, rfl, ⟨3, [], by kernel_rfl, FrzIs.same (fun _ h => by cases h)⟩, trivial⟩ ?_
              refine At.a 1 ?_
              refine At.done rfl ?_
              refine AW.seq ?_
              refine AW.seq ?_
              refine AW.cut [(102, 102), (103, 103), (104, 104), (107, 107), (110, 110), (117, 117), (118, 118), (1320, 1320), (1321, 1321), (1322, 1322), (1323, 1323), (2500, 2500), (2501, 2501), (2502, 2502), (5001, 5001), (5002, 5002), (5003, 5003), (5004, 5004), (5005, 5005)] [false, false, false, true, true, false, false, true, true, true, true, true] 99 (!(fitsB r.hard.log m)) ?_ ?_
              · skip
                refine AW.regionD Tryz_mix (At.start ?_)
                refine At.a 5 ?_
                by_cases h14 : m.at_ > (r.hard.log.length : Int)
                · refine At.sB 85 (decide (m.at_ > (r.hard.log.length : Int))) true (sayT h14) ?_
                  refine At.a 14 ?_
                  refine At.sB 99 true (!(fitsB r.hard.log m)) (congrArg V.bool (by grind [fitsB])) ?_
                  refine At.done rfl ⟨by kernel_rfl, rfl, ?_⟩
                  exact Sub.cut [(102, 102), (103, 103), (104, 104), (107, 107), (110, 110), (117, 117), (118, 118), (1320, 1320), (1321, 1321), (1322, 1322), (1323, 1323), (2500, 2500), (2501, 2501), (2502, 2502), (5001, 5001), (5002, 5002), (5003, 5003), (5004, 5004), (5005, 5005)] [false, false, false, true, true, false, false, true, true, true, true, true] 99 _ (by kernel_rfl) (by kernel_rfl) (by kernel_rfl) (by kernel_rfl)
                · refine At.sB 85 (decide (m.at_ > (r.hard.log.length : Int))) false (sayF h14) ?_
                  refine At.a 4 ?_
                  by_cases h15 : m.at_ > 0
                  · refine At.sB 89 (decide (m.at_ > 0)) true (sayT h15) ?_
                    refine At.a 4 ?_
                    refine At.c (spec_l10Term_spec  r.hard m.at_ (by omega)) Tryz.call115 false [] [] [(1320, 6, (r.hard.log.map encEnt))] ⟨rfl, ⟨45, (r.hard.log.map encEnt), by kernel_rfl, FrzIs.same (allP_encEnt _)⟩, trivial⟩ ?_
                    refine At.a 5 ?_
                    refine At.sB 99 ((termAt r.hard.log m.at_) != m.atTerm) (!(fitsB r.hard.log m)) (congrArg V.bool (by grind [fitsB])) ?_
                    refine At.done rfl ⟨by kernel_rfl, rfl, ?_⟩
                    exact Sub.cut [(102, 102), (103, 103), (104, 104), (107, 107), (110, 110), (117, 117), (118, 118), (1320, 1320), (1321, 1321), (1322, 1322), (1323, 1323), (2500, 2500), (2501, 2501), (2502, 2502), (5001, 5001), (5002, 5002), (5003, 5003), (5004, 5004), (5005, 5005)] [false, false, false, true, true, false, false, true, true, true, true, true] 99 _ (by kernel_rfl) (by kernel_rfl) (by kernel_rfl) (by kernel_rfl)
                  · refine At.sB 89 (decide (m.at_ > 0)) false (sayF h15) ?_
                    refine At.a 10 ?_
                    refine At.sB 99 false (!(fitsB r.hard.log m)) (congrArg V.bool (by grind [fitsB])) ?_
                    refine At.done rfl ⟨by kernel_rfl, rfl, ?_⟩
                    exact Sub.cut [(102, 102), (103, 103), (104, 104), (107, 107), (110, 110), (117, 117), (118, 118), (1320, 1320), (1321, 1321), (1322, 1322), (1323, 1323), (2500, 2500), (2501, 2501), (2502, 2502), (5001, 5001), (5002, 5002), (5003, 5003), (5004, 5004), (5005, 5005)] [false, false, false, true, true, false, false, true, true, true, true, true] 99 _ (by kernel_rfl) (by kernel_rfl) (by kernel_rfl) (by kernel_rfl)
              refine AW.cNB (fitsB r.hard.log m) (fun h16 => ?_) (fun h16 => ?_)
              · skip
                refine AW.r ?_
                refine At.a 4 ?_
                refine At.sI 103 (m.at_ - 1) (by omega) ?_
                refine At.c (spec_l1Min_spec  (r.hard.log.length : Int) (m.at_ - 1) ) Tryz.call111 true [] [] [] trivial ?_
                refine At.a 2 ?_
                refine At.done rfl ?_
                refine AW.seq ?_
                refine AW.regionD Tryz_mix (At.start ?_)
                refine At.a 7 ?_
                refine At.litK (t := 38) (d := 113) (e := 51) (es := 17) (bytes := 168) (n := 1) (parts := #[(0, .tmp 112)]) (45, 6) 213 [5005] [.int .i64 m.from_, .int .i64 4, .int .i64 r.id, .int .i64 m.term, .int .i64 (min (r.hard.log.length : Int) (m.at_ - 1)), .int .i64 0, .int .i64 0, .bool false, .int .i64 0, .int .i64 0, .str (⟨#[]⟩ : ByteArray), .int .i64 0, .int .i64 0, .int .i64 0, .int .i64 0, .str (⟨#[]⟩ : ByteArray), .ref 5005] [.int .i64 m.from_, .int .i64 4, .int .i64 r.id, .int .i64 m.term, .int .i64 (min (r.hard.log.length : Int) (m.at_ - 1)), .int .i64 0, .int .i64 0, .bool false, .int .i64 0, .int .i64 0, .str (⟨#[]⟩ : ByteArray), .int .i64 0, .int .i64 0, .int .i64 0, .int .i64 0, .str (⟨#[]⟩ : ByteArray), .own 45 6 []] [.int .i64 0, .int .i64 0, .int .i64 0, .int .i64 0, .int .i64 0, .int .i64 0, .int .i64 0, .bool false, .int .i64 0, .int .i64 0, .str (⟨#[]⟩ : ByteArray), .int .i64 0, .int .i64 0, .int .i64 0, .int .i64 0, .str (⟨#[]⟩ : ByteArray), .nil] [.agg [.int .i64 m.from_, .int .i64 4, .int .i64 r.id, .int .i64 m.term, .int .i64 (min (r.hard.log.length : Int) (m.at_ - 1)), .int .i64 0, .int .i64 0, .bool false, .int .i64 0, .int .i64 0, .str (⟨#[]⟩ : ByteArray), .int .i64 0, .int .i64 0, .int .i64 0, .int .i64 0, .str (⟨#[]⟩ : ByteArray), .own 45 6 []]] [(45, 6, [])] (by kernel_rfl) (by kernel_rfl) (by kernel_rfl) (by kernel_rfl) (by kernel_rfl) (by intro p hp; simp only [List.mem_cons, List.not_mem_nil, or_false] at hp; subst hp; all_goals first | exact flatEnts | (intro x hx; cases hx)) (by kernel_rfl) ?_
                refine At.append (t := 38) (d := 114) (e := 51) (es := 17) (bytes := 168) (s := .tmp 108) (x := .tmp 113) (S := .ref 118) (T := .ref 213) (xs := []) (ys := (([(⟨m.from_, ⟨4, r.id, m.term, min (r.hard.log.length : Int) (m.at_ - 1), 0, 0, false, 0, 0, (⟨#[]⟩ : ByteArray), ⟨0, 0, 0, 0, (⟨#[]⟩ : ByteArray)⟩, []⟩⟩ : Out)]).map encOut)) 214 [118] [213] (([(⟨m.from_, ⟨4, r.id, m.term, min (r.hard.log.length : Int) (m.at_ - 1), 0, 0, false, 0, 0, (⟨#[]⟩ : ByteArray), ⟨0, 0, 0, 0, (⟨#[]⟩ : ByteArray)⟩, []⟩⟩ : Out)]).map encOut) (by kernel_rfl) (by kernel_rfl) (by kernel_rfl) (by kernel_rfl) ⟨by kernel_rfl, rfl⟩ ⟨by kernel_rfl, .inr rfl⟩ (by kernel_rfl) (by kernel_rfl) (by simp) (by simp only [List.length_map, List.length_append, List.length_take, List.length_drop, List.length_replicate, List.length_set, List.length_cons, List.length_nil]; omega) (by simp only [List.length_map, List.length_append, List.length_take, List.length_drop, List.length_replicate, List.length_set, List.length_cons, List.length_nil]; omega) ?_
                refine At.a 3 ?_
                refine At.done rfl ⟨by kernel_rfl, ?_⟩
                refine AW.ret ?_
                refine ⟨_, Sub.refl _ _, ?_⟩
                refine KF.conv (fun w => .tup [.agg [.int .i64 w.id, .int .i64 w.of_, .int .i64 w.role, .int .i64 w.commit, .int .i64 w.hard.term, .int .i64 w.hard.vote, .ref 0, .ref 1, .ref 2, .ref 3], .ref 4, .ref 5]) (fun w => [.arr 45 6 (w.hard.log.map encEnt), .arr 3 1 (w.yes.map encI), .arr 3 1 (w.next.map encI), .arr 3 1 (w.match_.map encI), .arr 47 10 (((sends r m).2.1).map encRec), .arr 51 17 (((sends r m).2.2).map encOut)]) (show ((⟨r.id, r.of_, 1, r.commit, r.hard, [], [], []⟩ : Raft)) = ((sends r m).1) from by rw [sends_far0 (sendB_of2 h1 h2) (by omega) (by omega) (by omega) (by assumption)]; first | done | rfl | (rw [endRecs_ne (by dsimp only; omega)]; rfl) | (rw [endRecs_eq rfl rfl]; done) | (rw [endRecs_eq rfl rfl]; rfl) | (rw [show r.hard.term = m.term from by omega]; rfl)) ?_
                refine KF.conv (fun w => .tup [.agg [.int .i64 r.id, .int .i64 r.of_, .int .i64 1, .int .i64 r.commit, .int .i64 r.hard.term, .int .i64 r.hard.vote, .ref 0, .ref 1, .ref 2, .ref 3], .ref 4, .ref 5]) (fun w => [.arr 45 6 (r.hard.log.map encEnt), .arr 3 1 [], .arr 3 1 [], .arr 3 1 [], .arr 47 10 (w.map encRec), .arr 51 17 (((sends r m).2.2).map encOut)]) (show ([]) = ((sends r m).2.1) from by rw [sends_far0 (sendB_of2 h1 h2) (by omega) (by omega) (by omega) (by assumption)]; first | done | rfl | (rw [endRecs_ne (by dsimp only; omega)]; rfl) | (rw [endRecs_eq rfl rfl]; done) | (rw [endRecs_eq rfl rfl]; rfl) | (rw [show r.hard.term = m.term from by omega]; rfl)) ?_
                refine KF.conv (fun w => .tup [.agg [.int .i64 r.id, .int .i64 r.of_, .int .i64 1, .int .i64 r.commit, .int .i64 r.hard.term, .int .i64 r.hard.vote, .ref 0, .ref 1, .ref 2, .ref 3], .ref 4, .ref 5]) (fun w => [.arr 45 6 (r.hard.log.map encEnt), .arr 3 1 [], .arr 3 1 [], .arr 3 1 [], .arr 47 10 [], .arr 51 17 (w.map encOut)]) (show ([(⟨m.from_, ⟨4, r.id, m.term, min (r.hard.log.length : Int) (m.at_ - 1), 0, 0, false, 0, 0, (⟨#[]⟩ : ByteArray), ⟨0, 0, 0, 0, (⟨#[]⟩ : ByteArray)⟩, []⟩⟩ : Out)]) = ((sends r m).2.2) from by rw [sends_far0 (sendB_of2 h1 h2) (by omega) (by omega) (by omega) (by assumption)]; first | done | rfl | (rw [endRecs_ne (by dsimp only; omega)]; rfl) | (rw [endRecs_eq rfl rfl]; done) | (rw [endRecs_eq rfl rfl]; rfl) | (rw [show r.hard.term = m.term from by omega]; rfl)) ?_
                exact KF.m [(1320, 0), (2500, 1), (2501, 2), (2502, 3), (117, 4), (214, 5)] [.agg [.int .i64 r.id, .int .i64 r.of_, .int .i64 1, .int .i64 r.commit, .int .i64 r.hard.term, .int .i64 r.hard.vote, .ref 1320, .ref 2500, .ref 2501, .ref 2502], .ref 117, .ref 214]
              · skip
                have hfit := h16
                have hat := fitsB_at hfit
                refine AW.skip ?_
                refine AW.r ?_
                refine At.a 3 ?_
                refine At.done rfl ?_
                refine AW.seq ?_
                refine AW.r ?_
                refine At.a 1 ?_
                refine At.done rfl ?_
                refine AW.block ?_
                refine AW.loopW (fun (x : Nat × Int × List Ent × List Rec) => match x with | (k, b, lg, rc) => Go.Sy.mk [.un, .un, .un, .ptr 103 0 0, .ptr 104 0 0, .un, .un, .ptr 107 0 0, .ref 117, .ref 118, .ptr 110 0 0, .un, .int .i64 b, .int .i64 (k : Int)] [(103, .box 33 [.int .i64 m.kind, .int .i64 m.from_, .int .i64 m.term, .int .i64 m.at_, .int .i64 m.atTerm, .int .i64 m.commit, .bool m.yes, .int .i64 m.release, .int .i64 m.part, .str m.bytes, .int .i64 m.cmd.kind, .int .i64 m.cmd.release, .int .i64 m.cmd.node, .int .i64 m.cmd.size, .str m.cmd.digest, .sl false 6 (m.entries.map encEnt)]), (104, .box 29 [.int .i64 0, .int .i64 0, .int .i64 0, .int .i64 0, .int .i64 0, .int .i64 0, .ref 5001, .ref 5002, .ref 5003, .ref 5004]), (107, .box 29 [.int .i64 r.id, .int .i64 r.of_, .int .i64 1, .int .i64 r.commit, .int .i64 r.hard.term, .int .i64 r.hard.vote, .ref 1320, .ref 2500, .ref 2501, .ref 2502]), (110, .box 33 [.int .i64 4, .int .i64 r.id, .int .i64 m.term, .int .i64 0, .int .i64 0, .int .i64 0, .bool false, .int .i64 0, .int .i64 0, .str (⟨#[]⟩ : ByteArray), .int .i64 0, .int .i64 0, .int .i64 0, .int .i64 0, .str (⟨#[]⟩ : ByteArray), .ref 5005]), (117, .arr 47 10 (rc.map encRec)), (118, .arr 51 17 []), (1320, .arr 45 6 (lg.map encEnt)), (2500, .arr 3 1 []), (2501, .arr 3 1 []), (2502, .arr 3 1 []), (5001, .arr 45 6 []), (5002, .arr 3 1 []), (5003, .arr 3 1 []), (5004, .arr 3 1 []), (5005, .arr 45 6 [])]) (fun (x : Nat × Int × List Ent × List Rec) => match x with | (k, b, lg, rc) => k ≤ m.entries.length ∧ (b = m.at_ + (k : Int) ∧ b ≤ lg.length ∧ lg.length ≤ 80 ∧ rc.length ≤ 1000 + 2 * k) ∧ takeE m.entries m.at_ r.hard.log [] = takeE (m.entries.drop k) b lg rc) (fun (x : Nat × Int × List Ent × List Rec) => match x with | (k, b, lg, rc) => m.entries.length - k) (0, m.at_, r.hard.log, []) ⟨by omega, (by simp only [List.length_cons, List.length_nil]; omega), by rw [List.drop_zero]⟩ (Sub.o [(103, 103), (104, 104), (107, 107), (110, 110), (117, 117), (118, 118), (1320, 1320), (2500, 2500), (2501, 2501), (2502, 2502), (5001, 5001), (5002, 5002), (5003, 5003), (5004, 5004), (5005, 5005)] [false, false, false, true, true, false, false, true, true, true, true, false, true, true]) ?_
                rintro ⟨k, b, lg, rc⟩ ⟨hk, hb, hR⟩
                refine AW.seq ?_
                refine AW.r ?_
                refine At.a 4 ?_
                refine At.sL 120 encEnt m.entries ?_
                refine At.a 1 ?_
                refine At.done rfl ?_
                refine AW.cD ((k : Int) < (m.entries.length : Int)) (fun h17 => ?_) (fun h17 => ?_)
                · skip
                  refine AW.skip ?_
                  refine AW.seq ?_
                  refine AW.block ?_
                  refine AW.r ?_
                  refine At.a 3 ?_
                  refine At.sI 126 (m.at_ + 1) (by omega) ?_
                  refine At.a 2 ?_
                  refine At.say 128 (.int .i64 (IntKind.i64.wrap ((m.at_ + 1) + (k : Int)))) (.int .i64 (b + 1)) (by kernel_rfl) (sayAs (by omega) (by omega)) ?_
                  refine At.a 1 ?_
                  refine At.done rfl ?_
                  refine AW.seq ?_
                  refine AW.seq ?_
                  refine AW.regionD Tryz_mix (At.start ?_)
                  refine At.a 2 ?_
                  refine At.c (spec_l10End_spec  (⟨r.id, r.of_, 1, r.commit, ⟨r.hard.term, r.hard.vote, lg⟩, [], [], []⟩ : Raft) ) Tryz.call65 false [] [] [(1320, 6, (lg.map encEnt)), (2500, 1, []), (2501, 1, []), (2502, 1, [])] ⟨rfl, ⟨45, (lg.map encEnt), by kernel_rfl, FrzIs.same (allP_encEnt _)⟩, rfl, ⟨3, [], by kernel_rfl, FrzIs.same (fun _ h => by cases h)⟩, rfl, ⟨3, [], by kernel_rfl, FrzIs.same (fun _ h => by cases h)⟩, rfl, ⟨3, [], by kernel_rfl, FrzIs.same (fun _ h => by cases h)⟩, trivial⟩ ?_
                  refine At.a 2 ?_
                  by_cases h18 : (b + 1) ≤ (lg.length : Int)
                  · refine At.sB 133 (decide ((b + 1) ≤ (lg.length : Int))) true (sayT h18) ?_
                    refine At.a 3 ?_
                    refine At.c (spec_l10Term_spec  (⟨r.hard.term, r.hard.vote, lg⟩ : Hard) (b + 1) (by dsimp only; omega)) Tryz.call115 false [] [] [(1320, 6, (lg.map encEnt))] ⟨rfl, ⟨45, (lg.map encEnt), by kernel_rfl, FrzIs.same (allP_encEnt _)⟩, trivial⟩ ?_
                    refine At.a 3 ?_
                    refine At.iSl 24 141 (.tmp 139) (.tmp 140) false 6 (m.entries.map encEnt) .i64 (k : Int) 45 (by omega) (by simp only [List.length_map, List.length_append, List.length_take, List.length_drop, List.length_replicate, List.length_set, List.length_cons, List.length_nil]; omega) ?_
                    refine At.a 1 ?_
                    refine Exists.elim (show ∃ e, m.entries[k]? = some e from ⟨_, List.getElem?_eq_getElem (by omega)⟩) fun e3 he3 => ?_
                    refine At.lVp 3 143 (.tmp 142) false 6 (m.entries.map encEnt) k 0 false 1 (encEnt e3) (.int .i64 e3.term) (mapGet he3) ?_
                    refine At.a 2 ?_
                    refine At.done rfl ⟨by kernel_rfl, ?_⟩
                    refine AW.cE (termAt lg (b + 1)) e3.term (fun h19 => ?_) (fun h19 => ?_)
                    · skip
                      refine AW.r ?_
                      refine At.a 2 ?_
                      refine At.done rfl ?_
                      refine AW.exit ?_
                      refine AW.region (At.start ?_)
                      refine At.a 2 ?_
                      refine At.sI 123 ((k : Int) + 1) (by omega) ?_
                      refine At.a 1 ?_
                      refine At.done rfl ?_
                      exact ⟨(k + 1, (b + 1), lg, rc), ⟨by omega, ⟨by omega, by omega, by omega, by omega⟩, by rw [hR, dropCons (by assumption), takeE_same (by omega) (by assumption)]⟩, (by simp only; omega), Sub.o [(103, 103), (104, 104), (107, 107), (110, 110), (117, 117), (118, 118), (1320, 1320), (2500, 2500), (2501, 2501), (2502, 2502), (5001, 5001), (5002, 5002), (5003, 5003), (5004, 5004), (5005, 5005)] [false, false, false, true, true, false, false, true, true, true, true, false, true, true]⟩
                    · skip
                      refine AW.skip ?_
                      refine AW.seq ?_
                      refine AW.r ?_
                      refine At.a 2 ?_
                      refine At.c (spec_l10End_spec  (⟨r.id, r.of_, 1, r.commit, ⟨r.hard.term, r.hard.vote, lg⟩, [], [], []⟩ : Raft) ) Tryz.call65 false [] [] [(1320, 6, (lg.map encEnt)), (2500, 1, []), (2501, 1, []), (2502, 1, [])] ⟨rfl, ⟨45, (lg.map encEnt), by kernel_rfl, FrzIs.same (allP_encEnt _)⟩, rfl, ⟨3, [], by kernel_rfl, FrzIs.same (fun _ h => by cases h)⟩, rfl, ⟨3, [], by kernel_rfl, FrzIs.same (fun _ h => by cases h)⟩, rfl, ⟨3, [], by kernel_rfl, FrzIs.same (fun _ h => by cases h)⟩, trivial⟩ ?_
                      refine At.a 1 ?_
                      refine At.done rfl ?_
                      refine AW.condT (decide ((b + 1) ≤ (lg.length : Int))) (by kernel_rfl) (decide_eq_true h18) ?_
                      refine AW.r ?_
                      refine At.lit0 (t := 24) (d := 151) (e := 45) (es := 6) (bytes := 56) 251 (by kernel_rfl) (by kernel_rfl) (by kernel_rfl) (by kernel_rfl) ?_
                      refine At.a 5 ?_
                      refine At.sJ 156 ((b + 1) - 1) b (by omega) (by omega) ?_
                      refine At.sliceRef (t := 24) (d := 157) (e := 45) (es := 6) (i := 1320) (x := .tmp 154) (lx := none) (hx := some (.tmp 156)) (xs := (lg.map encEnt)) (vl := .un) (vh := .int .i64 b) 0 ((b).toNat) (by kernel_rfl) (by kernel_rfl) (by kernel_rfl) (by kernel_rfl) (by kernel_rfl) (.inl ⟨rfl, rfl⟩) (.inr ⟨_, _, rfl, sayNat (by omega)⟩) (by omega) (by simp only [List.length_map, List.length_append, List.length_take, List.length_drop, List.length_replicate, List.length_set, List.length_cons, List.length_nil]; omega) ?_
                      refine At.append (t := 24) (d := 158) (e := 45) (es := 6) (bytes := 56) (s := .tmp 151) (x := .tmp 157) (S := .ref 251) (T := .sub 1320 0 (((b).toNat) - 0)) (xs := []) (ys := (((lg.drop 0).take (((b).toNat) - 0)).map encEnt)) 258 [251] [] ((lg.take b.toNat).map encEnt) (by kernel_rfl) (by kernel_rfl) (by kernel_rfl) (by kernel_rfl) ⟨by kernel_rfl, rfl⟩ ⟨(lg.map encEnt), by kernel_rfl, by rw [List.length_map]; omega, (by simp [List.map_take, List.map_drop]), (allP_encEnt _), rfl⟩ (by kernel_rfl) (by kernel_rfl) (by simp [List.map_take]) (by simp only [List.length_map, List.length_append, List.length_take, List.length_drop, List.length_replicate, List.length_set, List.length_cons, List.length_nil]; omega) (by simp only [List.length_map, List.length_append, List.length_take, List.length_drop, List.length_replicate, List.length_set, List.length_cons, List.length_nil]; omega) ?_
                      refine At.a 3 ?_
                      refine At.done rfl ?_
                      refine AW.region (At.start ?_)
                      refine At.a 3 ?_
                      refine At.sJ 163 ((b + 1) - 1) b (by omega) (by omega) ?_
                      refine At.a 1 ?_
                      refine At.litK (t := 37) (d := 165) (e := 47) (es := 10) (bytes := 88) (n := 1) (parts := #[(0, .tmp 164)]) (45, 6) 265 [] [.int .i64 3, .int .i64 0, .int .i64 0, .int .i64 b, .int .i64 0, .int .i64 0, .int .i64 0, .int .i64 0, .int .i64 0, .str (⟨#[]⟩ : ByteArray)] [.int .i64 3, .int .i64 0, .int .i64 0, .int .i64 b, .int .i64 0, .int .i64 0, .int .i64 0, .int .i64 0, .int .i64 0, .str (⟨#[]⟩ : ByteArray)] [.int .i64 0, .int .i64 0, .int .i64 0, .int .i64 0, .int .i64 0, .int .i64 0, .int .i64 0, .int .i64 0, .int .i64 0, .str (⟨#[]⟩ : ByteArray)] [.agg [.int .i64 3, .int .i64 0, .int .i64 0, .int .i64 b, .int .i64 0, .int .i64 0, .int .i64 0, .int .i64 0, .int .i64 0, .str (⟨#[]⟩ : ByteArray)]] [] (by kernel_rfl) (by kernel_rfl) (by kernel_rfl) (by kernel_rfl) rfl (fun p hp => by cases hp) (by kernel_rfl) ?_
                      refine At.append (t := 37) (d := 166) (e := 47) (es := 10) (bytes := 88) (s := .tmp 161) (x := .tmp 165) (S := .ref 117) (T := .ref 265) (xs := (rc.map encRec)) (ys := (([(⟨3, 0, 0, b, ⟨0, ⟨0, 0, 0, 0, (⟨#[]⟩ : ByteArray)⟩⟩⟩ : Rec)]).map encRec)) 266 [117] [265] ((rc ++ ([(⟨3, 0, 0, b, ⟨0, ⟨0, 0, 0, 0, (⟨#[]⟩ : ByteArray)⟩⟩⟩ : Rec)])).map encRec) (by kernel_rfl) (by kernel_rfl) (by kernel_rfl) (by kernel_rfl) ⟨by kernel_rfl, rfl⟩ ⟨by kernel_rfl, .inr rfl⟩ (by kernel_rfl) (by kernel_rfl) (by simp) (by simp only [List.length_map, List.length_append, List.length_take, List.length_drop, List.length_replicate, List.length_set, List.length_cons, List.length_nil]; omega) (by simp only [List.length_map, List.length_append, List.length_take, List.length_drop, List.length_replicate, List.length_set, List.length_cons, List.length_nil]; omega) ?_
                      refine At.a 1 ?_
                      refine At.done rfl ?_
                      refine AW.seq ?_
                      refine AW.r ?_
                      refine At.a 2 ?_
                      refine At.done rfl ?_
                      refine AW.cD ((b + 1) > 80) (fun h20 => ?_) (fun h20 => ?_)
                      · skip
                        refine AW.exit ?_
                        refine AW.seq ?_
                        refine AW.regionD Tryz_mix (At.start ?_)
                        refine At.a 5 ?_
                        refine At.c (spec_l1Min_spec  m.commit b ) Tryz.call111 true [] [] [] trivial ?_
                        refine At.c (spec_l1Max_spec  r.commit (min m.commit b) ) Tryz.call59 true [] [] [] trivial ?_
                        refine At.a 2 ?_
                        refine At.done rfl ⟨by kernel_rfl, ?_⟩
                        refine AW.r ?_
                        refine At.a 2 ?_
                        refine At.done rfl ?_
                        refine AW.r ?_
                        refine At.a 3 ?_
                        refine At.done rfl ?_
                        refine AW.seq ?_
                        refine AW.regionD Tryz_mix (At.start ?_)
                        refine At.a 7 ?_
                        refine At.litK (t := 38) (d := 199) (e := 51) (es := 17) (bytes := 168) (n := 1) (parts := #[(0, .tmp 198)]) (45, 6) 299 [5005] [.int .i64 m.from_, .int .i64 4, .int .i64 r.id, .int .i64 m.term, .int .i64 b, .int .i64 0, .int .i64 0, .bool true, .int .i64 0, .int .i64 0, .str (⟨#[]⟩ : ByteArray), .int .i64 0, .int .i64 0, .int .i64 0, .int .i64 0, .str (⟨#[]⟩ : ByteArray), .ref 5005] [.int .i64 m.from_, .int .i64 4, .int .i64 r.id, .int .i64 m.term, .int .i64 b, .int .i64 0, .int .i64 0, .bool true, .int .i64 0, .int .i64 0, .str (⟨#[]⟩ : ByteArray), .int .i64 0, .int .i64 0, .int .i64 0, .int .i64 0, .str (⟨#[]⟩ : ByteArray), .own 45 6 []] [.int .i64 0, .int .i64 0, .int .i64 0, .int .i64 0, .int .i64 0, .int .i64 0, .int .i64 0, .bool false, .int .i64 0, .int .i64 0, .str (⟨#[]⟩ : ByteArray), .int .i64 0, .int .i64 0, .int .i64 0, .int .i64 0, .str (⟨#[]⟩ : ByteArray), .nil] [.agg [.int .i64 m.from_, .int .i64 4, .int .i64 r.id, .int .i64 m.term, .int .i64 b, .int .i64 0, .int .i64 0, .bool true, .int .i64 0, .int .i64 0, .str (⟨#[]⟩ : ByteArray), .int .i64 0, .int .i64 0, .int .i64 0, .int .i64 0, .str (⟨#[]⟩ : ByteArray), .own 45 6 []]] [(45, 6, [])] (by kernel_rfl) (by kernel_rfl) (by kernel_rfl) (by kernel_rfl) (by kernel_rfl) (by intro p hp; simp only [List.mem_cons, List.not_mem_nil, or_false] at hp; subst hp; all_goals first | exact flatEnts | (intro x hx; cases hx)) (by kernel_rfl) ?_
                        refine At.append (t := 38) (d := 200) (e := 51) (es := 17) (bytes := 168) (s := .tmp 194) (x := .tmp 199) (S := .ref 118) (T := .ref 299) (xs := []) (ys := (([(⟨m.from_, ⟨4, r.id, m.term, b, 0, 0, true, 0, 0, (⟨#[]⟩ : ByteArray), ⟨0, 0, 0, 0, (⟨#[]⟩ : ByteArray)⟩, []⟩⟩ : Out)]).map encOut)) 300 [118] [299] (([(⟨m.from_, ⟨4, r.id, m.term, b, 0, 0, true, 0, 0, (⟨#[]⟩ : ByteArray), ⟨0, 0, 0, 0, (⟨#[]⟩ : ByteArray)⟩, []⟩⟩ : Out)]).map encOut) (by kernel_rfl) (by kernel_rfl) (by kernel_rfl) (by kernel_rfl) ⟨by kernel_rfl, rfl⟩ ⟨by kernel_rfl, .inr rfl⟩ (by kernel_rfl) (by kernel_rfl) (by simp) (by omega) (by omega) ?_
                        refine At.a 3 ?_
                        refine At.done rfl ⟨by kernel_rfl, ?_⟩
                        refine AW.ret ?_
                        refine ⟨_, Sub.refl _ _, ?_⟩
                        refine KF.conv (fun w => .tup [.agg [.int .i64 w.id, .int .i64 w.of_, .int .i64 w.role, .int .i64 w.commit, .int .i64 w.hard.term, .int .i64 w.hard.vote, .ref 0, .ref 1, .ref 2, .ref 3], .ref 4, .ref 5]) (fun w => [.arr 45 6 (w.hard.log.map encEnt), .arr 3 1 (w.yes.map encI), .arr 3 1 (w.next.map encI), .arr 3 1 (w.match_.map encI), .arr 47 10 (((sends r m).2.1).map encRec), .arr 51 17 (((sends r m).2.2).map encOut)]) (show ((⟨r.id, r.of_, 1, max r.commit (min m.commit b), ⟨r.hard.term, r.hard.vote, lg.take b.toNat⟩, [], [], []⟩ : Raft)) = ((sends r m).1) from by exfalso; omega) ?_
                        refine KF.conv (fun w => .tup [.agg [.int .i64 r.id, .int .i64 r.of_, .int .i64 1, .int .i64 (max r.commit (min m.commit b)), .int .i64 r.hard.term, .int .i64 r.hard.vote, .ref 0, .ref 1, .ref 2, .ref 3], .ref 4, .ref 5]) (fun w => [.arr 45 6 ((lg.take b.toNat).map encEnt), .arr 3 1 [], .arr 3 1 [], .arr 3 1 [], .arr 47 10 (w.map encRec), .arr 51 17 (((sends r m).2.2).map encOut)]) (show (rc ++ ([(⟨3, 0, 0, b, ⟨0, ⟨0, 0, 0, 0, (⟨#[]⟩ : ByteArray)⟩⟩⟩ : Rec)])) = ((sends r m).2.1) from by exfalso; omega) ?_
                        refine KF.conv (fun w => .tup [.agg [.int .i64 r.id, .int .i64 r.of_, .int .i64 1, .int .i64 (max r.commit (min m.commit b)), .int .i64 r.hard.term, .int .i64 r.hard.vote, .ref 0, .ref 1, .ref 2, .ref 3], .ref 4, .ref 5]) (fun w => [.arr 45 6 ((lg.take b.toNat).map encEnt), .arr 3 1 [], .arr 3 1 [], .arr 3 1 [], .arr 47 10 ((rc ++ ([(⟨3, 0, 0, b, ⟨0, ⟨0, 0, 0, 0, (⟨#[]⟩ : ByteArray)⟩⟩⟩ : Rec)])).map encRec), .arr 51 17 (w.map encOut)]) (show ([(⟨m.from_, ⟨4, r.id, m.term, b, 0, 0, true, 0, 0, (⟨#[]⟩ : ByteArray), ⟨0, 0, 0, 0, (⟨#[]⟩ : ByteArray)⟩, []⟩⟩ : Out)]) = ((sends r m).2.2) from by exfalso; omega) ?_
                        exact KF.m [(258, 0), (2500, 1), (2501, 2), (2502, 3), (266, 4), (300, 5)] [.agg [.int .i64 r.id, .int .i64 r.of_, .int .i64 1, .int .i64 (max r.commit (min m.commit b)), .int .i64 r.hard.term, .int .i64 r.hard.vote, .ref 258, .ref 2500, .ref 2501, .ref 2502], .ref 266, .ref 300]
                      · skip
                        refine AW.skip ?_
                        refine AW.seq ?_
                        refine AW.regionD Tryz_mix (At.start ?_)
                        refine At.a 4 ?_
                        refine At.iSl 24 174 (.tmp 172) (.tmp 173) false 6 (m.entries.map encEnt) .i64 (k : Int) 45 (by omega) (by simp only [List.length_map, List.length_append, List.length_take, List.length_drop, List.length_replicate, List.length_set, List.length_cons, List.length_nil]; omega) ?_
                        refine At.lVp 45 175 (.tmp 174) false 6 (m.entries.map encEnt) k 0 true 6 (encEnt e3) (.agg [.int .i64 e3.term, .int .i64 e3.cmd.kind, .int .i64 e3.cmd.release, .int .i64 e3.cmd.node, .int .i64 e3.cmd.size, .str e3.cmd.digest]) (mapGet he3) ?_
                        refine At.a 1 ?_
                        refine At.c (spec_l10Put_spec  (⟨r.id, r.of_, 1, r.commit, ⟨r.hard.term, r.hard.vote, lg.take b.toNat⟩, [], [], []⟩ : Raft) e3 (rc ++ ([(⟨3, 0, 0, b, ⟨0, ⟨0, 0, 0, 0, (⟨#[]⟩ : ByteArray)⟩⟩⟩ : Rec)])) (by dsimp only; rw [List.length_take]; omega) (by simp only [List.length_append, List.length_cons, List.length_nil]; omega)) Tryz.call105 true [(258, 0), (2500, 1), (2501, 2), (2502, 3), (266, 4)] [(4540, 5), (4541, 6)] [] trivial ?_
                        refine At.a 5 ?_
                        refine At.done rfl ⟨by kernel_rfl, ?_⟩
                        refine AW.region (At.start ?_)
                        refine At.a 2 ?_
                        refine At.done rfl ?_
                        refine AW.region (At.start ?_)
                        refine At.a 2 ?_
                        refine At.sI 123 ((k : Int) + 1) (by omega) ?_
                        refine At.a 1 ?_
                        refine At.done rfl ?_
                        exact ⟨(k + 1, (b + 1), ((lg.take b.toNat) ++ [e3]), ((rc ++ ([(⟨3, 0, 0, b, ⟨0, ⟨0, 0, 0, 0, (⟨#[]⟩ : ByteArray)⟩⟩⟩ : Rec)])) ++ [(⟨2, 0, 0, (((lg.take b.toNat) ++ [e3]).length : Int), e3⟩ : Rec)])), ⟨by omega, ⟨by omega, by simp only [List.length_append, List.length_take, List.length_cons, List.length_nil]; omega, by simp only [List.length_append, List.length_take, List.length_cons, List.length_nil]; omega, by simp only [List.length_append, List.length_cons, List.length_nil]; omega⟩, by rw [hR, dropCons (by assumption)]; exact takeE_cut2 (by omega) (by assumption) (by simp only [List.length_append, List.length_take, List.length_cons, List.length_nil]; omega)⟩, (by simp only; omega), Sub.o [(103, 103), (104, 104), (107, 107), (110, 110), (4541, 117), (118, 118), (4540, 1320), (2500, 2500), (2501, 2501), (2502, 2502), (5001, 5001), (5002, 5002), (5003, 5003), (5004, 5004), (5005, 5005)] [false, false, false, true, true, false, false, true, true, true, true, false, true, true]⟩
                  · refine At.sB 133 (decide ((b + 1) ≤ (lg.length : Int))) false (sayF h18) ?_
                    refine At.a 12 ?_
                    refine At.done rfl ⟨by kernel_rfl, ?_⟩
                    refine AW.cond false (by kernel_rfl) (fun h => by cases h) (fun _ => ?_)
                    refine AW.skip ?_
                    refine AW.seq ?_
                    refine AW.r ?_
                    refine At.a 2 ?_
                    refine At.c (spec_l10End_spec  (⟨r.id, r.of_, 1, r.commit, ⟨r.hard.term, r.hard.vote, lg⟩, [], [], []⟩ : Raft) ) Tryz.call65 false [] [] [(1320, 6, (lg.map encEnt)), (2500, 1, []), (2501, 1, []), (2502, 1, [])] ⟨rfl, ⟨45, (lg.map encEnt), by kernel_rfl, FrzIs.same (allP_encEnt _)⟩, rfl, ⟨3, [], by kernel_rfl, FrzIs.same (fun _ h => by cases h)⟩, rfl, ⟨3, [], by kernel_rfl, FrzIs.same (fun _ h => by cases h)⟩, rfl, ⟨3, [], by kernel_rfl, FrzIs.same (fun _ h => by cases h)⟩, trivial⟩ ?_
                    refine At.a 1 ?_
                    refine At.done rfl ?_
                    refine AW.condF (decide ((b + 1) ≤ (lg.length : Int))) (by kernel_rfl) (decide_eq_false h18) ?_
                    refine AW.skip ?_
                    refine AW.seq ?_
                    refine AW.r ?_
                    refine At.a 2 ?_
                    refine At.done rfl ?_
                    refine AW.cD ((b + 1) > 80) (fun h21 => ?_) (fun h21 => ?_)
                    · skip
                      refine AW.exit ?_
                      refine AW.seq ?_
                      refine AW.regionD Tryz_mix (At.start ?_)
                      refine At.a 5 ?_
                      refine At.c (spec_l1Min_spec  m.commit b ) Tryz.call111 true [] [] [] trivial ?_
                      refine At.c (spec_l1Max_spec  r.commit (min m.commit b) ) Tryz.call59 true [] [] [] trivial ?_
                      refine At.a 2 ?_
                      refine At.done rfl ⟨by kernel_rfl, ?_⟩
                      refine AW.r ?_
                      refine At.a 2 ?_
                      refine At.done rfl ?_
                      refine AW.r ?_
                      refine At.a 3 ?_
                      refine At.done rfl ?_
                      refine AW.seq ?_
                      refine AW.regionD Tryz_mix (At.start ?_)
                      refine At.a 7 ?_
                      refine At.litK (t := 38) (d := 199) (e := 51) (es := 17) (bytes := 168) (n := 1) (parts := #[(0, .tmp 198)]) (45, 6) 299 [5005] [.int .i64 m.from_, .int .i64 4, .int .i64 r.id, .int .i64 m.term, .int .i64 b, .int .i64 0, .int .i64 0, .bool true, .int .i64 0, .int .i64 0, .str (⟨#[]⟩ : ByteArray), .int .i64 0, .int .i64 0, .int .i64 0, .int .i64 0, .str (⟨#[]⟩ : ByteArray), .ref 5005] [.int .i64 m.from_, .int .i64 4, .int .i64 r.id, .int .i64 m.term, .int .i64 b, .int .i64 0, .int .i64 0, .bool true, .int .i64 0, .int .i64 0, .str (⟨#[]⟩ : ByteArray), .int .i64 0, .int .i64 0, .int .i64 0, .int .i64 0, .str (⟨#[]⟩ : ByteArray), .own 45 6 []] [.int .i64 0, .int .i64 0, .int .i64 0, .int .i64 0, .int .i64 0, .int .i64 0, .int .i64 0, .bool false, .int .i64 0, .int .i64 0, .str (⟨#[]⟩ : ByteArray), .int .i64 0, .int .i64 0, .int .i64 0, .int .i64 0, .str (⟨#[]⟩ : ByteArray), .nil] [.agg [.int .i64 m.from_, .int .i64 4, .int .i64 r.id, .int .i64 m.term, .int .i64 b, .int .i64 0, .int .i64 0, .bool true, .int .i64 0, .int .i64 0, .str (⟨#[]⟩ : ByteArray), .int .i64 0, .int .i64 0, .int .i64 0, .int .i64 0, .str (⟨#[]⟩ : ByteArray), .own 45 6 []]] [(45, 6, [])] (by kernel_rfl) (by kernel_rfl) (by kernel_rfl) (by kernel_rfl) (by kernel_rfl) (by intro p hp; simp only [List.mem_cons, List.not_mem_nil, or_false] at hp; subst hp; all_goals first | exact flatEnts | (intro x hx; cases hx)) (by kernel_rfl) ?_
                      refine At.append (t := 38) (d := 200) (e := 51) (es := 17) (bytes := 168) (s := .tmp 194) (x := .tmp 199) (S := .ref 118) (T := .ref 299) (xs := []) (ys := (([(⟨m.from_, ⟨4, r.id, m.term, b, 0, 0, true, 0, 0, (⟨#[]⟩ : ByteArray), ⟨0, 0, 0, 0, (⟨#[]⟩ : ByteArray)⟩, []⟩⟩ : Out)]).map encOut)) 300 [118] [299] (([(⟨m.from_, ⟨4, r.id, m.term, b, 0, 0, true, 0, 0, (⟨#[]⟩ : ByteArray), ⟨0, 0, 0, 0, (⟨#[]⟩ : ByteArray)⟩, []⟩⟩ : Out)]).map encOut) (by kernel_rfl) (by kernel_rfl) (by kernel_rfl) (by kernel_rfl) ⟨by kernel_rfl, rfl⟩ ⟨by kernel_rfl, .inr rfl⟩ (by kernel_rfl) (by kernel_rfl) (by simp) (by simp only [List.length_map, List.length_append, List.length_take, List.length_drop, List.length_replicate, List.length_set, List.length_cons, List.length_nil]; omega) (by simp only [List.length_map, List.length_append, List.length_take, List.length_drop, List.length_replicate, List.length_set, List.length_cons, List.length_nil]; omega) ?_
                      refine At.a 3 ?_
                      refine At.done rfl ⟨by kernel_rfl, ?_⟩
                      refine AW.ret ?_
                      refine ⟨_, Sub.refl _ _, ?_⟩
                      refine KF.conv (fun w => .tup [.agg [.int .i64 w.id, .int .i64 w.of_, .int .i64 w.role, .int .i64 w.commit, .int .i64 w.hard.term, .int .i64 w.hard.vote, .ref 0, .ref 1, .ref 2, .ref 3], .ref 4, .ref 5]) (fun w => [.arr 45 6 (w.hard.log.map encEnt), .arr 3 1 (w.yes.map encI), .arr 3 1 (w.next.map encI), .arr 3 1 (w.match_.map encI), .arr 47 10 (((sends r m).2.1).map encRec), .arr 51 17 (((sends r m).2.2).map encOut)]) (show ((⟨r.id, r.of_, 1, max r.commit (min m.commit b), ⟨r.hard.term, r.hard.vote, lg⟩, [], [], []⟩ : Raft)) = ((sends r m).1) from by rw [sends_spec0 (lg := lg) (rc := rc) (b := b) (sendB_of2 h1 h2) (by omega) (by omega) (by omega) (by assumption) (hR.trans (by first | (rw [List.drop_of_length_le (by omega)]; rfl) | (rw [dropCons (List.getElem?_eq_getElem (l := m.entries) (i := k) (by omega)), takeE_full (by omega) (by omega)])))]; first | done | rfl | (rw [endRecs_ne (by dsimp only; omega)]; rfl) | (rw [endRecs_eq rfl rfl]; done) | (rw [endRecs_eq rfl rfl]; rfl) | (rw [show r.hard.term = m.term from by omega]; rfl)) ?_
                      refine KF.conv (fun w => .tup [.agg [.int .i64 r.id, .int .i64 r.of_, .int .i64 1, .int .i64 (max r.commit (min m.commit b)), .int .i64 r.hard.term, .int .i64 r.hard.vote, .ref 0, .ref 1, .ref 2, .ref 3], .ref 4, .ref 5]) (fun w => [.arr 45 6 (lg.map encEnt), .arr 3 1 [], .arr 3 1 [], .arr 3 1 [], .arr 47 10 (w.map encRec), .arr 51 17 (((sends r m).2.2).map encOut)]) (show (rc) = ((sends r m).2.1) from by rw [sends_spec0 (lg := lg) (rc := rc) (b := b) (sendB_of2 h1 h2) (by omega) (by omega) (by omega) (by assumption) (hR.trans (by first | (rw [List.drop_of_length_le (by omega)]; rfl) | (rw [dropCons (List.getElem?_eq_getElem (l := m.entries) (i := k) (by omega)), takeE_full (by omega) (by omega)])))]; first | done | rfl | (rw [endRecs_ne (by dsimp only; omega)]; rfl) | (rw [endRecs_eq rfl rfl]; done) | (rw [endRecs_eq rfl rfl]; rfl) | (rw [show r.hard.term = m.term from by omega]; rfl)) ?_
                      refine KF.conv (fun w => .tup [.agg [.int .i64 r.id, .int .i64 r.of_, .int .i64 1, .int .i64 (max r.commit (min m.commit b)), .int .i64 r.hard.term, .int .i64 r.hard.vote, .ref 0, .ref 1, .ref 2, .ref 3], .ref 4, .ref 5]) (fun w => [.arr 45 6 (lg.map encEnt), .arr 3 1 [], .arr 3 1 [], .arr 3 1 [], .arr 47 10 (rc.map encRec), .arr 51 17 (w.map encOut)]) (show ([(⟨m.from_, ⟨4, r.id, m.term, b, 0, 0, true, 0, 0, (⟨#[]⟩ : ByteArray), ⟨0, 0, 0, 0, (⟨#[]⟩ : ByteArray)⟩, []⟩⟩ : Out)]) = ((sends r m).2.2) from by rw [sends_spec0 (lg := lg) (rc := rc) (b := b) (sendB_of2 h1 h2) (by omega) (by omega) (by omega) (by assumption) (hR.trans (by first | (rw [List.drop_of_length_le (by omega)]; rfl) | (rw [dropCons (List.getElem?_eq_getElem (l := m.entries) (i := k) (by omega)), takeE_full (by omega) (by omega)])))]; first | done | rfl | (rw [endRecs_ne (by dsimp only; omega)]; rfl) | (rw [endRecs_eq rfl rfl]; done) | (rw [endRecs_eq rfl rfl]; rfl) | (rw [show r.hard.term = m.term from by omega]; rfl)) ?_
                      exact KF.m [(1320, 0), (2500, 1), (2501, 2), (2502, 3), (117, 4), (300, 5)] [.agg [.int .i64 r.id, .int .i64 r.of_, .int .i64 1, .int .i64 (max r.commit (min m.commit b)), .int .i64 r.hard.term, .int .i64 r.hard.vote, .ref 1320, .ref 2500, .ref 2501, .ref 2502], .ref 117, .ref 300]
                    · skip
                      refine AW.skip ?_
                      refine AW.seq ?_
                      refine AW.regionD Tryz_mix (At.start ?_)
                      refine At.a 4 ?_
                      refine At.iSl 24 174 (.tmp 172) (.tmp 173) false 6 (m.entries.map encEnt) .i64 (k : Int) 45 (by omega) (by simp only [List.length_map, List.length_append, List.length_take, List.length_drop, List.length_replicate, List.length_set, List.length_cons, List.length_nil]; omega) ?_
                      refine Exists.elim (show ∃ e, m.entries[k]? = some e from ⟨_, List.getElem?_eq_getElem (by omega)⟩) fun e4 he4 => ?_
                      refine At.lVp 45 175 (.tmp 174) false 6 (m.entries.map encEnt) k 0 true 6 (encEnt e4) (.agg [.int .i64 e4.term, .int .i64 e4.cmd.kind, .int .i64 e4.cmd.release, .int .i64 e4.cmd.node, .int .i64 e4.cmd.size, .str e4.cmd.digest]) (mapGet he4) ?_
                      refine At.a 1 ?_
                      refine At.c (spec_l10Put_spec  (⟨r.id, r.of_, 1, r.commit, ⟨r.hard.term, r.hard.vote, lg⟩, [], [], []⟩ : Raft) e4 rc (by dsimp only; omega) (by omega)) Tryz.call105 true [(1320, 0), (2500, 1), (2501, 2), (2502, 3), (117, 4)] [(4540, 5), (4541, 6)] [] trivial ?_
                      refine At.a 5 ?_
                      refine At.done rfl ⟨by kernel_rfl, ?_⟩
                      refine AW.region (At.start ?_)
                      refine At.a 2 ?_
                      refine At.done rfl ?_
                      refine AW.region (At.start ?_)
                      refine At.a 2 ?_
                      refine At.sI 123 ((k : Int) + 1) (by omega) ?_
                      refine At.a 1 ?_
                      refine At.done rfl ?_
                      exact ⟨(k + 1, (b + 1), (lg ++ [e4]), (rc ++ [(⟨2, 0, 0, ((lg ++ [e4]).length : Int), e4⟩ : Rec)])), ⟨by omega, ⟨by omega, by simp only [List.length_append, List.length_take, List.length_cons, List.length_nil]; omega, by simp only [List.length_append, List.length_take, List.length_cons, List.length_nil]; omega, by simp only [List.length_append, List.length_cons, List.length_nil]; omega⟩, by rw [hR, dropCons (by assumption)]; exact takeE_put2 (by omega) (by omega) (by simp only [List.length_append, List.length_take, List.length_cons, List.length_nil]; omega)⟩, (by simp only; omega), Sub.o [(103, 103), (104, 104), (107, 107), (110, 110), (4541, 117), (118, 118), (4540, 1320), (2500, 2500), (2501, 2501), (2502, 2502), (5001, 5001), (5002, 5002), (5003, 5003), (5004, 5004), (5005, 5005)] [false, false, false, true, true, false, false, true, true, true, true, false, true, true]⟩
                · skip
                  refine AW.exit ?_
                  refine AW.seq ?_
                  refine AW.regionD Tryz_mix (At.start ?_)
                  refine At.a 5 ?_
                  refine At.c (spec_l1Min_spec  m.commit b ) Tryz.call111 true [] [] [] trivial ?_
                  refine At.c (spec_l1Max_spec  r.commit (min m.commit b) ) Tryz.call59 true [] [] [] trivial ?_
                  refine At.a 2 ?_
                  refine At.done rfl ⟨by kernel_rfl, ?_⟩
                  refine AW.r ?_
                  refine At.a 2 ?_
                  refine At.done rfl ?_
                  refine AW.r ?_
                  refine At.a 3 ?_
                  refine At.done rfl ?_
                  refine AW.seq ?_
                  refine AW.regionD Tryz_mix (At.start ?_)
                  refine At.a 7 ?_
                  refine At.litK (t := 38) (d := 199) (e := 51) (es := 17) (bytes := 168) (n := 1) (parts := #[(0, .tmp 198)]) (45, 6) 299 [5005] [.int .i64 m.from_, .int .i64 4, .int .i64 r.id, .int .i64 m.term, .int .i64 b, .int .i64 0, .int .i64 0, .bool true, .int .i64 0, .int .i64 0, .str (⟨#[]⟩ : ByteArray), .int .i64 0, .int .i64 0, .int .i64 0, .int .i64 0, .str (⟨#[]⟩ : ByteArray), .ref 5005] [.int .i64 m.from_, .int .i64 4, .int .i64 r.id, .int .i64 m.term, .int .i64 b, .int .i64 0, .int .i64 0, .bool true, .int .i64 0, .int .i64 0, .str (⟨#[]⟩ : ByteArray), .int .i64 0, .int .i64 0, .int .i64 0, .int .i64 0, .str (⟨#[]⟩ : ByteArray), .own 45 6 []] [.int .i64 0, .int .i64 0, .int .i64 0, .int .i64 0, .int .i64 0, .int .i64 0, .int .i64 0, .bool false, .int .i64 0, .int .i64 0, .str (⟨#[]⟩ : ByteArray), .int .i64 0, .int .i64 0, .int .i64 0, .int .i64 0, .str (⟨#[]⟩ : ByteArray), .nil] [.agg [.int .i64 m.from_, .int .i64 4, .int .i64 r.id, .int .i64 m.term, .int .i64 b, .int .i64 0, .int .i64 0, .bool true, .int .i64 0, .int .i64 0, .str (⟨#[]⟩ : ByteArray), .int .i64 0, .int .i64 0, .int .i64 0, .int .i64 0, .str (⟨#[]⟩ : ByteArray), .own 45 6 []]] [(45, 6, [])] (by kernel_rfl) (by kernel_rfl) (by kernel_rfl) (by kernel_rfl) (by kernel_rfl) (by intro p hp; simp only [List.mem_cons, List.not_mem_nil, or_false] at hp; subst hp; all_goals first | exact flatEnts | (intro x hx; cases hx)) (by kernel_rfl) ?_
                  refine At.append (t := 38) (d := 200) (e := 51) (es := 17) (bytes := 168) (s := .tmp 194) (x := .tmp 199) (S := .ref 118) (T := .ref 299) (xs := []) (ys := (([(⟨m.from_, ⟨4, r.id, m.term, b, 0, 0, true, 0, 0, (⟨#[]⟩ : ByteArray), ⟨0, 0, 0, 0, (⟨#[]⟩ : ByteArray)⟩, []⟩⟩ : Out)]).map encOut)) 300 [118] [299] (([(⟨m.from_, ⟨4, r.id, m.term, b, 0, 0, true, 0, 0, (⟨#[]⟩ : ByteArray), ⟨0, 0, 0, 0, (⟨#[]⟩ : ByteArray)⟩, []⟩⟩ : Out)]).map encOut) (by kernel_rfl) (by kernel_rfl) (by kernel_rfl) (by kernel_rfl) ⟨by kernel_rfl, rfl⟩ ⟨by kernel_rfl, .inr rfl⟩ (by kernel_rfl) (by kernel_rfl) (by simp) (by simp only [List.length_map, List.length_append, List.length_take, List.length_drop, List.length_replicate, List.length_set, List.length_cons, List.length_nil]; omega) (by simp only [List.length_map, List.length_append, List.length_take, List.length_drop, List.length_replicate, List.length_set, List.length_cons, List.length_nil]; omega) ?_
                  refine At.a 3 ?_
                  refine At.done rfl ⟨by kernel_rfl, ?_⟩
                  refine AW.ret ?_
                  refine ⟨_, Sub.refl _ _, ?_⟩
                  refine KF.conv (fun w => .tup [.agg [.int .i64 w.id, .int .i64 w.of_, .int .i64 w.role, .int .i64 w.commit, .int .i64 w.hard.term, .int .i64 w.hard.vote, .ref 0, .ref 1, .ref 2, .ref 3], .ref 4, .ref 5]) (fun w => [.arr 45 6 (w.hard.log.map encEnt), .arr 3 1 (w.yes.map encI), .arr 3 1 (w.next.map encI), .arr 3 1 (w.match_.map encI), .arr 47 10 (((sends r m).2.1).map encRec), .arr 51 17 (((sends r m).2.2).map encOut)]) (show ((⟨r.id, r.of_, 1, max r.commit (min m.commit b), ⟨r.hard.term, r.hard.vote, lg⟩, [], [], []⟩ : Raft)) = ((sends r m).1) from by rw [sends_spec0 (lg := lg) (rc := rc) (b := b) (sendB_of2 h1 h2) (by omega) (by omega) (by omega) (by assumption) (hR.trans (by first | (rw [List.drop_of_length_le (by omega)]; rfl) | (rw [dropCons (List.getElem?_eq_getElem (l := m.entries) (i := k) (by omega)), takeE_full (by omega) (by omega)])))]; first | done | rfl | (rw [endRecs_ne (by dsimp only; omega)]; rfl) | (rw [endRecs_eq rfl rfl]; done) | (rw [endRecs_eq rfl rfl]; rfl) | (rw [show r.hard.term = m.term from by omega]; rfl)) ?_
                  refine KF.conv (fun w => .tup [.agg [.int .i64 r.id, .int .i64 r.of_, .int .i64 1, .int .i64 (max r.commit (min m.commit b)), .int .i64 r.hard.term, .int .i64 r.hard.vote, .ref 0, .ref 1, .ref 2, .ref 3], .ref 4, .ref 5]) (fun w => [.arr 45 6 (lg.map encEnt), .arr 3 1 [], .arr 3 1 [], .arr 3 1 [], .arr 47 10 (w.map encRec), .arr 51 17 (((sends r m).2.2).map encOut)]) (show (rc) = ((sends r m).2.1) from by rw [sends_spec0 (lg := lg) (rc := rc) (b := b) (sendB_of2 h1 h2) (by omega) (by omega) (by omega) (by assumption) (hR.trans (by first | (rw [List.drop_of_length_le (by omega)]; rfl) | (rw [dropCons (List.getElem?_eq_getElem (l := m.entries) (i := k) (by omega)), takeE_full (by omega) (by omega)])))]; first | done | rfl | (rw [endRecs_ne (by dsimp only; omega)]; rfl) | (rw [endRecs_eq rfl rfl]; done) | (rw [endRecs_eq rfl rfl]; rfl) | (rw [show r.hard.term = m.term from by omega]; rfl)) ?_
                  refine KF.conv (fun w => .tup [.agg [.int .i64 r.id, .int .i64 r.of_, .int .i64 1, .int .i64 (max r.commit (min m.commit b)), .int .i64 r.hard.term, .int .i64 r.hard.vote, .ref 0, .ref 1, .ref 2, .ref 3], .ref 4, .ref 5]) (fun w => [.arr 45 6 (lg.map encEnt), .arr 3 1 [], .arr 3 1 [], .arr 3 1 [], .arr 47 10 (rc.map encRec), .arr 51 17 (w.map encOut)]) (show ([(⟨m.from_, ⟨4, r.id, m.term, b, 0, 0, true, 0, 0, (⟨#[]⟩ : ByteArray), ⟨0, 0, 0, 0, (⟨#[]⟩ : ByteArray)⟩, []⟩⟩ : Out)]) = ((sends r m).2.2) from by rw [sends_spec0 (lg := lg) (rc := rc) (b := b) (sendB_of2 h1 h2) (by omega) (by omega) (by omega) (by assumption) (hR.trans (by first | (rw [List.drop_of_length_le (by omega)]; rfl) | (rw [dropCons (List.getElem?_eq_getElem (l := m.entries) (i := k) (by omega)), takeE_full (by omega) (by omega)])))]; first | done | rfl | (rw [endRecs_ne (by dsimp only; omega)]; rfl) | (rw [endRecs_eq rfl rfl]; done) | (rw [endRecs_eq rfl rfl]; rfl) | (rw [show r.hard.term = m.term from by omega]; rfl)) ?_
                  exact KF.m [(1320, 0), (2500, 1), (2501, 2), (2502, 3), (117, 4), (300, 5)] [.agg [.int .i64 r.id, .int .i64 r.of_, .int .i64 1, .int .i64 (max r.commit (min m.commit b)), .int .i64 r.hard.term, .int .i64 r.hard.vote, .ref 1320, .ref 2500, .ref 2501, .ref 2502], .ref 117, .ref 300]
    · refine At.sB 23 (!(hears r m 3)) true (sayNT (sayB (Bool.eq_false_iff.2 h1))) ?_
      replace h1 := Bool.eq_false_iff.2 h1
      refine At.a 5 ?_
      refine At.done rfl ?_
      refine AW.cond true (by kernel_rfl) (fun _ => ?_) (fun h => by cases h)
      refine AW.r ?_
      refine At.a 6 ?_
      refine At.done rfl ?_
      refine AW.ret ?_
      refine ⟨_, Sub.refl _ _, ?_⟩
      refine KF.conv (fun w => .tup [.agg [.int .i64 w.id, .int .i64 w.of_, .int .i64 w.role, .int .i64 w.commit, .int .i64 w.hard.term, .int .i64 w.hard.vote, .ref 0, .ref 1, .ref 2, .ref 3], .ref 4, .ref 5]) (fun w => [.arr 45 6 (w.hard.log.map encEnt), .arr 3 1 (w.yes.map encI), .arr 3 1 (w.next.map encI), .arr 3 1 (w.match_.map encI), .arr 47 10 (((sends r m).2.1).map encRec), .arr 51 17 (((sends r m).2.2).map encOut)]) (show (r) = ((sends r m).1) from by rw [sends_no (sendB_not2 (by first | exact .inl (by assumption) | exact .inr (by assumption))) hok]; first | done | rfl | (rw [endRecs_ne (by dsimp only; omega)]; rfl) | (rw [endRecs_eq rfl rfl]; done) | (rw [endRecs_eq rfl rfl]; rfl) | (rw [show r.hard.term = m.term from by omega]; rfl)) ?_
      refine KF.conv (fun w => .tup [.agg [.int .i64 r.id, .int .i64 r.of_, .int .i64 r.role, .int .i64 r.commit, .int .i64 r.hard.term, .int .i64 r.hard.vote, .ref 0, .ref 1, .ref 2, .ref 3], .ref 4, .ref 5]) (fun w => [.arr 45 6 (r.hard.log.map encEnt), .arr 3 1 (r.yes.map encI), .arr 3 1 (r.next.map encI), .arr 3 1 (r.match_.map encI), .arr 47 10 (w.map encRec), .arr 51 17 (((sends r m).2.2).map encOut)]) (show ([]) = ((sends r m).2.1) from by rw [sends_no (sendB_not2 (by first | exact .inl (by assumption) | exact .inr (by assumption))) hok]; first | done | rfl | (rw [endRecs_ne (by dsimp only; omega)]; rfl) | (rw [endRecs_eq rfl rfl]; done) | (rw [endRecs_eq rfl rfl]; rfl) | (rw [show r.hard.term = m.term from by omega]; rfl)) ?_
      refine KF.conv (fun w => .tup [.agg [.int .i64 r.id, .int .i64 r.of_, .int .i64 r.role, .int .i64 r.commit, .int .i64 r.hard.term, .int .i64 r.hard.vote, .ref 0, .ref 1, .ref 2, .ref 3], .ref 4, .ref 5]) (fun w => [.arr 45 6 (r.hard.log.map encEnt), .arr 3 1 (r.yes.map encI), .arr 3 1 (r.next.map encI), .arr 3 1 (r.match_.map encI), .arr 47 10 [], .arr 51 17 (w.map encOut)]) (show ([]) = ((sends r m).2.2) from by rw [sends_no (sendB_not2 (by first | exact .inl (by assumption) | exact .inr (by assumption))) hok]; first | done | rfl | (rw [endRecs_ne (by dsimp only; omega)]; rfl) | (rw [endRecs_eq rfl rfl]; done) | (rw [endRecs_eq rfl rfl]; rfl) | (rw [show r.hard.term = m.term from by omega]; rfl)) ?_
      exact KF.m [(1320, 0), (1321, 1), (1322, 2), (1323, 3), (117, 4), (118, 5)] [.agg [.int .i64 r.id, .int .i64 r.of_, .int .i64 r.role, .int .i64 r.commit, .int .i64 r.hard.term, .int .i64 r.hard.vote, .ref 1320, .ref 1321, .ref 1322, .ref 1323], .ref 117, .ref 118]
  · skip
    refine AW.r ?_
    refine At.a 5 ?_
    refine At.done rfl ?_
    refine AW.seq ?_
    refine AW.weak (Sub.nils [⟨true, 104, some 6, 5001, 45, 6⟩, ⟨true, 104, some 7, 5002, 3, 1⟩, ⟨true, 104, some 8, 5003, 3, 1⟩, ⟨true, 104, some 9, 5004, 3, 1⟩] (by kernel_rfl)) ?_
    refine AW.region (At.start ?_)
    refine At.a 1 ?_
    refine At.c (spec_l10Same_F_spec  r hz hok) Tryz.call97 true [] [(1320, 0), (1321, 1), (1322, 2), (1323, 3)] [] trivial ?_
    refine At.lit0 (t := 37) (d := 17) (e := 47) (es := 10) (bytes := 88) 117 (by kernel_rfl) (by kernel_rfl) (by kernel_rfl) (by kernel_rfl) ?_
    refine At.lit0 (t := 38) (d := 18) (e := 51) (es := 17) (bytes := 168) 118 (by kernel_rfl) (by kernel_rfl) (by kernel_rfl) (by kernel_rfl) ?_
    refine At.a 4 ?_
    refine At.done rfl ?_
    refine AW.seq ?_
    refine AW.r ?_
    refine At.a 2 ?_
    refine At.c (spec_l10Hears_spec  r m 3 hz hm) Tryz.call108 true [] [] [] trivial ?_
    refine At.a 2 ?_
    refine At.sB 23 (!(hears r m 3)) true (sayB (by rw [show (hears r m 3) = false from (hears_no hok)]; rfl)) ?_
    refine At.a 5 ?_
    refine At.done rfl ?_
    refine AW.cond true (by kernel_rfl) (fun _ => ?_) (fun h => by cases h)
    refine AW.r ?_
    refine At.a 6 ?_
    refine At.done rfl ?_
    refine AW.ret ?_
    refine ⟨_, Sub.refl _ _, ?_⟩
    refine KF.conv (fun w => .tup [.agg [.int .i64 w.id, .int .i64 w.of_, .int .i64 w.role, .int .i64 w.commit, .int .i64 w.hard.term, .int .i64 w.hard.vote, .ref 0, .ref 1, .ref 2, .ref 3], .ref 4, .ref 5]) (fun w => [.arr 45 6 (w.hard.log.map encEnt), .arr 3 1 (w.yes.map encI), .arr 3 1 (w.next.map encI), .arr 3 1 (w.match_.map encI), .arr 47 10 (((sends r m).2.1).map encRec), .arr 51 17 (((sends r m).2.2).map encOut)]) (show ((⟨0, 0, 0, 0, ⟨0, 0, []⟩, [], [], []⟩ : Raft)) = ((sends r m).1) from by simp [sends, sendB, same, hok, hears_no hok]; try rfl) ?_
    refine KF.conv (fun w => .tup [.agg [.int .i64 0, .int .i64 0, .int .i64 0, .int .i64 0, .int .i64 0, .int .i64 0, .ref 0, .ref 1, .ref 2, .ref 3], .ref 4, .ref 5]) (fun w => [.arr 45 6 [], .arr 3 1 [], .arr 3 1 [], .arr 3 1 [], .arr 47 10 (w.map encRec), .arr 51 17 (((sends r m).2.2).map encOut)]) (show ([]) = ((sends r m).2.1) from by simp [sends, sendB, same, hok, hears_no hok]; try rfl) ?_
    refine KF.conv (fun w => .tup [.agg [.int .i64 0, .int .i64 0, .int .i64 0, .int .i64 0, .int .i64 0, .int .i64 0, .ref 0, .ref 1, .ref 2, .ref 3], .ref 4, .ref 5]) (fun w => [.arr 45 6 [], .arr 3 1 [], .arr 3 1 [], .arr 3 1 [], .arr 47 10 [], .arr 51 17 (w.map encOut)]) (show ([]) = ((sends r m).2.2) from by simp [sends, sendB, same, hok, hears_no hok]; try rfl) ?_
    exact KF.m [(1320, 0), (1321, 1), (1322, 2), (1323, 3), (117, 4), (118, 5)] [.agg [.int .i64 0, .int .i64 0, .int .i64 0, .int .i64 0, .int .i64 0, .int .i64 0, .ref 1320, .ref 1321, .ref 1322, .ref 1323], .ref 117, .ref 118]
set_option maxRecDepth 100000 in
set_option maxHeartbeats 4000000 in
theorem impl_copyLog_spec  (l : List Ent) (hl : l.length ≤ 1048576) : FnSpec Tryz.prog 162 [.sl false 6 (l.map encEnt)] [] (.ref 0) [.arr 45 6 (l.map encEnt)] := by
  refine FnSpec.of 6 Tryz.func162 rfl Tryz.ntmps162 (by simp) (AW.weakK ?_)
  refine AW.r ?_
  refine At.a 1 ?_
  refine At.done rfl ?_
  refine AW.r ?_
  refine At.lit0 (t := 24) (d := 3) (e := 45) (es := 6) (bytes := 56) 103 (by kernel_rfl) (by kernel_rfl) (by kernel_rfl) (by kernel_rfl) ?_
  refine At.a 1 ?_
  refine At.append (t := 24) (d := 5) (e := 45) (es := 6) (bytes := 56) (s := .tmp 3) (x := .tmp 4) (S := .ref 103) (T := .sl false 6 (l.map encEnt)) (xs := []) (ys := (l.map encEnt)) 105 [103] [] (l.map encEnt) (by kernel_rfl) (by kernel_rfl) (by kernel_rfl) (by kernel_rfl) ⟨by kernel_rfl, rfl⟩ ⟨rfl, rfl, (allP_encEnt _), rfl⟩ (by kernel_rfl) (by kernel_rfl) (by simp) (by simp only [List.length_map, List.length_append, List.length_take, List.length_drop, List.length_replicate, List.length_set, List.length_cons, List.length_nil]; omega) (by simp only [List.length_map, List.length_append, List.length_take, List.length_drop, List.length_replicate, List.length_set, List.length_cons, List.length_nil]; omega) ?_
  refine At.a 1 ?_
  refine At.done rfl ?_
  refine AW.ret ?_
  refine ⟨_, Sub.refl _ _, ?_⟩
  exact KF.m [(105, 0)] [.ref 105]
set_option maxRecDepth 100000 in
set_option maxHeartbeats 4000000 in
theorem impl_copyHard_spec  (h : Hard) (hl : h.log.length ≤ 1048576) : FnSpec Tryz.prog 175 [.agg [.int .i64 h.term, .int .i64 h.vote, .sl false 6 (h.log.map encEnt)]] [] (.agg [.int .i64 h.term, .int .i64 h.vote, .ref 0]) [.arr 45 6 (h.log.map encEnt)] := by
  refine FnSpec.of 8 Tryz.func175 rfl Tryz.ntmps175 (by simp) (AW.weakK ?_)
  refine AW.r ?_
  refine At.a 2 ?_
  refine At.done rfl ?_
  refine AW.seq ?_
  refine AW.weak (Sub.nils [⟨true, 102, some 2, 5001, 45, 6⟩] (by kernel_rfl)) ?_
  refine AW.region (At.start ?_)
  refine At.a 2 ?_
  refine At.c (impl_copyLog_spec  h.log (by omega)) Tryz.call162 true [] [(1100, 0)] [] trivial ?_
  refine At.a 2 ?_
  refine At.done rfl ?_
  refine AW.r ?_
  refine At.a 2 ?_
  refine At.done rfl ?_
  refine AW.ret ?_
  refine ⟨_, Sub.refl _ _, ?_⟩
  exact KF.m [(1100, 0)] [.agg [.int .i64 h.term, .int .i64 h.vote, .ref 1100]]
set_option maxRecDepth 100000 in
set_option maxHeartbeats 4000000 in
theorem impl_copyInts_spec  (l : List Int) (hl : l.length ≤ 1048576) : FnSpec Tryz.prog 176 [.sl false 1 (l.map encI)] [] (.ref 0) [.arr 3 1 (l.map encI)] := by
  refine FnSpec.of 6 Tryz.func176 rfl Tryz.ntmps176 (by simp) (AW.weakK ?_)
  refine AW.r ?_
  refine At.a 1 ?_
  refine At.done rfl ?_
  refine AW.r ?_
  refine At.lit0 (t := 27) (d := 3) (e := 3) (es := 1) (bytes := 8) 103 (by kernel_rfl) (by kernel_rfl) (by kernel_rfl) (by kernel_rfl) ?_
  refine At.a 1 ?_
  refine At.append (t := 27) (d := 5) (e := 3) (es := 1) (bytes := 8) (s := .tmp 3) (x := .tmp 4) (S := .ref 103) (T := .sl false 1 (l.map encI)) (xs := []) (ys := (l.map encI)) 105 [103] [] (l.map encI) (by kernel_rfl) (by kernel_rfl) (by kernel_rfl) (by kernel_rfl) ⟨by kernel_rfl, rfl⟩ ⟨rfl, rfl, (allP_encI _), rfl⟩ (by kernel_rfl) (by kernel_rfl) (by simp) (by simp only [List.length_map, List.length_append, List.length_take, List.length_drop, List.length_replicate, List.length_set, List.length_cons, List.length_nil]; omega) (by simp only [List.length_map, List.length_append, List.length_take, List.length_drop, List.length_replicate, List.length_set, List.length_cons, List.length_nil]; omega) ?_
  refine At.a 1 ?_
  refine At.done rfl ?_
  refine AW.ret ?_
  refine ⟨_, Sub.refl _ _, ?_⟩
  exact KF.m [(105, 0)] [.ref 105]
set_option maxRecDepth 100000 in
set_option maxHeartbeats 4000000 in
theorem impl_copyRaft_spec  (r : Raft) (hz : SmallR r) : FnSpec Tryz.prog 157 [.agg [.int .i64 r.id, .int .i64 r.of_, .int .i64 r.role, .int .i64 r.commit, .int .i64 r.hard.term, .int .i64 r.hard.vote, .sl false 6 (r.hard.log.map encEnt), .sl false 1 (r.yes.map encI), .sl false 1 (r.next.map encI), .sl false 1 (r.match_.map encI)]] [] (.agg [.int .i64 r.id, .int .i64 r.of_, .int .i64 r.role, .int .i64 r.commit, .int .i64 r.hard.term, .int .i64 r.hard.vote, .ref 0, .ref 1, .ref 2, .ref 3]) [.arr 45 6 (r.hard.log.map encEnt), .arr 3 1 (r.yes.map encI), .arr 3 1 (r.next.map encI), .arr 3 1 (r.match_.map encI)] := by
  obtain ⟨z1, z2, z3, z4⟩ := id hz
  refine FnSpec.of 20 Tryz.func157 rfl Tryz.ntmps157 (by simp) (AW.weakK ?_)
  refine AW.r ?_
  refine At.a 2 ?_
  refine At.done rfl ?_
  refine AW.seq ?_
  refine AW.weak (Sub.nils [⟨true, 102, some 6, 5001, 45, 6⟩, ⟨true, 102, some 7, 5002, 3, 1⟩, ⟨true, 102, some 8, 5003, 3, 1⟩, ⟨true, 102, some 9, 5004, 3, 1⟩] (by kernel_rfl)) ?_
  refine AW.region (At.start ?_)
  refine At.a 2 ?_
  refine At.c (impl_copyHard_spec  r.hard (by omega)) Tryz.call175 true [] [(1100, 0)] [] trivial ?_
  refine At.a 2 ?_
  refine At.done rfl ?_
  refine AW.seq ?_
  refine AW.regionD Tryz_mix (At.start ?_)
  refine At.a 2 ?_
  refine At.c (impl_copyInts_spec  r.yes (by omega)) Tryz.call176 true [] [(1180, 0)] [] trivial ?_
  refine At.a 2 ?_
  refine At.c (impl_copyInts_spec  r.next (by omega)) Tryz.call176 true [] [(1240, 0)] [] trivial ?_
  refine At.a 2 ?_
  refine At.c (impl_copyInts_spec  r.match_ (by omega)) Tryz.call176 true [] [(1300, 0)] [] trivial ?_
  refine At.a 6 ?_
  refine At.done rfl ⟨by kernel_rfl, ?_⟩
  refine AW.r ?_
  refine At.a 2 ?_
  refine At.done rfl ?_
  refine AW.ret ?_
  refine ⟨_, Sub.refl _ _, ?_⟩
  exact KF.m [(1100, 0), (1180, 1), (1240, 2), (1300, 3)] [.agg [.int .i64 r.id, .int .i64 r.of_, .int .i64 r.role, .int .i64 r.commit, .int .i64 r.hard.term, .int .i64 r.hard.vote, .ref 1100, .ref 1180, .ref 1240, .ref 1300]]
set_option maxRecDepth 100000 in
set_option maxHeartbeats 4000000 in
theorem impl_stepOf_spec  (r : Raft) (hz : SmallR r) : FnSpec Tryz.prog 80 [.agg [.int .i64 r.id, .int .i64 r.of_, .int .i64 r.role, .int .i64 r.commit, .int .i64 r.hard.term, .int .i64 r.hard.vote, .sl false 6 (r.hard.log.map encEnt), .sl false 1 (r.yes.map encI), .sl false 1 (r.next.map encI), .sl false 1 (r.match_.map encI)]] [] (.ptr 0 0 0) [.box 102 [.int .i64 r.id, .int .i64 r.of_, .int .i64 r.role, .int .i64 r.commit, .int .i64 r.hard.term, .int .i64 r.hard.vote, .ref 1, .ref 2, .ref 3, .ref 4, .int .i64 r.id, .int .i64 r.of_, .int .i64 r.role, .int .i64 r.commit, .int .i64 r.hard.term, .int .i64 r.hard.vote, .sl false 6 (r.hard.log.map encEnt), .sl false 1 (r.yes.map encI), .sl false 1 (r.next.map encI), .sl false 1 (r.match_.map encI), .ref 5, .ref 6], .arr 45 6 (r.hard.log.map encEnt), .arr 3 1 (r.yes.map encI), .arr 3 1 (r.next.map encI), .arr 3 1 (r.match_.map encI), .arr 47 10 [], .arr 51 17 []] := by
  obtain ⟨z1, z2, z3, z4⟩ := id hz
  refine FnSpec.of 8 Tryz.func80 rfl Tryz.ntmps80 (by simp) (AW.weakK ?_)
  refine AW.r ?_
  refine At.a 2 ?_
  refine At.done rfl ?_
  refine AW.seq ?_
  refine AW.regionD Tryz_mix (At.start ?_)
  refine At.a 1 ?_
  refine At.c (impl_copyRaft_spec  r (by omega)) Tryz.call157 true [] [(1080, 0), (1081, 1), (1082, 2), (1083, 3)] [] trivial ?_
  refine At.a 4 ?_
  refine At.done rfl ⟨by kernel_rfl, ?_⟩
  refine AW.ret ?_
  refine ⟨_, Sub.nils [⟨true, 107, some 20, 5001, 47, 10⟩, ⟨true, 107, some 21, 5002, 51, 17⟩] (by kernel_rfl), ?_⟩
  exact KF.m [(107, 0), (1080, 1), (1081, 2), (1082, 3), (1083, 4), (5001, 5), (5002, 6)] [.ptr 107 0 0]
set_option maxRecDepth 100000 in
set_option maxHeartbeats 4000000 in
theorem impl_isOf_spec  (of : Int) : FnSpec Tryz.prog 68 [.int .i64 of] [] (.bool (ofOk of)) [] := by
  refine FnSpec.of 13 Tryz.func68 rfl Tryz.ntmps68 (by simp) (AW.weakK ?_)
  refine AW.r ?_
  refine At.a 1 ?_
  refine At.done rfl ?_
  refine AW.r ?_
  refine At.a 3 ?_
  by_cases h1 : of = 1
  · refine At.sB 5 (of == 1) true (sayET h1) ?_
    refine At.a 8 ?_
    refine At.done rfl ?_
    refine AW.ret ?_
    refine ⟨_, Sub.refl _ _, ?_⟩
    refine KF.conv (fun w => .bool w) (fun w => []) (show (true) = (ofOk of) from by simp_all [ofOk]) ?_
    exact KF.m [] [.bool true]
  · refine At.sB 5 (of == 1) false (sayEF h1) ?_
    refine At.a 4 ?_
    by_cases h2 : of = 3
    · refine At.sB 9 (of == 3) true (sayET h2) ?_
      refine At.a 4 ?_
      refine At.done rfl ?_
      refine AW.ret ?_
      refine ⟨_, Sub.refl _ _, ?_⟩
      refine KF.conv (fun w => .bool w) (fun w => []) (show (true) = (ofOk of) from by simp_all [ofOk]) ?_
      exact KF.m [] [.bool true]
    · refine At.sB 9 (of == 3) false (sayEF h2) ?_
      refine At.a 4 ?_
      refine At.done rfl ?_
      refine AW.ret ?_
      refine ⟨_, Sub.refl _ _, ?_⟩
      refine KF.conv (fun w => .bool w) (fun w => []) (show (of == 5) = (ofOk of) from by simp_all [ofOk]) ?_
      exact KF.m [] [.bool (of == 5)]
set_option maxRecDepth 100000 in
set_option maxHeartbeats 4000000 in
theorem impl_within_spec  (n : Int) (low : Int) (high : Int) : FnSpec Tryz.prog 69 [.int .i64 n, .int .i64 low, .int .i64 high] [] (.bool (inR n low high)) [] := by
  refine FnSpec.of 15 Tryz.func69 rfl Tryz.ntmps69 (by simp) (AW.weakK ?_)
  refine AW.r ?_
  refine At.a 1 ?_
  refine At.done rfl ?_
  refine AW.r ?_
  refine At.a 4 ?_
  by_cases h1 : n ≥ low
  · refine At.sB 10 (decide (n ≥ low)) true (sayT h1) ?_
    refine At.a 5 ?_
    refine At.done rfl ?_
    refine AW.ret ?_
    refine ⟨_, Sub.refl _ _, ?_⟩
    refine KF.conv (fun w => .bool w) (fun w => []) (show (decide (n ≤ high)) = (inR n low high) from by simp [inR, *]) ?_
    exact KF.m [] [.bool (decide (n ≤ high))]
  · refine At.sB 10 (decide (n ≥ low)) false (sayF h1) ?_
    refine At.a 5 ?_
    refine At.done rfl ?_
    refine AW.ret ?_
    refine ⟨_, Sub.refl _ _, ?_⟩
    refine KF.conv (fun w => .bool w) (fun w => []) (show (false) = (inR n low high) from by simp [inR, *]) ?_
    exact KF.m [] [.bool false]
set_option maxRecDepth 100000 in
set_option maxHeartbeats 4000000 in
theorem impl_isRelease_spec  (n : Int) : FnSpec Tryz.prog 153 [.int .i64 n] [] (.bool (inR n 1 1000)) [] := by
  refine FnSpec.of 5 Tryz.func153 rfl Tryz.ntmps153 (by simp) (AW.weakK ?_)
  refine AW.r ?_
  refine At.a 1 ?_
  refine At.done rfl ?_
  refine AW.r ?_
  refine At.a 1 ?_
  refine At.c (impl_within_spec  n 1 1000 ) Tryz.call69 true [] [] [] trivial ?_
  refine At.a 1 ?_
  refine At.done rfl ?_
  refine AW.ret ?_
  refine ⟨_, Sub.refl _ _, ?_⟩
  exact KF.m [] [.bool (inR n 1 1000)]
set_option maxRecDepth 100000 in
set_option maxHeartbeats 4000000 in
theorem impl_isSize_spec  (n : Int) : FnSpec Tryz.prog 154 [.int .i64 n] [] (.bool (inR n 0 1000)) [] := by
  refine FnSpec.of 5 Tryz.func154 rfl Tryz.ntmps154 (by simp) (AW.weakK ?_)
  refine AW.r ?_
  refine At.a 1 ?_
  refine At.done rfl ?_
  refine AW.r ?_
  refine At.a 1 ?_
  refine At.c (impl_within_spec  n 0 1000 ) Tryz.call69 true [] [] [] trivial ?_
  refine At.a 1 ?_
  refine At.done rfl ?_
  refine AW.ret ?_
  refine ⟨_, Sub.refl _ _, ?_⟩
  exact KF.m [] [.bool (inR n 0 1000)]
set_option maxRecDepth 100000 in
set_option maxHeartbeats 4000000 in
theorem impl_isNode_spec  (n : Int) : FnSpec Tryz.prog 152 [.int .i64 n] [] (.bool (inR n 0 4)) [] := by
  refine FnSpec.of 5 Tryz.func152 rfl Tryz.ntmps152 (by simp) (AW.weakK ?_)
  refine AW.r ?_
  refine At.a 1 ?_
  refine At.done rfl ?_
  refine AW.r ?_
  refine At.a 1 ?_
  refine At.c (impl_within_spec  n 0 4 ) Tryz.call69 true [] [] [] trivial ?_
  refine At.a 1 ?_
  refine At.done rfl ?_
  refine AW.ret ?_
  refine ⟨_, Sub.refl _ _, ?_⟩
  exact KF.m [] [.bool (inR n 0 4)]
set_option maxRecDepth 100000 in
set_option maxHeartbeats 4000000 in
theorem impl_CmdOk_spec  (c : Cmd) : FnSpec Tryz.prog 101 [.agg [.int .i64 c.kind, .int .i64 c.release, .int .i64 c.node, .int .i64 c.size, .str c.digest]] [] (.bool (cmdOk c)) [] := by
  refine FnSpec.of 52 Tryz.func101 rfl Tryz.ntmps101 (by simp) (AW.weakK ?_)
  refine AW.r ?_
  refine At.a 2 ?_
  refine At.done rfl ?_
  refine AW.r ?_
  refine At.a 3 ?_
  refine At.done rfl ?_
  refine AW.r ?_
  refine At.a 4 ?_
  refine At.done rfl ?_
  refine AW.r ?_
  refine At.a 2 ?_
  refine At.c (impl_isRelease_spec  c.release ) Tryz.call153 true [] [] [] trivial ?_
  refine At.a 1 ?_
  refine At.done rfl ?_
  refine AW.seq ?_
  refine AW.r ?_
  refine At.a 2 ?_
  refine At.done rfl ?_
  refine AW.block ?_
  refine AW.r ?_
  refine At.a 2 ?_
  refine At.done rfl ?_
  refine AW.cE c.kind (1 : Int) (fun h1 => ?_) (fun h1 => ?_)
  · skip
    refine AW.region (At.start ?_)
    refine At.a 4 ?_
    refine At.done rfl ?_
    refine AW.r ?_
    refine At.a 2 ?_
    by_cases h2 : c.release = 0
    · refine At.sB 47 (c.release == 0) true (sayET h2) ?_
      refine At.a 2 ?_
      refine At.eqA (t := 31) (u := 31) (d := 50) (op := .eql) (x := .tmp 48) (y := .tmp 49) (X := [.int .i64 0, .int .i64 0, .int .i64 c.node, .int .i64 c.size, .str c.digest]) (Y := [.int .i64 0, .int .i64 0, .int .i64 0, .int .i64 0, .str (⟨#[]⟩ : ByteArray)]) (cmdEq (⟨0, 0, c.node, c.size, c.digest⟩ : Cmd) (⟨0, 0, 0, 0, (⟨#[]⟩ : ByteArray)⟩ : Cmd)) (by kernel_rfl) (by kernel_rfl) (by kernel_rfl) (by kernel_rfl) (by kernel_rfl) (.bool (cmdEq (⟨0, 0, c.node, c.size, c.digest⟩ : Cmd) (⟨0, 0, 0, 0, (⟨#[]⟩ : ByteArray)⟩ : Cmd))) (.inl ⟨rfl, rfl⟩) ?_
      refine At.a 2 ?_
      refine At.done rfl ?_
      refine AW.ret ?_
      refine ⟨_, Sub.refl _ _, ?_⟩
      refine KF.conv (fun w => .bool w) (fun w => []) (show (cmdEq (⟨0, 0, c.node, c.size, c.digest⟩ : Cmd) (⟨0, 0, 0, 0, (⟨#[]⟩ : ByteArray)⟩ : Cmd)) = (cmdOk c) from by (try simp only [inR_iff, inR_not] at *); rw [Bool.eq_iff_iff]; simp only [cmdOk, cmdEq, noBytes]; (repeat' split) <;> (try simp [inR_iff]) <;> grind) ?_
      exact KF.m [] [.bool (cmdEq (⟨0, 0, c.node, c.size, c.digest⟩ : Cmd) (⟨0, 0, 0, 0, (⟨#[]⟩ : ByteArray)⟩ : Cmd))]
    · refine At.sB 47 (c.release == 0) false (sayEF h2) ?_
      refine At.a 5 ?_
      refine At.done rfl ?_
      refine AW.ret ?_
      refine ⟨_, Sub.refl _ _, ?_⟩
      refine KF.conv (fun w => .bool w) (fun w => []) (show (false) = (cmdOk c) from by (try simp only [inR_iff, inR_not] at *); rw [Bool.eq_iff_iff]; simp only [cmdOk, cmdEq, noBytes]; (repeat' split) <;> (try simp [inR_iff]) <;> grind) ?_
      exact KF.m [] [.bool false]
  · skip
    refine AW.r ?_
    refine At.a 2 ?_
    refine At.done rfl ?_
    refine AW.cE c.kind (2 : Int) (fun h3 => ?_) (fun h3 => ?_)
    · skip
      refine AW.r ?_
      refine At.a 2 ?_
      by_cases h4 : (inR c.release 1 1000) = true
      · refine At.sB 21 (inR c.release 1 1000) true (sayB h4) ?_
        refine At.a 2 ?_
        refine At.c (impl_isSize_spec  c.size ) Tryz.call154 true [] [] [] trivial ?_
        refine At.a 2 ?_
        by_cases h5 : (inR c.size 0 1000) = true
        · refine At.sB 26 (inR c.size 0 1000) true (sayB h5) ?_
          refine At.a 6 ?_
          refine At.done rfl ?_
          refine AW.region (At.start ?_)
          refine At.a 4 ?_
          refine At.done rfl ?_
          refine AW.r ?_
          refine At.a 2 ?_
          by_cases h6 : (c.digest.size : Int) = 32
          · refine At.sB 47 ((c.digest.size : Int) == 32) true (sayET h6) ?_
            refine At.a 2 ?_
            refine At.eqA (t := 31) (u := 31) (d := 50) (op := .eql) (x := .tmp 48) (y := .tmp 49) (X := [.int .i64 0, .int .i64 0, .int .i64 c.node, .int .i64 0, .str (⟨#[]⟩ : ByteArray)]) (Y := [.int .i64 0, .int .i64 0, .int .i64 0, .int .i64 0, .str (⟨#[]⟩ : ByteArray)]) (cmdEq (⟨0, 0, c.node, 0, (⟨#[]⟩ : ByteArray)⟩ : Cmd) (⟨0, 0, 0, 0, (⟨#[]⟩ : ByteArray)⟩ : Cmd)) (by kernel_rfl) (by kernel_rfl) (by kernel_rfl) (by kernel_rfl) (by kernel_rfl) (.bool (cmdEq (⟨0, 0, c.node, 0, (⟨#[]⟩ : ByteArray)⟩ : Cmd) (⟨0, 0, 0, 0, (⟨#[]⟩ : ByteArray)⟩ : Cmd))) (.inl ⟨rfl, rfl⟩) ?_
            refine At.a 2 ?_
            refine At.done rfl ?_
            refine AW.ret ?_
            refine ⟨_, Sub.refl _ _, ?_⟩
            refine KF.conv (fun w => .bool w) (fun w => []) (show (cmdEq (⟨0, 0, c.node, 0, (⟨#[]⟩ : ByteArray)⟩ : Cmd) (⟨0, 0, 0, 0, (⟨#[]⟩ : ByteArray)⟩ : Cmd)) = (cmdOk c) from by (try simp only [inR_iff, inR_not] at *); rw [Bool.eq_iff_iff]; simp only [cmdOk, cmdEq, noBytes]; (repeat' split) <;> (try simp [inR_iff]) <;> grind) ?_
            exact KF.m [] [.bool (cmdEq (⟨0, 0, c.node, 0, (⟨#[]⟩ : ByteArray)⟩ : Cmd) (⟨0, 0, 0, 0, (⟨#[]⟩ : ByteArray)⟩ : Cmd))]
          · refine At.sB 47 ((c.digest.size : Int) == 32) false (sayEF h6) ?_
            refine At.a 5 ?_
            refine At.done rfl ?_
            refine AW.ret ?_
            refine ⟨_, Sub.refl _ _, ?_⟩
            refine KF.conv (fun w => .bool w) (fun w => []) (show (false) = (cmdOk c) from by (try simp only [inR_iff, inR_not] at *); rw [Bool.eq_iff_iff]; simp only [cmdOk, cmdEq, noBytes]; (repeat' split) <;> (try simp [inR_iff]) <;> grind) ?_
            exact KF.m [] [.bool false]
        · refine At.sB 26 (inR c.size 0 1000) false (sayB (Bool.eq_false_iff.2 h5)) ?_
          replace h5 := Bool.eq_false_iff.2 h5
          refine At.a 6 ?_
          refine At.done rfl ?_
          refine AW.region (At.start ?_)
          refine At.a 4 ?_
          refine At.done rfl ?_
          refine AW.r ?_
          refine At.a 7 ?_
          refine At.done rfl ?_
          refine AW.ret ?_
          refine ⟨_, Sub.refl _ _, ?_⟩
          refine KF.conv (fun w => .bool w) (fun w => []) (show (false) = (cmdOk c) from by (try simp only [inR_iff, inR_not] at *); rw [Bool.eq_iff_iff]; simp only [cmdOk, cmdEq, noBytes]; (repeat' split) <;> (try simp [inR_iff]) <;> grind) ?_
          exact KF.m [] [.bool false]
      · refine At.sB 21 (inR c.release 1 1000) false (sayB (Bool.eq_false_iff.2 h4)) ?_
        replace h4 := Bool.eq_false_iff.2 h4
        refine At.a 11 ?_
        refine At.done rfl ?_
        refine AW.region (At.start ?_)
        refine At.a 4 ?_
        refine At.done rfl ?_
        refine AW.r ?_
        refine At.a 7 ?_
        refine At.done rfl ?_
        refine AW.ret ?_
        refine ⟨_, Sub.refl _ _, ?_⟩
        refine KF.conv (fun w => .bool w) (fun w => []) (show (false) = (cmdOk c) from by (try simp only [inR_iff, inR_not] at *); rw [Bool.eq_iff_iff]; simp only [cmdOk, cmdEq, noBytes]; (repeat' split) <;> (try simp [inR_iff]) <;> grind) ?_
        exact KF.m [] [.bool false]
    · skip
      refine AW.r ?_
      refine At.a 2 ?_
      refine At.done rfl ?_
      refine AW.cE c.kind (3 : Int) (fun h7 => ?_) (fun h7 => ?_)
      · skip
        refine AW.r ?_
        refine At.a 2 ?_
        by_cases h8 : (inR c.release 1 1000) = true
        · refine At.sB 37 (inR c.release 1 1000) true (sayB h8) ?_
          refine At.a 2 ?_
          refine At.c (impl_isNode_spec  c.node ) Tryz.call152 true [] [] [] trivial ?_
          refine At.a 2 ?_
          refine At.done rfl ?_
          refine AW.region (At.start ?_)
          refine At.a 2 ?_
          refine At.done rfl ?_
          refine AW.r ?_
          refine At.a 2 ?_
          by_cases h9 : (inR c.node 0 4) = true
          · refine At.sB 47 (inR c.node 0 4) true (sayB h9) ?_
            refine At.a 2 ?_
            refine At.eqA (t := 31) (u := 31) (d := 50) (op := .eql) (x := .tmp 48) (y := .tmp 49) (X := [.int .i64 0, .int .i64 0, .int .i64 0, .int .i64 c.size, .str c.digest]) (Y := [.int .i64 0, .int .i64 0, .int .i64 0, .int .i64 0, .str (⟨#[]⟩ : ByteArray)]) (cmdEq (⟨0, 0, 0, c.size, c.digest⟩ : Cmd) (⟨0, 0, 0, 0, (⟨#[]⟩ : ByteArray)⟩ : Cmd)) (by kernel_rfl) (by kernel_rfl) (by kernel_rfl) (by kernel_rfl) (by kernel_rfl) (.bool (cmdEq (⟨0, 0, 0, c.size, c.digest⟩ : Cmd) (⟨0, 0, 0, 0, (⟨#[]⟩ : ByteArray)⟩ : Cmd))) (.inl ⟨rfl, rfl⟩) ?_
            refine At.a 2 ?_
            refine At.done rfl ?_
            refine AW.ret ?_
            refine ⟨_, Sub.refl _ _, ?_⟩
            refine KF.conv (fun w => .bool w) (fun w => []) (show (cmdEq (⟨0, 0, 0, c.size, c.digest⟩ : Cmd) (⟨0, 0, 0, 0, (⟨#[]⟩ : ByteArray)⟩ : Cmd)) = (cmdOk c) from by (try simp only [inR_iff, inR_not] at *); rw [Bool.eq_iff_iff]; simp only [cmdOk, cmdEq, noBytes]; (repeat' split) <;> (try simp [inR_iff]) <;> grind) ?_
            exact KF.m [] [.bool (cmdEq (⟨0, 0, 0, c.size, c.digest⟩ : Cmd) (⟨0, 0, 0, 0, (⟨#[]⟩ : ByteArray)⟩ : Cmd))]
          · refine At.sB 47 (inR c.node 0 4) false (sayB (Bool.eq_false_iff.2 h9)) ?_
            replace h9 := Bool.eq_false_iff.2 h9
            refine At.a 5 ?_
            refine At.done rfl ?_
            refine AW.ret ?_
            refine ⟨_, Sub.refl _ _, ?_⟩
            refine KF.conv (fun w => .bool w) (fun w => []) (show (false) = (cmdOk c) from by (try simp only [inR_iff, inR_not] at *); rw [Bool.eq_iff_iff]; simp only [cmdOk, cmdEq, noBytes]; (repeat' split) <;> (try simp [inR_iff]) <;> grind) ?_
            exact KF.m [] [.bool false]
        · refine At.sB 37 (inR c.release 1 1000) false (sayB (Bool.eq_false_iff.2 h8)) ?_
          replace h8 := Bool.eq_false_iff.2 h8
          refine At.a 5 ?_
          refine At.done rfl ?_
          refine AW.region (At.start ?_)
          refine At.a 2 ?_
          refine At.done rfl ?_
          refine AW.r ?_
          refine At.a 7 ?_
          refine At.done rfl ?_
          refine AW.ret ?_
          refine ⟨_, Sub.refl _ _, ?_⟩
          refine KF.conv (fun w => .bool w) (fun w => []) (show (false) = (cmdOk c) from by (try simp only [inR_iff, inR_not] at *); rw [Bool.eq_iff_iff]; simp only [cmdOk, cmdEq, noBytes]; (repeat' split) <;> (try simp [inR_iff]) <;> grind) ?_
          exact KF.m [] [.bool false]
      · skip
        refine AW.seq ?_
        refine AW.r ?_
        refine At.a 2 ?_
        refine At.done rfl ?_
        refine AW.cE c.kind (4 : Int) (fun h10 => ?_) (fun h10 => ?_)
        · skip
          refine AW.skip ?_
          refine AW.cE c.kind (4 : Int) (fun h11 => ?_) (fun h11 => ?_)
          · skip
            refine AW.skip ?_
            refine AW.r ?_
            refine At.a 2 ?_
            by_cases h12 : (inR c.release 1 1000) = true
            · refine At.sB 47 (inR c.release 1 1000) true (sayB h12) ?_
              refine At.a 2 ?_
              refine At.eqA (t := 31) (u := 31) (d := 50) (op := .eql) (x := .tmp 48) (y := .tmp 49) (X := [.int .i64 0, .int .i64 0, .int .i64 c.node, .int .i64 c.size, .str c.digest]) (Y := [.int .i64 0, .int .i64 0, .int .i64 0, .int .i64 0, .str (⟨#[]⟩ : ByteArray)]) (cmdEq (⟨0, 0, c.node, c.size, c.digest⟩ : Cmd) (⟨0, 0, 0, 0, (⟨#[]⟩ : ByteArray)⟩ : Cmd)) (by kernel_rfl) (by kernel_rfl) (by kernel_rfl) (by kernel_rfl) (by kernel_rfl) (.bool (cmdEq (⟨0, 0, c.node, c.size, c.digest⟩ : Cmd) (⟨0, 0, 0, 0, (⟨#[]⟩ : ByteArray)⟩ : Cmd))) (.inl ⟨rfl, rfl⟩) ?_
              refine At.a 2 ?_
              refine At.done rfl ?_
              refine AW.ret ?_
              refine ⟨_, Sub.refl _ _, ?_⟩
              refine KF.conv (fun w => .bool w) (fun w => []) (show (cmdEq (⟨0, 0, c.node, c.size, c.digest⟩ : Cmd) (⟨0, 0, 0, 0, (⟨#[]⟩ : ByteArray)⟩ : Cmd)) = (cmdOk c) from by (try simp only [inR_iff, inR_not] at *); rw [Bool.eq_iff_iff]; simp only [cmdOk, cmdEq, noBytes]; (repeat' split) <;> (try simp [inR_iff]) <;> grind) ?_
              exact KF.m [] [.bool (cmdEq (⟨0, 0, c.node, c.size, c.digest⟩ : Cmd) (⟨0, 0, 0, 0, (⟨#[]⟩ : ByteArray)⟩ : Cmd))]
            · refine At.sB 47 (inR c.release 1 1000) false (sayB (Bool.eq_false_iff.2 h12)) ?_
              replace h12 := Bool.eq_false_iff.2 h12
              refine At.a 5 ?_
              refine At.done rfl ?_
              refine AW.ret ?_
              refine ⟨_, Sub.refl _ _, ?_⟩
              refine KF.conv (fun w => .bool w) (fun w => []) (show (false) = (cmdOk c) from by (try simp only [inR_iff, inR_not] at *); rw [Bool.eq_iff_iff]; simp only [cmdOk, cmdEq, noBytes]; (repeat' split) <;> (try simp [inR_iff]) <;> grind) ?_
              exact KF.m [] [.bool false]
          · skip
            refine AW.r ?_
            refine At.a 1 ?_
            refine At.done rfl ?_
            refine AW.ret ?_
            refine ⟨_, Sub.refl _ _, ?_⟩
            refine KF.conv (fun w => .bool w) (fun w => []) (show (false) = (cmdOk c) from by (try simp only [inR_iff, inR_not] at *); rw [Bool.eq_iff_iff]; simp only [cmdOk, cmdEq, noBytes]; (repeat' split) <;> (try simp [inR_iff]) <;> grind) ?_
            exact KF.m [] [.bool false]
        · skip
          refine AW.region (At.start ?_)
          refine At.a 2 ?_
          refine At.done rfl ?_
          refine AW.cE c.kind (5 : Int) (fun h13 => ?_) (fun h13 => ?_)
          · skip
            refine AW.skip ?_
            refine AW.r ?_
            refine At.a 2 ?_
            by_cases h14 : (inR c.release 1 1000) = true
            · refine At.sB 47 (inR c.release 1 1000) true (sayB h14) ?_
              refine At.a 2 ?_
              refine At.eqA (t := 31) (u := 31) (d := 50) (op := .eql) (x := .tmp 48) (y := .tmp 49) (X := [.int .i64 0, .int .i64 0, .int .i64 c.node, .int .i64 c.size, .str c.digest]) (Y := [.int .i64 0, .int .i64 0, .int .i64 0, .int .i64 0, .str (⟨#[]⟩ : ByteArray)]) (cmdEq (⟨0, 0, c.node, c.size, c.digest⟩ : Cmd) (⟨0, 0, 0, 0, (⟨#[]⟩ : ByteArray)⟩ : Cmd)) (by kernel_rfl) (by kernel_rfl) (by kernel_rfl) (by kernel_rfl) (by kernel_rfl) (.bool (cmdEq (⟨0, 0, c.node, c.size, c.digest⟩ : Cmd) (⟨0, 0, 0, 0, (⟨#[]⟩ : ByteArray)⟩ : Cmd))) (.inl ⟨rfl, rfl⟩) ?_
              refine At.a 2 ?_
              refine At.done rfl ?_
              refine AW.ret ?_
              refine ⟨_, Sub.refl _ _, ?_⟩
              refine KF.conv (fun w => .bool w) (fun w => []) (show (cmdEq (⟨0, 0, c.node, c.size, c.digest⟩ : Cmd) (⟨0, 0, 0, 0, (⟨#[]⟩ : ByteArray)⟩ : Cmd)) = (cmdOk c) from by (try simp only [inR_iff, inR_not] at *); rw [Bool.eq_iff_iff]; simp only [cmdOk, cmdEq, noBytes]; (repeat' split) <;> (try simp [inR_iff]) <;> grind) ?_
              exact KF.m [] [.bool (cmdEq (⟨0, 0, c.node, c.size, c.digest⟩ : Cmd) (⟨0, 0, 0, 0, (⟨#[]⟩ : ByteArray)⟩ : Cmd))]
            · refine At.sB 47 (inR c.release 1 1000) false (sayB (Bool.eq_false_iff.2 h14)) ?_
              replace h14 := Bool.eq_false_iff.2 h14
              refine At.a 5 ?_
              refine At.done rfl ?_
              refine AW.ret ?_
              refine ⟨_, Sub.refl _ _, ?_⟩
              refine KF.conv (fun w => .bool w) (fun w => []) (show (false) = (cmdOk c) from by (try simp only [inR_iff, inR_not] at *); rw [Bool.eq_iff_iff]; simp only [cmdOk, cmdEq, noBytes]; (repeat' split) <;> (try simp [inR_iff]) <;> grind) ?_
              exact KF.m [] [.bool false]
          · skip
            refine AW.r ?_
            refine At.a 1 ?_
            refine At.done rfl ?_
            refine AW.ret ?_
            refine ⟨_, Sub.refl _ _, ?_⟩
            refine KF.conv (fun w => .bool w) (fun w => []) (show (false) = (cmdOk c) from by (try simp only [inR_iff, inR_not] at *); rw [Bool.eq_iff_iff]; simp only [cmdOk, cmdEq, noBytes]; (repeat' split) <;> (try simp [inR_iff]) <;> grind) ?_
            exact KF.m [] [.bool false]
set_option maxRecDepth 100000 in
set_option maxHeartbeats 4000000 in
theorem impl_lastTerm_spec  (l : List Ent) (hl : l.length ≤ 1048576) : FnSpec Tryz.prog 113 [.sl false 6 (l.map encEnt)] [] (.int .i64 (lastT l)) [] := by
  refine FnSpec.of 13 Tryz.func113 rfl Tryz.ntmps113 (by simp) (AW.weakK ?_)
  refine AW.r ?_
  refine At.a 1 ?_
  refine At.done rfl ?_
  refine AW.seq ?_
  refine AW.r ?_
  refine At.a 2 ?_
  refine At.sL 4 encEnt l ?_
  refine At.a 1 ?_
  refine At.done rfl ?_
  refine AW.cE (l.length : Int) (0 : Int) (fun h1 => ?_) (fun h1 => ?_)
  · skip
    refine AW.r ?_
    refine At.a 1 ?_
    refine At.done rfl ?_
    refine AW.ret ?_
    refine ⟨_, Sub.refl _ _, ?_⟩
    refine KF.conv (fun w => .int .i64 w) (fun w => []) (show (0) = (lastT l) from by obtain rfl := List.length_eq_zero_iff.1 (show l.length = 0 by omega); rfl) ?_
    exact KF.m [] [.int .i64 0]
  · skip
    refine AW.skip ?_
    refine AW.r ?_
    refine At.a 3 ?_
    refine At.sL 8 encEnt l ?_
    refine At.a 1 ?_
    refine At.sI 9 ((l.length : Int) - 1) (by omega) ?_
    refine At.iSl 24 10 (.tmp 6) (.tmp 9) false 6 (l.map encEnt) .i64 ((l.length : Int) - 1) 45 (by omega) (by simp only [List.length_map, List.length_append, List.length_take, List.length_drop, List.length_replicate, List.length_set, List.length_cons, List.length_nil]; omega) ?_
    refine At.a 1 ?_
    refine Exists.elim (show ∃ e, l[((l.length : Int) - 1).toNat]? = some e from ⟨_, List.getElem?_eq_getElem (by omega)⟩) fun e1 he1 => ?_
    refine At.lVp 3 12 (.tmp 11) false 6 (l.map encEnt) (((l.length : Int) - 1).toNat) 0 false 1 (encEnt e1) (.int .i64 e1.term) (mapGet he1) ?_
    refine At.a 1 ?_
    refine At.done rfl ?_
    refine AW.ret ?_
    refine ⟨_, Sub.refl _ _, ?_⟩
    refine KF.conv (fun w => .int .i64 w) (fun w => []) (show (e1.term) = (lastT l) from by rw [show ((l.length : Int) - 1).toNat = l.length - 1 from by omega] at he1; simp [lastT, he1]) ?_
    exact KF.m [] [.int .i64 e1.term]
set_option maxRecDepth 100000 in
set_option maxHeartbeats 4000000 in
theorem impl_isWhole_spec  (n : Int) : FnSpec Tryz.prog 150 [.int .i64 n] [] (.bool (inR n 0 1000000000)) [] := by
  refine FnSpec.of 5 Tryz.func150 rfl Tryz.ntmps150 (by simp) (AW.weakK ?_)
  refine AW.r ?_
  refine At.a 1 ?_
  refine At.done rfl ?_
  refine AW.r ?_
  refine At.a 1 ?_
  refine At.c (impl_within_spec  n 0 1000000000 ) Tryz.call69 true [] [] [] trivial ?_
  refine At.a 1 ?_
  refine At.done rfl ?_
  refine AW.ret ?_
  refine ⟨_, Sub.refl _ _, ?_⟩
  exact KF.m [] [.bool (inR n 0 1000000000)]
end Go.Proofs.YtlmadhahghiedaaGreat
