/- The contracts of the functions that FnRecsTell reaches (each: what it answers, said over values), printed by a program of this session (wip/sy/g/gen.py). -/
import Derived.Test.YtocjgmdfocaamaaGreatFFnRecsTell2
set_option linter.unusedVariables false
set_option linter.unusedSimpArgs false
set_option maxRecDepth 100000
set_option maxHeartbeats 4000000
namespace Go.Proofs.YtocjgmdfocaamaaGreat
open Go Go.Sy Go.Proofs
def K_spec_OnSend (rs : List ResultVar) (r : Raft) (m : Msg) (w0_ : Raft) (w1_ : List Rec) (w2_ : List Out) : Exit → Sg → Prop := KF Tryz.prog 0 rs (.tup [.agg (rC w0_ (.ref 0) (.ref 1) (.ref 2) (.ref 3)), .ref 4, .ref 5]) [.arr 45 6 (w0_.hard.log.map encEnt), .arr 3 1 (w0_.yes.map encI), .arr 3 1 (w0_.next.map encI), .arr 3 1 (w0_.match_.map encI), .arr 47 10 (w1_.map encRec), .arr 51 17 (w2_.map encOut)]
theorem spec_OnSend_spec (r : Raft) (m : Msg) (hz : SmallR r) (hm : m.entries.length ≤ 1048576) : FnSpec Tryz.prog 109 [(raftA r), (msgA m)] [] (.tup [.agg (rC ((sends r m).1) (.ref 0) (.ref 1) (.ref 2) (.ref 3)), .ref 4, .ref 5]) [.arr 45 6 ((((sends r m).1).hard.log).map encEnt), .arr 3 1 ((((sends r m).1).yes).map encI), .arr 3 1 ((((sends r m).1).next).map encI), .arr 3 1 ((((sends r m).1).match_).map encI), .arr 47 10 (((sends r m).2.1).map encRec), .arr 51 17 (((sends r m).2.2).map encOut)]:= by
 obtain ⟨z1, z2, z3, z4⟩ := id hz
 refine FnSpec.of 201 Tryz.func109 rfl Tryz.ntmps109 (by simp) (AW.weakK ?_)
 by_cases hok : raftOk r = true
 · have hokn := raftOk1_nums (raftOk_1 hok)
   refine AW.q 5 <| AW.seq <| AW.weak (Sub.nils [⟨true, 104, some 6, 5001, 45, 6⟩, ⟨true, 104, some 7, 5002, 3, 1⟩, ⟨true, 104, some 8, 5003, 3, 1⟩, ⟨true, 104, some 9, 5004, 3, 1⟩] (by kernel_rfl)) <| AW.g <| At.a 1 <| At.c (spec_l10Same_T_spec r hz hok) Tryz.call101 true [] (fr 1320 0 4) [] trivial <| At.l0 37 17 47 10 88 117 <| At.l0 38 18 51 17 168 118 <| At.z 4 <| AW.seq <| AW.r <| At.a 2 <| At.c (spec_l10Hears_spec r m 3 hz hm) Tryz.call129 true [] [] [] trivial <| At.a 2 ?_
   by_cases h1 : (hears r m 3) = true
   · refine At.sB 23 (!(hears r m 3)) false (sayNF (sayB h1)) ?_
     have hhr := hears_ok h1
     have hnu := msgFits_nums hhr.2.1
     refine At.a 2 <| At.c (spec_l10Fits_spec r m hz hm hnu.2.1 (by omega)) Tryz.call132 true [] [] [] trivial <| At.z 2 <| AW.cNB (rowB m && !cutsB r m) (fun h2 => ?_) (fun h2 => ?_)
     · exact AW.q 6 <| AW.ret (rf (k3 (K_spec_OnSend _ r m) (show (r) = _ from by rw [sends_no (sendB_not2 (by exact .inr (by assumption))) hok]) (show ([]) = _ from by rw [sends_no (sendB_not2 (by exact .inr (by assumption))) hok]) (show ([]) = _ from by rw [sends_no (sendB_not2 (by exact .inr (by assumption))) hok]) (KF.n [(1320, 0), (1321, 1), (1322, 2), (1323, 3), (117, 4), (118, 5)])))
     refine AW.skip <| AW.q 8 <| AW.seq <| AW.seq <| AW.weak (Sub.nils [⟨true, 110, some 15, 5005, 45, 6⟩] (by kernel_rfl)) <| AW.gq 6 <| AW.cD (m.term < r.hard.term) (fun h3 => ?_) (fun h3 => ?_)
     · exact AW.seq <| AW.gD Tryz_mix <| At.a 7 <| At.lk 51 51 17 151 (45, 6) [5005] (([(⟨m.from_, ⟨4, r.id, r.hard.term, 0, 0, 0, false, 0, 0, eB, ⟨0, 0, 0, 0, eB⟩, []⟩⟩ : Out)]).map encOut) [(45, 6, [])] (by intro p hp; simp only [List.mem_cons, List.not_mem_nil, or_false] at hp; subst hp; all_goals (intro x hx; cases hx)) <| At.apK 52 51 17 168 152 118 151 encOut ([] : List Out) ([(⟨m.from_, ⟨4, r.id, r.hard.term, 0, 0, 0, false, 0, 0, eB, ⟨0, 0, 0, 0, eB⟩, []⟩⟩ : Out)]) (by simp only [List.length_map, lens]; omega) <| At.zD 3 <| AW.ret (rf (k3 (K_spec_OnSend _ r m) (show (r) = _ from by rw [sends_old (sendB_of2 h1 h2) (by omega)]) (show ([]) = _ from by rw [sends_old (sendB_of2 h1 h2) (by omega)]) (show ([(⟨m.from_, ⟨4, r.id, r.hard.term, 0, 0, 0, false, 0, 0, eB, ⟨0, 0, 0, 0, eB⟩, []⟩⟩ : Out)]) = _ from by rw [sends_old (sendB_of2 h1 h2) (by omega)]; rfl) (KF.n [(1320, 0), (1321, 1), (1322, 2), (1323, 3), (117, 4), (152, 5)])))
     refine AW.skip <| AW.seq <| AW.q 6 <| AW.cD (m.term > r.hard.term) (fun h4 => ?_) (fun h4 => ?_)
     · refine AW.r <| At.a 3 <| At.c (spec_l10Follow_spec r m.term) Tryz.call130 true (fr 1320 0 4) (fr 2240 4 3) [] trivial <| At.z 1 <| AW.g <| At.a 2 <| At.c (spec_l10Vote_spec ⟨r.id, r.of_, 1, r.commit, ⟨m.term, 0, r.hard.log⟩, [], [], []⟩) Tryz.call102 false [] [] [(1320, 6, (r.hard.log.map encEnt)), (2240, 1, []), (2241, 1, []), (2242, 1, [])] ⟨rfl, ⟨45, (r.hard.log.map encEnt), by kernel_rfl, FrzIs.same (allP_encEnt _)⟩, rfl, ⟨3, [], by kernel_rfl, FrzIs.same (fun _ h => by cases h)⟩, rfl, ⟨3, [], by kernel_rfl, FrzIs.same (fun _ h => by cases h)⟩, rfl, ⟨3, [], by kernel_rfl, FrzIs.same (fun _ h => by cases h)⟩, trivial⟩ <| At.ll 66 47 10 166 (45, 6) (([(⟨1, m.term, 0, 0, ⟨0, ⟨0, 0, 0, 0, eB⟩⟩⟩ : Rec)]).map encRec) <| At.apK 67 47 10 88 167 117 166 encRec ([] : List Rec) ([(⟨1, m.term, 0, 0, ⟨0, ⟨0, 0, 0, 0, eB⟩⟩⟩ : Rec)]) (by simp only [List.length_map, lens]; omega) <| At.z 1 <| AW.r <| At.a 1 <| At.c (spec_l10Rest_spec ⟨r.id, r.of_, 1, r.commit, ⟨m.term, 0, r.hard.log⟩, [], [], []⟩) Tryz.call133 true [(1320, 0), (2240, 1), (2241, 2), (2242, 3)] (fr 2500 4 3) [] trivial <| At.z 1 <| AW.q 4 <| AW.r <| At.a 1 <| At.c (spec_l10End_spec ⟨r.id, r.of_, 1, r.commit, ⟨m.term, 0, r.hard.log⟩, [], [], []⟩) Tryz.call29 false [] [] [(1320, 6, (r.hard.log.map encEnt)), (2500, 1, []), (2501, 1, []), (2502, 1, [])] ⟨rfl, ⟨45, (r.hard.log.map encEnt), by kernel_rfl, FrzIs.same (allP_encEnt _)⟩, rfl, ⟨3, [], by kernel_rfl, FrzIs.same (fun _ h => by cases h)⟩, rfl, ⟨3, [], by kernel_rfl, FrzIs.same (fun _ h => by cases h)⟩, rfl, ⟨3, [], by kernel_rfl, FrzIs.same (fun _ h => by cases h)⟩, trivial⟩ ?_
       refine At.z 1 <| AW.seq <| AW.seq <| AW.cut (dg [102, 103, 104, 107, 110, 118, 167, 1320, 1321, 1322, 1323, 2240, 2241, 2242, 2500, 2501, 2502, 5001, 5002, 5003, 5004, 5005]) (bs 12 3992) 99 (!(fitsB r.hard.log m)) ?_ ?_
       · refine AW.gD Tryz_mix <| At.a 5 ?_
         by_cases h5 : m.at_ > (r.hard.log.length : Int)
         · refine At.sB 85 _ _ (sayT h5) <| At.a 14 <| At.sB 99 true (!(fitsB r.hard.log m)) (congrArg V.bool (by grind [fitsB])) <| At.done rfl ⟨by kernel_rfl, rfl, ?_⟩
           exact Sub.ct (dg [102, 103, 104, 107, 110, 118, 167, 1320, 1321, 1322, 1323, 2240, 2241, 2242, 2500, 2501, 2502, 5001, 5002, 5003, 5004, 5005]) (bs 12 3992) 99 _
         refine At.sB 85 _ _ (sayF h5) <| At.a 4 ?_
         by_cases h6 : m.at_ > 0
         · refine At.sB 89 _ _ (sayT h6) <| At.a 4 <| At.c (spec_l10Term_spec ⟨m.term, 0, r.hard.log⟩ m.at_ (by omega)) Tryz.call49 false [] [] [(1320, 6, (r.hard.log.map encEnt))] ⟨rfl, ⟨45, (r.hard.log.map encEnt), by kernel_rfl, FrzIs.same (allP_encEnt _)⟩, trivial⟩ <| At.a 5 <| At.sB 99 ((termAt r.hard.log m.at_) != m.atTerm) (!(fitsB r.hard.log m)) (congrArg V.bool (by grind [fitsB])) <| At.done rfl ⟨by kernel_rfl, rfl, ?_⟩
           exact Sub.ct (dg [102, 103, 104, 107, 110, 118, 167, 1320, 1321, 1322, 1323, 2240, 2241, 2242, 2500, 2501, 2502, 5001, 5002, 5003, 5004, 5005]) (bs 12 3992) 99 _
         refine At.sB 89 _ _ (sayF h6) <| At.a 10 <| At.sB 99 false (!(fitsB r.hard.log m)) (congrArg V.bool (by grind [fitsB])) <| At.done rfl ⟨by kernel_rfl, rfl, ?_⟩
         exact Sub.ct (dg [102, 103, 104, 107, 110, 118, 167, 1320, 1321, 1322, 1323, 2240, 2241, 2242, 2500, 2501, 2502, 5001, 5002, 5003, 5004, 5005]) (bs 12 3992) 99 _
       refine AW.cNB (fitsB r.hard.log m) (fun h7 => ?_) (fun h7 => ?_)
       · exact AW.r <| At.a 4 <| At.sI 103 (m.at_ - 1) (by omega) <| At.c (spec_l1Min_spec (r.hard.log.length : Int) (m.at_ - 1)) Tryz.call83 true [] [] [] trivial <| At.z 2 <| AW.seq <| AW.gD Tryz_mix <| At.a 7 <| At.lk 113 51 17 213 (45, 6) [5005] (([(⟨m.from_, ⟨4, r.id, m.term, min (r.hard.log.length : Int) (m.at_ - 1), 0, 0, false, 0, 0, eB, ⟨0, 0, 0, 0, eB⟩, []⟩⟩ : Out)]).map encOut) [(45, 6, [])] (by intro p hp; simp only [List.mem_cons, List.not_mem_nil, or_false] at hp; subst hp; all_goals (intro x hx; cases hx)) <| At.apK 114 51 17 168 214 118 213 encOut ([] : List Out) ([(⟨m.from_, ⟨4, r.id, m.term, min (r.hard.log.length : Int) (m.at_ - 1), 0, 0, false, 0, 0, eB, ⟨0, 0, 0, 0, eB⟩, []⟩⟩ : Out)]) (by simp only [List.length_map, lens]; omega) <| At.zD 3 <| AW.ret (rf (k3 (K_spec_OnSend _ r m) (show ((⟨r.id, r.of_, 1, r.commit, ⟨m.term, 0, r.hard.log⟩, [], [], []⟩ : Raft)) = _ from by rw [sends_far1 (sendB_of2 h1 h2) (by omega) (by assumption)]; rfl) (show ([(⟨1, m.term, 0, 0, ⟨0, ⟨0, 0, 0, 0, eB⟩⟩⟩ : Rec)]) = _ from by rw [sends_far1 (sendB_of2 h1 h2) (by omega) (by assumption)]; rfl) (show ([(⟨m.from_, ⟨4, r.id, m.term, min (r.hard.log.length : Int) (m.at_ - 1), 0, 0, false, 0, 0, eB, ⟨0, 0, 0, 0, eB⟩, []⟩⟩ : Out)]) = _ from by rw [sends_far1 (sendB_of2 h1 h2) (by omega) (by assumption)]; rfl) (KF.n [(1320, 0), (2500, 1), (2501, 2), (2502, 3), (167, 4), (214, 5)])))
       have hfit := h7
       have hat := fitsB_at hfit
       refine AW.skip <| AW.q 3 <| AW.seq <| AW.q 1 <| AW.block <| AW.loopW (fun (x : Nat × Int × List Ent × List Rec) => match x with | (k, b, lg, rc) => Go.Sy.mk [.un, .un, .un, .ptr 103 0 0, .ptr 104 0 0, .un, .un, .ptr 107 0 0, .ref 167, .ref 118, .ptr 110 0 0, .un, nI b, nI (k : Int)] [(103, .box 33 (mC m (.sl false 6 (m.entries.map encEnt)))), (104, .box 29 [nI 0, nI 0, nI 0, nI 0, nI 0, nI 0, .ref 5001, .ref 5002, .ref 5003, .ref 5004]), (107, .box 29 [nI r.id, nI r.of_, nI 1, nI r.commit, nI m.term, nI 0, .ref 1320, .ref 2500, .ref 2501, .ref 2502]), (110, .box 33 [nI 4, nI r.id, nI m.term, nI 0, nI 0, nI 0, .bool false, nI 0, nI 0, .str eB, nI 0, nI 0, nI 0, nI 0, .str eB, .ref 5005]), (118, .arr 51 17 []), (167, .arr 47 10 (rc.map encRec)), (1320, .arr 45 6 (lg.map encEnt)), (2500, .arr 3 1 []), (2501, .arr 3 1 []), (2502, .arr 3 1 []), (5001, .arr 45 6 []), (5002, .arr 3 1 []), (5003, .arr 3 1 []), (5004, .arr 3 1 []), (5005, .arr 45 6 [])]) (fun (k, b, lg, rc) => k ≤ m.entries.length ∧ (b = m.at_ + (k : Int) ∧ b ≤ lg.length ∧ lg.length ≤ 80 ∧ rc.length ≤ 1000 + 2 * k) ∧ takeE m.entries m.at_ r.hard.log ([(⟨1, m.term, 0, 0, ⟨0, ⟨0, 0, 0, 0, eB⟩⟩⟩ : Rec)]) = takeE (m.entries.drop k) b lg rc) (fun (k, b, lg, rc) => m.entries.length - k) (0, m.at_, r.hard.log, [(⟨1, m.term, 0, 0, ⟨0, ⟨0, 0, 0, 0, eB⟩⟩⟩ : Rec)]) ⟨by omega, (by simp only [List.length_cons, List.length_nil]; omega), by rw [List.drop_zero]⟩ (Sub.o (dg [103, 104, 107, 110, 118, 167, 1320, 2500, 2501, 2502, 5001, 5002, 5003, 5004, 5005]) (bs 14 14232)) ?_
       rintro ⟨k, b, lg, rc⟩ ⟨hk, hb, hR⟩
       refine AW.seq <| AW.r <| At.a 4 <| At.sL 120 encEnt m.entries <| At.z 1 <| AW.cD ((k : Int) < (m.entries.length : Int)) (fun h8 => ?_) (fun h8 => ?_)
       · refine AW.skip <| AW.seq <| AW.block <| AW.r <| At.a 3 <| At.sI 126 (m.at_ + 1) (by omega) <| At.a 2 <| At.say 128 (nI (IntKind.i64.wrap ((m.at_ + 1) + (k : Int)))) (nI (b + 1)) (by kernel_rfl) (sayAs (by omega) (by omega)) <| At.z 1 <| AW.seq <| AW.seq <| AW.gD Tryz_mix <| At.a 2 <| At.c (spec_l10End_spec ⟨r.id, r.of_, 1, r.commit, ⟨m.term, 0, lg⟩, [], [], []⟩) Tryz.call29 false [] [] [(1320, 6, (lg.map encEnt)), (2500, 1, []), (2501, 1, []), (2502, 1, [])] ⟨rfl, ⟨45, (lg.map encEnt), by kernel_rfl, FrzIs.same (allP_encEnt _)⟩, rfl, ⟨3, [], by kernel_rfl, FrzIs.same (fun _ h => by cases h)⟩, rfl, ⟨3, [], by kernel_rfl, FrzIs.same (fun _ h => by cases h)⟩, rfl, ⟨3, [], by kernel_rfl, FrzIs.same (fun _ h => by cases h)⟩, trivial⟩ <| At.a 2 ?_
         by_cases h9 : (b + 1) ≤ (lg.length : Int)
         · refine At.sB 133 _ _ (sayT h9) <| At.a 3 <| At.c (spec_l10Term_spec ⟨m.term, 0, lg⟩ (b + 1) (by dsimp only; omega)) Tryz.call49 false [] [] [(1320, 6, (lg.map encEnt))] ⟨rfl, ⟨45, (lg.map encEnt), by kernel_rfl, FrzIs.same (allP_encEnt _)⟩, trivial⟩ <| At.a 3 <| At.iSl 24 141 (.tmp 139) (.tmp 140) false 6 (m.entries.map encEnt) .i64 (k : Int) 45 (by omega) (by simp only [List.length_map]; omega) <| At.a 1 ?_
           refine Exists.elim (gE m.entries k (by omega)) fun e1 he1 => ?_
           refine At.lVp 3 143 (.tmp 142) false 6 (m.entries.map encEnt) k 0 false 1 (encEnt e1) (nI e1.term) (mapGet he1) <| At.zD 2 <| AW.cE (termAt lg (b + 1)) e1.term (fun h10 => ?_) (fun h10 => ?_)
           · refine AW.q 2 <| AW.exit <| AW.g <| At.a 2 <| At.sI 123 ((k : Int) + 1) (by omega) <| At.z 1 ?_
             exact ⟨(k + 1, (b + 1), lg, rc), ⟨by omega, ⟨by omega, by omega, by omega, by omega⟩, by rw [hR, dropCons (by assumption), takeE_same (by omega) (by assumption)]⟩, (by simp only; omega), Sub.o (dg [103, 104, 107, 110, 118, 167, 1320, 2500, 2501, 2502, 5001, 5002, 5003, 5004, 5005]) (bs 14 14232)⟩
           refine AW.skip <| AW.seq <| AW.r <| At.a 2 <| At.c (spec_l10End_spec ⟨r.id, r.of_, 1, r.commit, ⟨m.term, 0, lg⟩, [], [], []⟩) Tryz.call29 false [] [] [(1320, 6, (lg.map encEnt)), (2500, 1, []), (2501, 1, []), (2502, 1, [])] ⟨rfl, ⟨45, (lg.map encEnt), by kernel_rfl, FrzIs.same (allP_encEnt _)⟩, rfl, ⟨3, [], by kernel_rfl, FrzIs.same (fun _ h => by cases h)⟩, rfl, ⟨3, [], by kernel_rfl, FrzIs.same (fun _ h => by cases h)⟩, rfl, ⟨3, [], by kernel_rfl, FrzIs.same (fun _ h => by cases h)⟩, trivial⟩ <| At.z 1 <| AW.dT h9 <| AW.r <| At.l0 24 151 45 6 56 251 <| At.a 5 <| At.sJ 156 ((b + 1) - 1) b (by omega) (by omega) <| At.sliceRef (t := 24) (d := 157) (e := 45) (es := 6) (i := 1320) (x := .tmp 154) (lx := none) (hx := some (.tmp 156)) (xs := (lg.map encEnt)) (vl := .un) (vh := nI b) 0 ((b).toNat) (by kernel_rfl) (by kernel_rfl) (by kernel_rfl) (by kernel_rfl) (by kernel_rfl) (.inl ⟨rfl, rfl⟩) (.inr ⟨_, _, rfl, sayNat (by omega)⟩) (by omega) (by simp only [List.length_map]; omega) <| At.append (t := 24) (d := 158) (e := 45) (es := 6) (bytes := 56) (s := .tmp 151) (x := .tmp 157) (S := .ref 251) (T := .sub 1320 0 (((b).toNat) - 0)) (xs := []) (ys := (((lg.drop 0).take (((b).toNat) - 0)).map encEnt)) 258 [251] [] ((lg.take b.toNat).map encEnt) (by kernel_rfl) (by kernel_rfl) (by kernel_rfl) (by kernel_rfl) ⟨by kernel_rfl, rfl⟩ ⟨(lg.map encEnt), by kernel_rfl, by rw [List.length_map]; omega, (by simp [List.map_take, List.map_drop]), (allP_encEnt _), rfl⟩ (by kernel_rfl) (by kernel_rfl) (by simp [List.map_take]) (by simp only [List.length_map, lens]; omega) (by simp only [List.length_map, lens]; omega) ?_
           refine At.z 3 <| AW.g <| At.a 3 <| At.sJ 163 ((b + 1) - 1) b (by omega) (by omega) <| At.a 1 <| At.ll 165 47 10 265 (45, 6) (([(⟨3, 0, 0, b, ⟨0, ⟨0, 0, 0, 0, eB⟩⟩⟩ : Rec)]).map encRec) <| At.apK 166 47 10 88 266 167 265 encRec rc ([(⟨3, 0, 0, b, ⟨0, ⟨0, 0, 0, 0, eB⟩⟩⟩ : Rec)]) (by simp only [List.length_map, lens]; omega) <| At.z 1 <| AW.seq <| AW.q 2 <| AW.cD ((b + 1) > 80) (fun h11 => ?_) (fun h11 => ?_)
           · exact AW.exit <| AW.seq <| AW.gD Tryz_mix <| At.a 5 <| At.c (spec_l1Min_spec m.commit b) Tryz.call83 true [] [] [] trivial <| At.c (spec_l1Max_spec r.commit (min m.commit b)) Tryz.call19 true [] [] [] trivial <| At.zD 2 <| AW.q 2 <| AW.q 3 <| AW.seq <| AW.gD Tryz_mix <| At.a 7 <| At.lk 199 51 17 299 (45, 6) [5005] (([(⟨m.from_, ⟨4, r.id, m.term, b, 0, 0, true, 0, 0, eB, ⟨0, 0, 0, 0, eB⟩, []⟩⟩ : Out)]).map encOut) [(45, 6, [])] (by intro p hp; simp only [List.mem_cons, List.not_mem_nil, or_false] at hp; subst hp; all_goals (intro x hx; cases hx)) <| At.apK 200 51 17 168 300 118 299 encOut ([] : List Out) ([(⟨m.from_, ⟨4, r.id, m.term, b, 0, 0, true, 0, 0, eB, ⟨0, 0, 0, 0, eB⟩, []⟩⟩ : Out)]) (by omega) <| At.zD 3 <| AW.ret (rf (k3 (K_spec_OnSend _ r m) (show ((⟨r.id, r.of_, 1, max r.commit (min m.commit b), ⟨m.term, 0, lg.take b.toNat⟩, [], [], []⟩ : Raft)) = _ from by exfalso; omega) (show (rc ++ ([(⟨3, 0, 0, b, ⟨0, ⟨0, 0, 0, 0, eB⟩⟩⟩ : Rec)])) = _ from by exfalso; omega) (show ([(⟨m.from_, ⟨4, r.id, m.term, b, 0, 0, true, 0, 0, eB, ⟨0, 0, 0, 0, eB⟩, []⟩⟩ : Out)]) = _ from by exfalso; omega) (KF.n [(258, 0), (2500, 1), (2501, 2), (2502, 3), (266, 4), (300, 5)])))
           refine AW.skip <| AW.seq <| AW.gD Tryz_mix <| At.a 4 <| At.iSl 24 174 (.tmp 172) (.tmp 173) false 6 (m.entries.map encEnt) .i64 (k : Int) 45 (by omega) (by simp only [List.length_map]; omega) <| At.lVp 45 175 (.tmp 174) false 6 (m.entries.map encEnt) k 0 true 6 (encEnt e1) (.agg [nI e1.term, nI e1.cmd.kind, nI e1.cmd.release, nI e1.cmd.node, nI e1.cmd.size, .str e1.cmd.digest]) (mapGet he1) <| At.a 1 <| At.c (spec_l10Put_spec ⟨r.id, r.of_, 1, r.commit, ⟨m.term, 0, lg.take b.toNat⟩, [], [], []⟩ e1 (rc ++ ([(⟨3, 0, 0, b, ⟨0, ⟨0, 0, 0, 0, eB⟩⟩⟩ : Rec)])) (by dsimp only; rw [List.length_take]; omega) (by simp only [lens]; omega)) Tryz.call105 true [(258, 0), (2500, 1), (2501, 2), (2502, 3), (266, 4)] [(4540, 5), (4541, 6)] [] trivial <| At.zD 5 <| AW.gq 2 <| AW.g <| At.a 2 <| At.sI 123 ((k : Int) + 1) (by omega) <| At.z 1 ?_
           exact ⟨(k + 1, (b + 1), ((lg.take b.toNat) ++ [e1]), ((rc ++ ([(⟨3, 0, 0, b, ⟨0, ⟨0, 0, 0, 0, eB⟩⟩⟩ : Rec)])) ++ [(⟨2, 0, 0, (((lg.take b.toNat) ++ [e1]).length : Int), e1⟩ : Rec)])), ⟨by omega, ⟨by omega, by simp only [List.length_append, List.length_take, List.length_cons, List.length_nil]; omega, by simp only [List.length_append, List.length_take, List.length_cons, List.length_nil]; omega, by simp only [lens]; omega⟩, by rw [hR, dropCons (by assumption)]; exact takeE_cut2 (by omega) (by assumption) (by simp only [List.length_append, List.length_take, List.length_cons, List.length_nil]; omega)⟩, (by simp only; omega), Sub.o [(103, 103), (104, 104), (107, 107), (110, 110), (118, 118), (4541, 167), (4540, 1320), (2500, 2500), (2501, 2501), (2502, 2502), (5001, 5001), (5002, 5002), (5003, 5003), (5004, 5004), (5005, 5005)] (bs 14 14232)⟩
         refine At.sB 133 _ _ (sayF h9) <| At.zD 12 <| AW.cond false (by kernel_rfl) (fun h => by cases h) (fun _ => ?_)
         refine AW.skip <| AW.seq <| AW.r <| At.a 2 <| At.c (spec_l10End_spec ⟨r.id, r.of_, 1, r.commit, ⟨m.term, 0, lg⟩, [], [], []⟩) Tryz.call29 false [] [] [(1320, 6, (lg.map encEnt)), (2500, 1, []), (2501, 1, []), (2502, 1, [])] ⟨rfl, ⟨45, (lg.map encEnt), by kernel_rfl, FrzIs.same (allP_encEnt _)⟩, rfl, ⟨3, [], by kernel_rfl, FrzIs.same (fun _ h => by cases h)⟩, rfl, ⟨3, [], by kernel_rfl, FrzIs.same (fun _ h => by cases h)⟩, rfl, ⟨3, [], by kernel_rfl, FrzIs.same (fun _ h => by cases h)⟩, trivial⟩ <| At.z 1 <| AW.dF h9 <| AW.skip <| AW.seq <| AW.q 2 <| AW.cD ((b + 1) > 80) (fun h12 => ?_) (fun h12 => ?_)
         · exact AW.exit <| AW.seq <| AW.gD Tryz_mix <| At.a 5 <| At.c (spec_l1Min_spec m.commit b) Tryz.call83 true [] [] [] trivial <| At.c (spec_l1Max_spec r.commit (min m.commit b)) Tryz.call19 true [] [] [] trivial <| At.zD 2 <| AW.q 2 <| AW.q 3 <| AW.seq <| AW.gD Tryz_mix <| At.a 7 <| At.lk 199 51 17 299 (45, 6) [5005] (([(⟨m.from_, ⟨4, r.id, m.term, b, 0, 0, true, 0, 0, eB, ⟨0, 0, 0, 0, eB⟩, []⟩⟩ : Out)]).map encOut) [(45, 6, [])] (by intro p hp; simp only [List.mem_cons, List.not_mem_nil, or_false] at hp; subst hp; all_goals (intro x hx; cases hx)) <| At.apK 200 51 17 168 300 118 299 encOut ([] : List Out) ([(⟨m.from_, ⟨4, r.id, m.term, b, 0, 0, true, 0, 0, eB, ⟨0, 0, 0, 0, eB⟩, []⟩⟩ : Out)]) (by simp only [List.length_map, lens]; omega) <| At.zD 3 <| AW.ret (rf (k3 (K_spec_OnSend _ r m) (show ((⟨r.id, r.of_, 1, max r.commit (min m.commit b), ⟨m.term, 0, lg⟩, [], [], []⟩ : Raft)) = _ from by rw [sends_spec1 (lg := lg) (rc := rc) (b := b) (sendB_of2 h1 h2) (by omega) (by assumption) (hR.trans (by rw [dropCons (List.getElem?_eq_getElem (l := m.entries) (i := k) (by omega)), takeE_full (by omega) (by omega)])) rfl]; rfl) (show (rc) = _ from by rw [sends_spec1 (lg := lg) (rc := rc) (b := b) (sendB_of2 h1 h2) (by omega) (by assumption) (hR.trans (by rw [dropCons (List.getElem?_eq_getElem (l := m.entries) (i := k) (by omega)), takeE_full (by omega) (by omega)])) rfl]) (show ([(⟨m.from_, ⟨4, r.id, m.term, b, 0, 0, true, 0, 0, eB, ⟨0, 0, 0, 0, eB⟩, []⟩⟩ : Out)]) = _ from by rw [sends_spec1 (lg := lg) (rc := rc) (b := b) (sendB_of2 h1 h2) (by omega) (by assumption) (hR.trans (by rw [dropCons (List.getElem?_eq_getElem (l := m.entries) (i := k) (by omega)), takeE_full (by omega) (by omega)])) rfl]; rfl) (KF.n [(1320, 0), (2500, 1), (2501, 2), (2502, 3), (167, 4), (300, 5)])))
         refine AW.skip <| AW.seq <| AW.gD Tryz_mix <| At.a 4 <| At.iSl 24 174 (.tmp 172) (.tmp 173) false 6 (m.entries.map encEnt) .i64 (k : Int) 45 (by omega) (by simp only [List.length_map]; omega) ?_
         refine Exists.elim (gE m.entries k (by omega)) fun e2 he2 => ?_
         refine At.lVp 45 175 (.tmp 174) false 6 (m.entries.map encEnt) k 0 true 6 (encEnt e2) (.agg [nI e2.term, nI e2.cmd.kind, nI e2.cmd.release, nI e2.cmd.node, nI e2.cmd.size, .str e2.cmd.digest]) (mapGet he2) <| At.a 1 <| At.c (spec_l10Put_spec ⟨r.id, r.of_, 1, r.commit, ⟨m.term, 0, lg⟩, [], [], []⟩ e2 rc (by dsimp only; omega) (by omega)) Tryz.call105 true [(1320, 0), (2500, 1), (2501, 2), (2502, 3), (167, 4)] [(4540, 5), (4541, 6)] [] trivial <| At.zD 5 <| AW.gq 2 <| AW.g <| At.a 2 <| At.sI 123 ((k : Int) + 1) (by omega) <| At.z 1 ?_
         exact ⟨(k + 1, (b + 1), (lg ++ [e2]), (rc ++ [(⟨2, 0, 0, ((lg ++ [e2]).length : Int), e2⟩ : Rec)])), ⟨by omega, ⟨by omega, by simp only [List.length_append, List.length_take, List.length_cons, List.length_nil]; omega, by simp only [List.length_append, List.length_take, List.length_cons, List.length_nil]; omega, by simp only [lens]; omega⟩, by rw [hR, dropCons (by assumption)]; exact takeE_put2 (by omega) (by omega) (by simp only [List.length_append, List.length_take, List.length_cons, List.length_nil]; omega)⟩, (by simp only; omega), Sub.o [(103, 103), (104, 104), (107, 107), (110, 110), (118, 118), (4541, 167), (4540, 1320), (2500, 2500), (2501, 2501), (2502, 2502), (5001, 5001), (5002, 5002), (5003, 5003), (5004, 5004), (5005, 5005)] (bs 14 14232)⟩
       exact AW.exit <| AW.seq <| AW.gD Tryz_mix <| At.a 5 <| At.c (spec_l1Min_spec m.commit b) Tryz.call83 true [] [] [] trivial <| At.c (spec_l1Max_spec r.commit (min m.commit b)) Tryz.call19 true [] [] [] trivial <| At.zD 2 <| AW.q 2 <| AW.q 3 <| AW.seq <| AW.gD Tryz_mix <| At.a 7 <| At.lk 199 51 17 299 (45, 6) [5005] (([(⟨m.from_, ⟨4, r.id, m.term, b, 0, 0, true, 0, 0, eB, ⟨0, 0, 0, 0, eB⟩, []⟩⟩ : Out)]).map encOut) [(45, 6, [])] (by intro p hp; simp only [List.mem_cons, List.not_mem_nil, or_false] at hp; subst hp; all_goals (intro x hx; cases hx)) <| At.apK 200 51 17 168 300 118 299 encOut ([] : List Out) ([(⟨m.from_, ⟨4, r.id, m.term, b, 0, 0, true, 0, 0, eB, ⟨0, 0, 0, 0, eB⟩, []⟩⟩ : Out)]) (by simp only [List.length_map, lens]; omega) <| At.zD 3 <| AW.ret (rf (k3 (K_spec_OnSend _ r m) (show ((⟨r.id, r.of_, 1, max r.commit (min m.commit b), ⟨m.term, 0, lg⟩, [], [], []⟩ : Raft)) = _ from by rw [sends_spec1 (lg := lg) (rc := rc) (b := b) (sendB_of2 h1 h2) (by omega) (by assumption) (hR.trans (by rw [List.drop_of_length_le (by omega)]; rfl)) rfl]; rfl) (show (rc) = _ from by rw [sends_spec1 (lg := lg) (rc := rc) (b := b) (sendB_of2 h1 h2) (by omega) (by assumption) (hR.trans (by rw [List.drop_of_length_le (by omega)]; rfl)) rfl]) (show ([(⟨m.from_, ⟨4, r.id, m.term, b, 0, 0, true, 0, 0, eB, ⟨0, 0, 0, 0, eB⟩, []⟩⟩ : Out)]) = _ from by rw [sends_spec1 (lg := lg) (rc := rc) (b := b) (sendB_of2 h1 h2) (by omega) (by assumption) (hR.trans (by rw [List.drop_of_length_le (by omega)]; rfl)) rfl]; rfl) (KF.n [(1320, 0), (2500, 1), (2501, 2), (2502, 3), (167, 4), (300, 5)])))
     refine AW.q 3 <| AW.cE r.role (3 : Int) (fun h13 => ?_) (fun h13 => ?_)
     · have hnx := raftOk_next hok h13
       have hmx := raftOk_match hok h13
       exact AW.q 6 <| AW.ret (rf (k3 (K_spec_OnSend _ r m) (show (r) = _ from by rw [sends_lead (sendB_of2 h1 h2) (by omega) (by omega) (by omega)]) (show ([]) = _ from by rw [sends_lead (sendB_of2 h1 h2) (by omega) (by omega) (by omega)]) (show ([]) = _ from by rw [sends_lead (sendB_of2 h1 h2) (by omega) (by omega) (by omega)]) (KF.n [(1320, 0), (1321, 1), (1322, 2), (1323, 3), (117, 4), (118, 5)])))
     refine AW.skip <| AW.r <| At.a 1 <| At.c (spec_l10Rest_spec r) Tryz.call133 true (fr 1320 0 4) (fr 2500 4 3) [] trivial <| At.z 1 <| AW.q 4 <| AW.r <| At.a 1 <| At.c (spec_l10End_spec ⟨r.id, r.of_, 1, r.commit, r.hard, [], [], []⟩) Tryz.call29 false [] [] [(1320, 6, (r.hard.log.map encEnt)), (2500, 1, []), (2501, 1, []), (2502, 1, [])] ⟨rfl, ⟨45, (r.hard.log.map encEnt), by kernel_rfl, FrzIs.same (allP_encEnt _)⟩, rfl, ⟨3, [], by kernel_rfl, FrzIs.same (fun _ h => by cases h)⟩, rfl, ⟨3, [], by kernel_rfl, FrzIs.same (fun _ h => by cases h)⟩, rfl, ⟨3, [], by kernel_rfl, FrzIs.same (fun _ h => by cases h)⟩, trivial⟩ <| At.z 1 <| AW.seq <| AW.seq <| AW.cut (dg [102, 103, 104, 107, 110, 117, 118, 1320, 1321, 1322, 1323, 2500, 2501, 2502, 5001, 5002, 5003, 5004, 5005]) (bs 12 3992) 99 (!(fitsB r.hard.log m)) ?_ ?_
     · refine AW.gD Tryz_mix <| At.a 5 ?_
       by_cases h14 : m.at_ > (r.hard.log.length : Int)
       · refine At.sB 85 _ _ (sayT h14) <| At.a 14 <| At.sB 99 true (!(fitsB r.hard.log m)) (congrArg V.bool (by grind [fitsB])) <| At.done rfl ⟨by kernel_rfl, rfl, ?_⟩
         exact Sub.ct (dg [102, 103, 104, 107, 110, 117, 118, 1320, 1321, 1322, 1323, 2500, 2501, 2502, 5001, 5002, 5003, 5004, 5005]) (bs 12 3992) 99 _
       refine At.sB 85 _ _ (sayF h14) <| At.a 4 ?_
       by_cases h15 : m.at_ > 0
       · refine At.sB 89 _ _ (sayT h15) <| At.a 4 <| At.c (spec_l10Term_spec r.hard m.at_ (by omega)) Tryz.call49 false [] [] [(1320, 6, (r.hard.log.map encEnt))] ⟨rfl, ⟨45, (r.hard.log.map encEnt), by kernel_rfl, FrzIs.same (allP_encEnt _)⟩, trivial⟩ <| At.a 5 <| At.sB 99 ((termAt r.hard.log m.at_) != m.atTerm) (!(fitsB r.hard.log m)) (congrArg V.bool (by grind [fitsB])) <| At.done rfl ⟨by kernel_rfl, rfl, ?_⟩
         exact Sub.ct (dg [102, 103, 104, 107, 110, 117, 118, 1320, 1321, 1322, 1323, 2500, 2501, 2502, 5001, 5002, 5003, 5004, 5005]) (bs 12 3992) 99 _
       refine At.sB 89 _ _ (sayF h15) <| At.a 10 <| At.sB 99 false (!(fitsB r.hard.log m)) (congrArg V.bool (by grind [fitsB])) <| At.done rfl ⟨by kernel_rfl, rfl, ?_⟩
       exact Sub.ct (dg [102, 103, 104, 107, 110, 117, 118, 1320, 1321, 1322, 1323, 2500, 2501, 2502, 5001, 5002, 5003, 5004, 5005]) (bs 12 3992) 99 _
     refine AW.cNB (fitsB r.hard.log m) (fun h16 => ?_) (fun h16 => ?_)
     · exact AW.r <| At.a 4 <| At.sI 103 (m.at_ - 1) (by omega) <| At.c (spec_l1Min_spec (r.hard.log.length : Int) (m.at_ - 1)) Tryz.call83 true [] [] [] trivial <| At.z 2 <| AW.seq <| AW.gD Tryz_mix <| At.a 7 <| At.lk 113 51 17 213 (45, 6) [5005] (([(⟨m.from_, ⟨4, r.id, m.term, min (r.hard.log.length : Int) (m.at_ - 1), 0, 0, false, 0, 0, eB, ⟨0, 0, 0, 0, eB⟩, []⟩⟩ : Out)]).map encOut) [(45, 6, [])] (by intro p hp; simp only [List.mem_cons, List.not_mem_nil, or_false] at hp; subst hp; all_goals (intro x hx; cases hx)) <| At.apK 114 51 17 168 214 118 213 encOut ([] : List Out) ([(⟨m.from_, ⟨4, r.id, m.term, min (r.hard.log.length : Int) (m.at_ - 1), 0, 0, false, 0, 0, eB, ⟨0, 0, 0, 0, eB⟩, []⟩⟩ : Out)]) (by simp only [List.length_map, lens]; omega) <| At.zD 3 <| AW.ret (rf (k3 (K_spec_OnSend _ r m) (show ((⟨r.id, r.of_, 1, r.commit, r.hard, [], [], []⟩ : Raft)) = _ from by rw [sends_far0 (sendB_of2 h1 h2) (by omega) (by omega) (by omega) (by assumption)]; rfl) (show ([]) = _ from by rw [sends_far0 (sendB_of2 h1 h2) (by omega) (by omega) (by omega) (by assumption)]) (show ([(⟨m.from_, ⟨4, r.id, m.term, min (r.hard.log.length : Int) (m.at_ - 1), 0, 0, false, 0, 0, eB, ⟨0, 0, 0, 0, eB⟩, []⟩⟩ : Out)]) = _ from by rw [sends_far0 (sendB_of2 h1 h2) (by omega) (by omega) (by omega) (by assumption)]; rw [show r.hard.term = m.term from by omega]; rfl) (KF.n [(1320, 0), (2500, 1), (2501, 2), (2502, 3), (117, 4), (214, 5)])))
     have hfit := h16
     have hat := fitsB_at hfit
     refine AW.skip <| AW.q 3 <| AW.seq <| AW.q 1 <| AW.block <| AW.loopW (fun (x : Nat × Int × List Ent × List Rec) => match x with | (k, b, lg, rc) => Go.Sy.mk [.un, .un, .un, .ptr 103 0 0, .ptr 104 0 0, .un, .un, .ptr 107 0 0, .ref 117, .ref 118, .ptr 110 0 0, .un, nI b, nI (k : Int)] [(103, .box 33 (mC m (.sl false 6 (m.entries.map encEnt)))), (104, .box 29 [nI 0, nI 0, nI 0, nI 0, nI 0, nI 0, .ref 5001, .ref 5002, .ref 5003, .ref 5004]), (107, .box 29 [nI r.id, nI r.of_, nI 1, nI r.commit, nI r.hard.term, nI r.hard.vote, .ref 1320, .ref 2500, .ref 2501, .ref 2502]), (110, .box 33 [nI 4, nI r.id, nI m.term, nI 0, nI 0, nI 0, .bool false, nI 0, nI 0, .str eB, nI 0, nI 0, nI 0, nI 0, .str eB, .ref 5005]), (117, .arr 47 10 (rc.map encRec)), (118, .arr 51 17 []), (1320, .arr 45 6 (lg.map encEnt)), (2500, .arr 3 1 []), (2501, .arr 3 1 []), (2502, .arr 3 1 []), (5001, .arr 45 6 []), (5002, .arr 3 1 []), (5003, .arr 3 1 []), (5004, .arr 3 1 []), (5005, .arr 45 6 [])]) (fun (k, b, lg, rc) => k ≤ m.entries.length ∧ (b = m.at_ + (k : Int) ∧ b ≤ lg.length ∧ lg.length ≤ 80 ∧ rc.length ≤ 1000 + 2 * k) ∧ takeE m.entries m.at_ r.hard.log [] = takeE (m.entries.drop k) b lg rc) (fun (k, b, lg, rc) => m.entries.length - k) (0, m.at_, r.hard.log, []) ⟨by omega, (by simp only [List.length_cons, List.length_nil]; omega), by rw [List.drop_zero]⟩ (Sub.o (dg [103, 104, 107, 110, 117, 118, 1320, 2500, 2501, 2502, 5001, 5002, 5003, 5004, 5005]) (bs 14 14232)) ?_
     rintro ⟨k, b, lg, rc⟩ ⟨hk, hb, hR⟩
     refine AW.seq <| AW.r <| At.a 4 <| At.sL 120 encEnt m.entries <| At.z 1 <| AW.cD ((k : Int) < (m.entries.length : Int)) (fun h17 => ?_) (fun h17 => ?_)
     · refine AW.skip <| AW.seq <| AW.block <| AW.r <| At.a 3 <| At.sI 126 (m.at_ + 1) (by omega) <| At.a 2 <| At.say 128 (nI (IntKind.i64.wrap ((m.at_ + 1) + (k : Int)))) (nI (b + 1)) (by kernel_rfl) (sayAs (by omega) (by omega)) <| At.z 1 <| AW.seq <| AW.seq <| AW.gD Tryz_mix <| At.a 2 <| At.c (spec_l10End_spec ⟨r.id, r.of_, 1, r.commit, ⟨r.hard.term, r.hard.vote, lg⟩, [], [], []⟩) Tryz.call29 false [] [] [(1320, 6, (lg.map encEnt)), (2500, 1, []), (2501, 1, []), (2502, 1, [])] ⟨rfl, ⟨45, (lg.map encEnt), by kernel_rfl, FrzIs.same (allP_encEnt _)⟩, rfl, ⟨3, [], by kernel_rfl, FrzIs.same (fun _ h => by cases h)⟩, rfl, ⟨3, [], by kernel_rfl, FrzIs.same (fun _ h => by cases h)⟩, rfl, ⟨3, [], by kernel_rfl, FrzIs.same (fun _ h => by cases h)⟩, trivial⟩ <| At.a 2 ?_
       by_cases h18 : (b + 1) ≤ (lg.length : Int)
       · refine At.sB 133 _ _ (sayT h18) <| At.a 3 <| At.c (spec_l10Term_spec ⟨r.hard.term, r.hard.vote, lg⟩ (b + 1) (by dsimp only; omega)) Tryz.call49 false [] [] [(1320, 6, (lg.map encEnt))] ⟨rfl, ⟨45, (lg.map encEnt), by kernel_rfl, FrzIs.same (allP_encEnt _)⟩, trivial⟩ <| At.a 3 <| At.iSl 24 141 (.tmp 139) (.tmp 140) false 6 (m.entries.map encEnt) .i64 (k : Int) 45 (by omega) (by simp only [List.length_map]; omega) <| At.a 1 ?_
         refine Exists.elim (gE m.entries k (by omega)) fun e3 he3 => ?_
         refine At.lVp 3 143 (.tmp 142) false 6 (m.entries.map encEnt) k 0 false 1 (encEnt e3) (nI e3.term) (mapGet he3) <| At.zD 2 <| AW.cE (termAt lg (b + 1)) e3.term (fun h19 => ?_) (fun h19 => ?_)
         · refine AW.q 2 <| AW.exit <| AW.g <| At.a 2 <| At.sI 123 ((k : Int) + 1) (by omega) <| At.z 1 ?_
           exact ⟨(k + 1, (b + 1), lg, rc), ⟨by omega, ⟨by omega, by omega, by omega, by omega⟩, by rw [hR, dropCons (by assumption), takeE_same (by omega) (by assumption)]⟩, (by simp only; omega), Sub.o (dg [103, 104, 107, 110, 117, 118, 1320, 2500, 2501, 2502, 5001, 5002, 5003, 5004, 5005]) (bs 14 14232)⟩
         refine AW.skip <| AW.seq <| AW.r <| At.a 2 <| At.c (spec_l10End_spec ⟨r.id, r.of_, 1, r.commit, ⟨r.hard.term, r.hard.vote, lg⟩, [], [], []⟩) Tryz.call29 false [] [] [(1320, 6, (lg.map encEnt)), (2500, 1, []), (2501, 1, []), (2502, 1, [])] ⟨rfl, ⟨45, (lg.map encEnt), by kernel_rfl, FrzIs.same (allP_encEnt _)⟩, rfl, ⟨3, [], by kernel_rfl, FrzIs.same (fun _ h => by cases h)⟩, rfl, ⟨3, [], by kernel_rfl, FrzIs.same (fun _ h => by cases h)⟩, rfl, ⟨3, [], by kernel_rfl, FrzIs.same (fun _ h => by cases h)⟩, trivial⟩ <| At.z 1 <| AW.dT h18 <| AW.r <| At.l0 24 151 45 6 56 251 <| At.a 5 <| At.sJ 156 ((b + 1) - 1) b (by omega) (by omega) <| At.sliceRef (t := 24) (d := 157) (e := 45) (es := 6) (i := 1320) (x := .tmp 154) (lx := none) (hx := some (.tmp 156)) (xs := (lg.map encEnt)) (vl := .un) (vh := nI b) 0 ((b).toNat) (by kernel_rfl) (by kernel_rfl) (by kernel_rfl) (by kernel_rfl) (by kernel_rfl) (.inl ⟨rfl, rfl⟩) (.inr ⟨_, _, rfl, sayNat (by omega)⟩) (by omega) (by simp only [List.length_map]; omega) <| At.append (t := 24) (d := 158) (e := 45) (es := 6) (bytes := 56) (s := .tmp 151) (x := .tmp 157) (S := .ref 251) (T := .sub 1320 0 (((b).toNat) - 0)) (xs := []) (ys := (((lg.drop 0).take (((b).toNat) - 0)).map encEnt)) 258 [251] [] ((lg.take b.toNat).map encEnt) (by kernel_rfl) (by kernel_rfl) (by kernel_rfl) (by kernel_rfl) ⟨by kernel_rfl, rfl⟩ ⟨(lg.map encEnt), by kernel_rfl, by rw [List.length_map]; omega, (by simp [List.map_take, List.map_drop]), (allP_encEnt _), rfl⟩ (by kernel_rfl) (by kernel_rfl) (by simp [List.map_take]) (by simp only [List.length_map, lens]; omega) (by simp only [List.length_map, lens]; omega) ?_
         refine At.z 3 <| AW.g <| At.a 3 <| At.sJ 163 ((b + 1) - 1) b (by omega) (by omega) <| At.a 1 <| At.ll 165 47 10 265 (45, 6) (([(⟨3, 0, 0, b, ⟨0, ⟨0, 0, 0, 0, eB⟩⟩⟩ : Rec)]).map encRec) <| At.apK 166 47 10 88 266 117 265 encRec rc ([(⟨3, 0, 0, b, ⟨0, ⟨0, 0, 0, 0, eB⟩⟩⟩ : Rec)]) (by simp only [List.length_map, lens]; omega) <| At.z 1 <| AW.seq <| AW.q 2 <| AW.cD ((b + 1) > 80) (fun h20 => ?_) (fun h20 => ?_)
         · exact AW.exit <| AW.seq <| AW.gD Tryz_mix <| At.a 5 <| At.c (spec_l1Min_spec m.commit b) Tryz.call83 true [] [] [] trivial <| At.c (spec_l1Max_spec r.commit (min m.commit b)) Tryz.call19 true [] [] [] trivial <| At.zD 2 <| AW.q 2 <| AW.q 3 <| AW.seq <| AW.gD Tryz_mix <| At.a 7 <| At.lk 199 51 17 299 (45, 6) [5005] (([(⟨m.from_, ⟨4, r.id, m.term, b, 0, 0, true, 0, 0, eB, ⟨0, 0, 0, 0, eB⟩, []⟩⟩ : Out)]).map encOut) [(45, 6, [])] (by intro p hp; simp only [List.mem_cons, List.not_mem_nil, or_false] at hp; subst hp; all_goals (intro x hx; cases hx)) <| At.apK 200 51 17 168 300 118 299 encOut ([] : List Out) ([(⟨m.from_, ⟨4, r.id, m.term, b, 0, 0, true, 0, 0, eB, ⟨0, 0, 0, 0, eB⟩, []⟩⟩ : Out)]) (by omega) <| At.zD 3 <| AW.ret (rf (k3 (K_spec_OnSend _ r m) (show ((⟨r.id, r.of_, 1, max r.commit (min m.commit b), ⟨r.hard.term, r.hard.vote, lg.take b.toNat⟩, [], [], []⟩ : Raft)) = _ from by exfalso; omega) (show (rc ++ ([(⟨3, 0, 0, b, ⟨0, ⟨0, 0, 0, 0, eB⟩⟩⟩ : Rec)])) = _ from by exfalso; omega) (show ([(⟨m.from_, ⟨4, r.id, m.term, b, 0, 0, true, 0, 0, eB, ⟨0, 0, 0, 0, eB⟩, []⟩⟩ : Out)]) = _ from by exfalso; omega) (KF.n [(258, 0), (2500, 1), (2501, 2), (2502, 3), (266, 4), (300, 5)])))
         refine AW.skip <| AW.seq <| AW.gD Tryz_mix <| At.a 4 <| At.iSl 24 174 (.tmp 172) (.tmp 173) false 6 (m.entries.map encEnt) .i64 (k : Int) 45 (by omega) (by simp only [List.length_map]; omega) <| At.lVp 45 175 (.tmp 174) false 6 (m.entries.map encEnt) k 0 true 6 (encEnt e3) (.agg [nI e3.term, nI e3.cmd.kind, nI e3.cmd.release, nI e3.cmd.node, nI e3.cmd.size, .str e3.cmd.digest]) (mapGet he3) <| At.a 1 <| At.c (spec_l10Put_spec ⟨r.id, r.of_, 1, r.commit, ⟨r.hard.term, r.hard.vote, lg.take b.toNat⟩, [], [], []⟩ e3 (rc ++ ([(⟨3, 0, 0, b, ⟨0, ⟨0, 0, 0, 0, eB⟩⟩⟩ : Rec)])) (by dsimp only; rw [List.length_take]; omega) (by simp only [lens]; omega)) Tryz.call105 true [(258, 0), (2500, 1), (2501, 2), (2502, 3), (266, 4)] [(4540, 5), (4541, 6)] [] trivial <| At.zD 5 <| AW.gq 2 <| AW.g <| At.a 2 <| At.sI 123 ((k : Int) + 1) (by omega) <| At.z 1 ?_
         exact ⟨(k + 1, (b + 1), ((lg.take b.toNat) ++ [e3]), ((rc ++ ([(⟨3, 0, 0, b, ⟨0, ⟨0, 0, 0, 0, eB⟩⟩⟩ : Rec)])) ++ [(⟨2, 0, 0, (((lg.take b.toNat) ++ [e3]).length : Int), e3⟩ : Rec)])), ⟨by omega, ⟨by omega, by simp only [List.length_append, List.length_take, List.length_cons, List.length_nil]; omega, by simp only [List.length_append, List.length_take, List.length_cons, List.length_nil]; omega, by simp only [lens]; omega⟩, by rw [hR, dropCons (by assumption)]; exact takeE_cut2 (by omega) (by assumption) (by simp only [List.length_append, List.length_take, List.length_cons, List.length_nil]; omega)⟩, (by simp only; omega), Sub.o [(103, 103), (104, 104), (107, 107), (110, 110), (4541, 117), (118, 118), (4540, 1320), (2500, 2500), (2501, 2501), (2502, 2502), (5001, 5001), (5002, 5002), (5003, 5003), (5004, 5004), (5005, 5005)] (bs 14 14232)⟩
       refine At.sB 133 _ _ (sayF h18) <| At.zD 12 <| AW.cond false (by kernel_rfl) (fun h => by cases h) (fun _ => ?_)
       refine AW.skip <| AW.seq <| AW.r <| At.a 2 <| At.c (spec_l10End_spec ⟨r.id, r.of_, 1, r.commit, ⟨r.hard.term, r.hard.vote, lg⟩, [], [], []⟩) Tryz.call29 false [] [] [(1320, 6, (lg.map encEnt)), (2500, 1, []), (2501, 1, []), (2502, 1, [])] ⟨rfl, ⟨45, (lg.map encEnt), by kernel_rfl, FrzIs.same (allP_encEnt _)⟩, rfl, ⟨3, [], by kernel_rfl, FrzIs.same (fun _ h => by cases h)⟩, rfl, ⟨3, [], by kernel_rfl, FrzIs.same (fun _ h => by cases h)⟩, rfl, ⟨3, [], by kernel_rfl, FrzIs.same (fun _ h => by cases h)⟩, trivial⟩ <| At.z 1 <| AW.dF h18 <| AW.skip <| AW.seq <| AW.q 2 <| AW.cD ((b + 1) > 80) (fun h21 => ?_) (fun h21 => ?_)
       · exact AW.exit <| AW.seq <| AW.gD Tryz_mix <| At.a 5 <| At.c (spec_l1Min_spec m.commit b) Tryz.call83 true [] [] [] trivial <| At.c (spec_l1Max_spec r.commit (min m.commit b)) Tryz.call19 true [] [] [] trivial <| At.zD 2 <| AW.q 2 <| AW.q 3 <| AW.seq <| AW.gD Tryz_mix <| At.a 7 <| At.lk 199 51 17 299 (45, 6) [5005] (([(⟨m.from_, ⟨4, r.id, m.term, b, 0, 0, true, 0, 0, eB, ⟨0, 0, 0, 0, eB⟩, []⟩⟩ : Out)]).map encOut) [(45, 6, [])] (by intro p hp; simp only [List.mem_cons, List.not_mem_nil, or_false] at hp; subst hp; all_goals (intro x hx; cases hx)) <| At.apK 200 51 17 168 300 118 299 encOut ([] : List Out) ([(⟨m.from_, ⟨4, r.id, m.term, b, 0, 0, true, 0, 0, eB, ⟨0, 0, 0, 0, eB⟩, []⟩⟩ : Out)]) (by simp only [List.length_map, lens]; omega) <| At.zD 3 <| AW.ret (rf (k3 (K_spec_OnSend _ r m) (show ((⟨r.id, r.of_, 1, max r.commit (min m.commit b), ⟨r.hard.term, r.hard.vote, lg⟩, [], [], []⟩ : Raft)) = _ from by rw [sends_spec0 (lg := lg) (rc := rc) (b := b) (sendB_of2 h1 h2) (by omega) (by omega) (by omega) (by assumption) (hR.trans (by rw [dropCons (List.getElem?_eq_getElem (l := m.entries) (i := k) (by omega)), takeE_full (by omega) (by omega)]))]; rfl) (show (rc) = _ from by rw [sends_spec0 (lg := lg) (rc := rc) (b := b) (sendB_of2 h1 h2) (by omega) (by omega) (by omega) (by assumption) (hR.trans (by rw [dropCons (List.getElem?_eq_getElem (l := m.entries) (i := k) (by omega)), takeE_full (by omega) (by omega)]))]) (show ([(⟨m.from_, ⟨4, r.id, m.term, b, 0, 0, true, 0, 0, eB, ⟨0, 0, 0, 0, eB⟩, []⟩⟩ : Out)]) = _ from by rw [sends_spec0 (lg := lg) (rc := rc) (b := b) (sendB_of2 h1 h2) (by omega) (by omega) (by omega) (by assumption) (hR.trans (by rw [dropCons (List.getElem?_eq_getElem (l := m.entries) (i := k) (by omega)), takeE_full (by omega) (by omega)]))]; rw [show r.hard.term = m.term from by omega]; rfl) (KF.n [(1320, 0), (2500, 1), (2501, 2), (2502, 3), (117, 4), (300, 5)])))
       refine AW.skip <| AW.seq <| AW.gD Tryz_mix <| At.a 4 <| At.iSl 24 174 (.tmp 172) (.tmp 173) false 6 (m.entries.map encEnt) .i64 (k : Int) 45 (by omega) (by simp only [List.length_map]; omega) ?_
       refine Exists.elim (gE m.entries k (by omega)) fun e4 he4 => ?_
       refine At.lVp 45 175 (.tmp 174) false 6 (m.entries.map encEnt) k 0 true 6 (encEnt e4) (.agg [nI e4.term, nI e4.cmd.kind, nI e4.cmd.release, nI e4.cmd.node, nI e4.cmd.size, .str e4.cmd.digest]) (mapGet he4) <| At.a 1 <| At.c (spec_l10Put_spec ⟨r.id, r.of_, 1, r.commit, ⟨r.hard.term, r.hard.vote, lg⟩, [], [], []⟩ e4 rc (by dsimp only; omega) (by omega)) Tryz.call105 true [(1320, 0), (2500, 1), (2501, 2), (2502, 3), (117, 4)] [(4540, 5), (4541, 6)] [] trivial <| At.zD 5 <| AW.gq 2 <| AW.g <| At.a 2 <| At.sI 123 ((k : Int) + 1) (by omega) <| At.z 1 ?_
       exact ⟨(k + 1, (b + 1), (lg ++ [e4]), (rc ++ [(⟨2, 0, 0, ((lg ++ [e4]).length : Int), e4⟩ : Rec)])), ⟨by omega, ⟨by omega, by simp only [List.length_append, List.length_take, List.length_cons, List.length_nil]; omega, by simp only [List.length_append, List.length_take, List.length_cons, List.length_nil]; omega, by simp only [lens]; omega⟩, by rw [hR, dropCons (by assumption)]; exact takeE_put2 (by omega) (by omega) (by simp only [List.length_append, List.length_take, List.length_cons, List.length_nil]; omega)⟩, (by simp only; omega), Sub.o [(103, 103), (104, 104), (107, 107), (110, 110), (4541, 117), (118, 118), (4540, 1320), (2500, 2500), (2501, 2501), (2502, 2502), (5001, 5001), (5002, 5002), (5003, 5003), (5004, 5004), (5005, 5005)] (bs 14 14232)⟩
     exact AW.exit <| AW.seq <| AW.gD Tryz_mix <| At.a 5 <| At.c (spec_l1Min_spec m.commit b) Tryz.call83 true [] [] [] trivial <| At.c (spec_l1Max_spec r.commit (min m.commit b)) Tryz.call19 true [] [] [] trivial <| At.zD 2 <| AW.q 2 <| AW.q 3 <| AW.seq <| AW.gD Tryz_mix <| At.a 7 <| At.lk 199 51 17 299 (45, 6) [5005] (([(⟨m.from_, ⟨4, r.id, m.term, b, 0, 0, true, 0, 0, eB, ⟨0, 0, 0, 0, eB⟩, []⟩⟩ : Out)]).map encOut) [(45, 6, [])] (by intro p hp; simp only [List.mem_cons, List.not_mem_nil, or_false] at hp; subst hp; all_goals (intro x hx; cases hx)) <| At.apK 200 51 17 168 300 118 299 encOut ([] : List Out) ([(⟨m.from_, ⟨4, r.id, m.term, b, 0, 0, true, 0, 0, eB, ⟨0, 0, 0, 0, eB⟩, []⟩⟩ : Out)]) (by simp only [List.length_map, lens]; omega) <| At.zD 3 <| AW.ret (rf (k3 (K_spec_OnSend _ r m) (show ((⟨r.id, r.of_, 1, max r.commit (min m.commit b), ⟨r.hard.term, r.hard.vote, lg⟩, [], [], []⟩ : Raft)) = _ from by rw [sends_spec0 (lg := lg) (rc := rc) (b := b) (sendB_of2 h1 h2) (by omega) (by omega) (by omega) (by assumption) (hR.trans (by rw [List.drop_of_length_le (by omega)]; rfl))]; rfl) (show (rc) = _ from by rw [sends_spec0 (lg := lg) (rc := rc) (b := b) (sendB_of2 h1 h2) (by omega) (by omega) (by omega) (by assumption) (hR.trans (by rw [List.drop_of_length_le (by omega)]; rfl))]) (show ([(⟨m.from_, ⟨4, r.id, m.term, b, 0, 0, true, 0, 0, eB, ⟨0, 0, 0, 0, eB⟩, []⟩⟩ : Out)]) = _ from by rw [sends_spec0 (lg := lg) (rc := rc) (b := b) (sendB_of2 h1 h2) (by omega) (by omega) (by omega) (by assumption) (hR.trans (by rw [List.drop_of_length_le (by omega)]; rfl))]; rw [show r.hard.term = m.term from by omega]; rfl) (KF.n [(1320, 0), (2500, 1), (2501, 2), (2502, 3), (117, 4), (300, 5)])))
   refine At.sB 23 (!(hears r m 3)) true (sayNT (sayB (Bool.eq_false_iff.2 h1))) ?_
   replace h1 := Bool.eq_false_iff.2 h1
   refine At.z 5 <| AW.cond true (by kernel_rfl) (fun _ => ?_) (fun h => by cases h)
   exact AW.q 6 <| AW.ret (rf (k3 (K_spec_OnSend _ r m) (show (r) = _ from by rw [sends_no (sendB_not2 (by exact .inl (by assumption))) hok]) (show ([]) = _ from by rw [sends_no (sendB_not2 (by exact .inl (by assumption))) hok]) (show ([]) = _ from by rw [sends_no (sendB_not2 (by exact .inl (by assumption))) hok]) (KF.n [(1320, 0), (1321, 1), (1322, 2), (1323, 3), (117, 4), (118, 5)])))
 refine AW.q 5 <| AW.seq <| AW.weak (Sub.nils [⟨true, 104, some 6, 5001, 45, 6⟩, ⟨true, 104, some 7, 5002, 3, 1⟩, ⟨true, 104, some 8, 5003, 3, 1⟩, ⟨true, 104, some 9, 5004, 3, 1⟩] (by kernel_rfl)) <| AW.g <| At.a 1 <| At.c (spec_l10Same_F_spec r hz hok) Tryz.call101 true [] (fr 1320 0 4) [] trivial <| At.l0 37 17 47 10 88 117 <| At.l0 38 18 51 17 168 118 <| At.z 4 <| AW.seq <| AW.r <| At.a 2 <| At.c (spec_l10Hears_spec r m 3 hz hm) Tryz.call129 true [] [] [] trivial <| At.a 2 <| At.sB 23 (!(hears r m 3)) true (sayB (by rw [show (hears r m 3) = false from (hears_no hok)]; rfl)) <| At.z 5 <| AW.cond true (by kernel_rfl) (fun _ => ?_) (fun h => by cases h)
 exact AW.q 6 <| AW.ret (rf (k3 (K_spec_OnSend _ r m) (show ((⟨0, 0, 0, 0, ⟨0, 0, []⟩, [], [], []⟩ : Raft)) = _ from by simp [sends, sendB, same, hok, hears_no hok]; try rfl) (show ([]) = _ from by simp [sends, sendB, same, hok, hears_no hok]; try rfl) (show ([]) = _ from by simp [sends, sendB, same, hok, hears_no hok]; try rfl) (KF.n [(1320, 0), (1321, 1), (1322, 2), (1323, 3), (117, 4), (118, 5)])))
theorem spec_l10Commit_spec (r : Raft) (hz : SmallR r) (hc : 0 ≤ r.commit) (ho : 0 ≤ r.of_ ∧ r.of_ ≤ 5) (hm : (r.match_.length : Int) = r.of_) : FnSpec Tryz.prog 134 [(raftA r)] [] (nI (commitOf r)) []:= by
 obtain ⟨z1, z2, z3, z4⟩ := id hz
 refine FnSpec.of 47 Tryz.func134 rfl Tryz.ntmps134 (by simp) (AW.weakK ?_)
 refine AW.q 2 <| AW.seq <| AW.r <| At.a 1 <| At.c (spec_l10End_spec r) Tryz.call29 true [] [] [] trivial <| At.z 1 <| AW.block <| AW.loopW (fun (n : Int) => Go.Sy.mk [.un, .ptr 101 0 0, .un, nI n] [(101, .box 29 (rV r))]) (fun n => (0 ≤ n ∧ n ≤ r.hard.log.length) ∧ commitOf r = commitGo r n.toNat) (fun n => n.toNat) (r.hard.log.length : Int) ⟨by omega, by simp [commitOf]⟩ (Sub.o [(101, 101)] (bs 4 10)) ?_
 rintro n ⟨hn, hR⟩
 refine AW.seq <| AW.q 4 <| AW.cD (n > r.commit) (fun h1 => ?_) (fun h1 => ?_)
 · refine AW.skip <| AW.seq <| AW.block <| AW.q 1 <| AW.seq <| AW.q 1 <| AW.block <| AW.loopW (fun (x : Nat × Int) => match x with | (i, c) => Go.Sy.mk [.un, .ptr 101 0 0, .un, nI n, nI c, nI (i : Int)] [(101, .box 29 (rV r))]) (fun (i, c) => (i : Int) ≤ r.of_ ∧ (0 ≤ c ∧ c ≤ i) ∧ c = cntGe (r.match_.take i) n) (fun (i, c) => (r.of_ : Int).toNat - i) (0, 0) ⟨by omega, by omega, by simp [cntGe]⟩ (Sub.o [(101, 101)] (bs 6 58)) ?_
   rintro ⟨i, c⟩ ⟨hi, hc1, hc2⟩
   refine AW.seq <| AW.q 4 <| AW.cD ((i : Int) < r.of_) (fun h2 => ?_) (fun h2 => ?_)
   · refine AW.skip <| AW.seq <| AW.block <| AW.r <| At.a 3 <| At.iSl 27 23 (.tmp 21) (.tmp 22) false 1 (r.match_.map encI) .i64 (i : Int) 3 (by omega) (by simp only [List.length_map]; omega) ?_
     refine Exists.elim (gE r.match_ i (by omega)) fun e1 he1 => ?_
     refine At.lVp 3 24 (.tmp 23) false 1 (r.match_.map encI) i 0 false 1 (encI e1) (nI e1) (mapGet he1) <| At.z 2 <| AW.cD (e1 ≥ n) (fun h3 => ?_) (fun h3 => ?_)
     · refine AW.g <| At.a 2 <| At.sI 28 (c + 1) (by omega) <| At.z 1 <| AW.g <| At.a 2 <| At.sI 19 ((i : Int) + 1) (by omega) <| At.z 1 ?_
       exact ⟨(i + 1, (c + 1)), ⟨by omega, by omega, by rw [cntGe_step (by assumption), ← hc2]; rw [if_pos (by assumption)]⟩, (by simp only; omega), Sub.o [(101, 101)] (bs 6 58)⟩
     refine AW.skip <| AW.g <| At.a 2 <| At.sI 19 ((i : Int) + 1) (by omega) <| At.z 1 ?_
     exact ⟨(i + 1, c), ⟨by omega, by omega, by rw [cntGe_step (by assumption), ← hc2]; rw [if_neg (by assumption)]; omega⟩, (by simp only; omega), Sub.o [(101, 101)] (bs 6 58)⟩
   refine AW.exit <| AW.seq <| AW.gD Tryz_mix <| At.a 2 <| At.sI 30 (2 * c) (by omega) <| At.a 4 ?_
   by_cases h4 : (2 * c) > r.of_
   · refine At.sB 34 _ _ (sayT h4) <| At.a 3 <| At.c (spec_l10Term_spec r.hard n (by omega)) Tryz.call49 true [] [] [] trivial <| At.zD 5 <| AW.cE (termAt r.hard.log n) r.hard.term (fun h5 => ?_) (fun h5 => ?_)
     · refine AW.q 2 <| AW.ret ?_
       refine ⟨_, Sub.refl _ _, ?_⟩
       refine KF.conv (fun w => nI w) (fun w => []) (show (n) = (commitOf r) from by have hcc := hc2.trans (cntGe_all (by omega)); rw [hR, commitGo_go (by omega) (by omega), if_pos]; simp only [mostB, Bool.and_eq_true, decide_eq_true_eq, beq_iff_eq, ← hcc]; omega) ?_
       exact KF.n []
     refine AW.skip <| AW.g <| At.a 2 <| At.sI 13 (n - 1) (by omega) <| At.z 1 ?_
     exact ⟨n - 1, ⟨by omega, by have hcc := hc2.trans (cntGe_all (by omega)); rw [hR, commitGo_go (by omega) (by omega), if_neg]; simp only [mostB, Bool.and_eq_true, decide_eq_true_eq, beq_iff_eq, ← hcc]; omega⟩, (by omega), Sub.o [(101, 101)] (bs 4 10)⟩
   refine At.sB 34 _ _ (sayF h4) <| At.zD 9 <| AW.cond false (by kernel_rfl) (fun h => by cases h) (fun _ => ?_)
   refine AW.skip <| AW.g <| At.a 2 <| At.sI 13 (n - 1) (by omega) <| At.z 1 ?_
   exact ⟨n - 1, ⟨by omega, by have hcc := hc2.trans (cntGe_all (by omega)); rw [hR, commitGo_go (by omega) (by omega), if_neg]; simp only [mostB, Bool.and_eq_true, decide_eq_true_eq, beq_iff_eq, ← hcc]; omega⟩, (by omega), Sub.o [(101, 101)] (bs 4 10)⟩
 refine AW.exit <| AW.q 3 <| AW.ret ?_
 refine ⟨_, Sub.refl _ _, ?_⟩
 refine KF.conv (fun w => nI w) (fun w => []) (show (r.commit) = (commitOf r) from by rw [hR, commitGo_end (by omega) (by omega)]) ?_
 exact KF.n []
def K_spec_OnGot (rs : List ResultVar) (r : Raft) (m : Msg) (w0_ : Raft) (w1_ : List Rec) (w2_ : List Out) : Exit → Sg → Prop := KF Tryz.prog 0 rs (.tup [.agg (rC w0_ (.ref 0) (.ref 1) (.ref 2) (.ref 3)), .ref 4, .ref 5]) [.arr 45 6 (w0_.hard.log.map encEnt), .arr 3 1 (w0_.yes.map encI), .arr 3 1 (w0_.next.map encI), .arr 3 1 (w0_.match_.map encI), .arr 47 10 (w1_.map encRec), .arr 51 17 (w2_.map encOut)]
theorem spec_OnGot_spec (r : Raft) (m : Msg) (hz : SmallR r) (hm : m.entries.length ≤ 1048576) : FnSpec Tryz.prog 110 [(raftA r), (msgA m)] [] (.tup [.agg (rC ((gots r m).1) (.ref 0) (.ref 1) (.ref 2) (.ref 3)), .ref 4, .ref 5]) [.arr 45 6 ((((gots r m).1).hard.log).map encEnt), .arr 3 1 ((((gots r m).1).yes).map encI), .arr 3 1 ((((gots r m).1).next).map encI), .arr 3 1 ((((gots r m).1).match_).map encI), .arr 47 10 (((gots r m).2.1).map encRec), .arr 51 17 (((gots r m).2.2).map encOut)]:= by
 obtain ⟨z1, z2, z3, z4⟩ := id hz
 refine FnSpec.of 117 Tryz.func110 rfl Tryz.ntmps110 (by simp) (AW.weakK ?_)
 by_cases hok : raftOk r = true
 · have hokn := raftOk1_nums (raftOk_1 hok)
   refine AW.q 5 <| AW.seq <| AW.weak (Sub.nils [⟨true, 104, some 6, 5001, 45, 6⟩, ⟨true, 104, some 7, 5002, 3, 1⟩, ⟨true, 104, some 8, 5003, 3, 1⟩, ⟨true, 104, some 9, 5004, 3, 1⟩] (by kernel_rfl)) <| AW.g <| At.a 1 <| At.c (spec_l10Same_T_spec r (by exact hz) hok) Tryz.call101 true [] (fr 1220 0 4) [] trivial <| At.l0 37 12 47 10 88 112 <| At.l0 38 13 51 17 168 113 <| At.z 4 <| AW.seq <| AW.r <| At.a 2 <| At.c (spec_l10Hears_spec r m 4 (by exact hz) hm) Tryz.call129 true [] [] [] trivial <| At.z 1 <| AW.cNB (hears r m 4) (fun h1 => ?_) (fun h1 => ?_)
   · exact AW.q 6 <| AW.ret (rf (k3 (K_spec_OnGot _ r m) (show (r) = _ from by rw [gots_un (by assumption) hok]) (show ([]) = _ from by rw [gots_un (by assumption) hok]) (show ([]) = _ from by rw [gots_un (by assumption) hok]) (KF.n [(1220, 0), (1221, 1), (1222, 2), (1223, 3), (112, 4), (113, 5)])))
   have hhr := hears_ok h1
   have hnu := msgFits_nums hhr.2.1
   refine AW.skip <| AW.seq <| AW.q 6 <| AW.cD (m.term > r.hard.term) (fun h2 => ?_) (fun h2 => ?_)
   · exact AW.r <| At.a 3 <| At.c (spec_l10Follow_spec r m.term) Tryz.call130 true (fr 1220 0 4) (fr 1600 4 3) [] trivial <| At.z 1 <| AW.seq <| AW.gD Tryz_mix <| At.a 3 <| At.c (spec_l10Vote_spec ⟨r.id, r.of_, 1, r.commit, ⟨m.term, 0, r.hard.log⟩, [], [], []⟩) Tryz.call102 false [] [] [(1220, 6, (r.hard.log.map encEnt)), (1600, 1, []), (1601, 1, []), (1602, 1, [])] ⟨rfl, ⟨45, (r.hard.log.map encEnt), by kernel_rfl, FrzIs.same (allP_encEnt _)⟩, rfl, ⟨3, [], by kernel_rfl, FrzIs.same (fun _ h => by cases h)⟩, rfl, ⟨3, [], by kernel_rfl, FrzIs.same (fun _ h => by cases h)⟩, rfl, ⟨3, [], by kernel_rfl, FrzIs.same (fun _ h => by cases h)⟩, trivial⟩ <| At.ll 35 47 10 135 (45, 6) (([(⟨1, m.term, 0, 0, ⟨0, ⟨0, 0, 0, 0, eB⟩⟩⟩ : Rec)]).map encRec) <| At.apK 36 47 10 88 136 112 135 encRec ([] : List Rec) ([(⟨1, m.term, 0, 0, ⟨0, ⟨0, 0, 0, 0, eB⟩⟩⟩ : Rec)]) (by simp only [List.length_map, lens]; omega) <| At.zD 4 <| AW.ret (rf (k3 (K_spec_OnGot _ r m) (show ((⟨r.id, r.of_, 1, r.commit, ⟨m.term, 0, r.hard.log⟩, [], [], []⟩ : Raft)) = _ from by rw [gots_term h1 (by omega)]; rfl) (show ([(⟨1, m.term, 0, 0, ⟨0, ⟨0, 0, 0, 0, eB⟩⟩⟩ : Rec)]) = _ from by rw [gots_term h1 (by omega)]; rfl) (show ([]) = _ from by rw [gots_term h1 (by omega)]) (KF.n [(1220, 0), (1600, 1), (1601, 2), (1602, 3), (136, 4), (113, 5)])))
   refine AW.skip <| AW.seq <| AW.r <| At.a 4 ?_
   by_cases h3 : r.role = 3
   · refine At.sB 41 _ _ (sayUF h3) ?_
     have hnx := raftOk_next hok h3
     have hmx := raftOk_match hok h3
     refine At.z 7 <| AW.cU m.term r.hard.term (fun h4 => ?_) (fun h4 => ?_)
     · exact AW.q 6 <| AW.ret (rf (k3 (K_spec_OnGot _ r m) (show (r) = _ from by rw [gots_not h1 (by omega) (by omega)]) (show ([]) = _ from by rw [gots_not h1 (by omega) (by omega)]) (show ([]) = _ from by rw [gots_not h1 (by omega) (by omega)]) (KF.n [(1220, 0), (1221, 1), (1222, 2), (1223, 3), (112, 4), (113, 5)])))
     refine AW.skip <| AW.seq <| AW.q 2 <| AW.cB (m.yes) (fun h5 => ?_) (fun h5 => ?_)
     · refine AW.seq <| AW.seq <| AW.gD Tryz_mix <| At.a 3 <| At.c (spec_l10End_spec r) Tryz.call29 true [] [] [] trivial <| At.zD 1 <| AW.cD (m.at_ ≤ (r.hard.log.length : Int)) (fun h6 => ?_) (fun h6 => ?_)
       · refine AW.seq <| AW.gD Tryz_mix <| At.a 8 <| At.iRf 27 67 (.tmp 64) (.tmp 66) 1223 (r.match_.map encI) .i64 m.from_ 3 1 (by omega) (by simp only [List.length_map]; omega) ?_
         refine Exists.elim (gE r.match_ ((m.from_).toNat) (by omega)) fun e1 he1 => ?_
         have hxe1 := hmx _ (List.mem_of_getElem? he1)
         refine At.lEl 3 68 (.tmp 67) 1223 3 1 (r.match_.map encI) ((m.from_).toNat) 0 false 1 (encI e1) (nI e1) (mapGet he1) <| At.a 2 <| At.c (spec_l1Max_spec e1 m.at_) Tryz.call19 true [] [] [] trivial <| At.iRf 27 72 (.tmp 60) (.tmp 62) 1223 (r.match_.map encI) .i64 m.from_ 3 1 (by omega) (by simp only [List.length_map]; omega) <| At.sEl 3 1223 3 1 ((m.from_).toNat) 0 (.tmp 72) (.tmp 71) (r.match_.map encI) ((r.match_.set ((m.from_).toNat) (max e1 m.at_)).map encI) [nI (max e1 m.at_)] (nI (max e1 m.at_)) (encI e1) (encI (max e1 m.at_)) (mapGet he1) setV <| At.done rfl ⟨by kernel_rfl, ?_⟩
         refine AW.seq <| AW.gD Tryz_mix <| At.a 8 <| At.iRf 27 81 (.tmp 78) (.tmp 80) 1223 ((r.match_.set ((m.from_).toNat) (max e1 m.at_)).map encI) .i64 m.from_ 3 1 (by omega) (by simp only [List.length_map, lens]; omega) <| At.lEl 3 82 (.tmp 81) 1223 3 1 ((r.match_.set ((m.from_).toNat) (max e1 m.at_)).map encI) ((m.from_).toNat) 0 false 1 (encI (max e1 m.at_)) (nI (max e1 m.at_)) (mapGet (setGet he1)) <| At.a 1 <| At.sI 83 ((max e1 m.at_) + 1) (by omega) <| At.iRf 27 84 (.tmp 74) (.tmp 76) 1222 (r.next.map encI) .i64 m.from_ 3 1 (by omega) (by simp only [List.length_map]; omega) ?_
         refine Exists.elim (gE r.next ((m.from_).toNat) (by omega)) fun e2 he2 => ?_
         have hxe2 := hnx.2.1 _ (List.mem_of_getElem? he2)
         refine At.sEl 3 1222 3 1 ((m.from_).toNat) 0 (.tmp 84) (.tmp 83) (r.next.map encI) ((r.next.set ((m.from_).toNat) ((max e1 m.at_) + 1)).map encI) [nI ((max e1 m.at_) + 1)] (nI ((max e1 m.at_) + 1)) (encI e2) (encI ((max e1 m.at_) + 1)) (mapGet he2) setV <| At.done rfl ⟨by kernel_rfl, ?_⟩
         exact AW.g <| At.a 1 <| At.c (spec_l10Commit_spec ⟨r.id, r.of_, r.role, r.commit, r.hard, r.yes, r.next.set ((m.from_).toNat) ((max e1 m.at_) + 1), r.match_.set ((m.from_).toNat) (max e1 m.at_)⟩ (by unfold SmallR; simp only [List.length_set]; omega) (by dsimp only; omega) (by dsimp only; omega) (by dsimp only; simp only [List.length_set]; omega)) Tryz.call134 false [] [] [(1220, 6, (r.hard.log.map encEnt)), (1221, 1, (r.yes.map encI)), (1222, 1, ((r.next.set ((m.from_).toNat) ((max e1 m.at_) + 1)).map encI)), (1223, 1, ((r.match_.set ((m.from_).toNat) (max e1 m.at_)).map encI))] ⟨rfl, ⟨45, (r.hard.log.map encEnt), by kernel_rfl, FrzIs.same (allP_encEnt _)⟩, rfl, ⟨3, (r.yes.map encI), by kernel_rfl, FrzIs.same (allP_encI _)⟩, rfl, ⟨3, ((r.next.set ((m.from_).toNat) ((max e1 m.at_) + 1)).map encI), by kernel_rfl, FrzIs.same (allP_encI _)⟩, rfl, ⟨3, ((r.match_.set ((m.from_).toNat) (max e1 m.at_)).map encI), by kernel_rfl, FrzIs.same (allP_encI _)⟩, trivial⟩ <| At.z 2 <| AW.q 6 <| AW.ret (rf (k3 (K_spec_OnGot _ r m) (show ((⟨r.id, r.of_, r.role, commitOf (⟨r.id, r.of_, r.role, r.commit, r.hard, r.yes, r.next.set ((m.from_).toNat) ((max e1 m.at_) + 1), r.match_.set ((m.from_).toNat) (max e1 m.at_)⟩ : Raft), r.hard, r.yes, r.next.set ((m.from_).toNat) ((max e1 m.at_) + 1), r.match_.set ((m.from_).toNat) (max e1 m.at_)⟩ : Raft)) = _ from by rw [gots_yes h1 (by omega) (by omega) (by omega) (by assumption) (by omega) (by assumption)]) (show ([]) = _ from by rw [gots_yes h1 (by omega) (by omega) (by omega) (by assumption) (by omega) (by assumption)]) (show ([]) = _ from by rw [gots_yes h1 (by omega) (by omega) (by omega) (by assumption) (by omega) (by assumption)]) (KF.n [(1220, 0), (1221, 1), (1222, 2), (1223, 3), (112, 4), (113, 5)])))
       exact AW.skip <| AW.q 6 <| AW.ret (rf (k3 (K_spec_OnGot _ r m) (show (r) = _ from by rw [gots_far h1 (by omega) (by omega) (by omega) (by assumption) (by omega)]) (show ([]) = _ from by rw [gots_far h1 (by omega) (by omega) (by omega) (by assumption) (by omega)]) (show ([]) = _ from by rw [gots_far h1 (by omega) (by omega) (by omega) (by assumption) (by omega)]) (KF.n [(1220, 0), (1221, 1), (1222, 2), (1223, 3), (112, 4), (113, 5)])))
     refine AW.skip <| AW.seq <| AW.gD Tryz_mix <| At.a 8 <| At.iRf 27 99 (.tmp 96) (.tmp 98) 1222 (r.next.map encI) .i64 m.from_ 3 1 (by omega) (by simp only [List.length_map]; omega) ?_
     refine Exists.elim (gE r.next ((m.from_).toNat) (by omega)) fun e3 he3 => ?_
     have hxe3 := hnx.2.1 _ (List.mem_of_getElem? he3)
     refine At.lEl 3 100 (.tmp 99) 1222 3 1 (r.next.map encI) ((m.from_).toNat) 0 false 1 (encI e3) (nI e3) (mapGet he3) <| At.a 1 <| At.sI 101 (e3 - 1) (by omega) <| At.a 3 <| At.sI 104 (m.at_ + 1) (by omega) <| At.c (spec_l1Min_spec (e3 - 1) (m.at_ + 1)) Tryz.call83 true [] [] [] trivial <| At.c (spec_l1Max_spec 1 (min (e3 - 1) (m.at_ + 1))) Tryz.call19 true [] [] [] trivial <| At.iRf 27 107 (.tmp 92) (.tmp 94) 1222 (r.next.map encI) .i64 m.from_ 3 1 (by omega) (by simp only [List.length_map]; omega) <| At.sEl 3 1222 3 1 ((m.from_).toNat) 0 (.tmp 107) (.tmp 106) (r.next.map encI) ((r.next.set ((m.from_).toNat) (max 1 (min (e3 - 1) (m.at_ + 1)))).map encI) [nI (max 1 (min (e3 - 1) (m.at_ + 1)))] (nI (max 1 (min (e3 - 1) (m.at_ + 1)))) (encI e3) (encI (max 1 (min (e3 - 1) (m.at_ + 1)))) (mapGet he3) setV <| At.done rfl ⟨by kernel_rfl, ?_⟩
     refine AW.seq <| AW.gD Tryz_mix <| At.a 6 <| At.c (spec_l10Send_spec ⟨r.id, r.of_, r.role, r.commit, r.hard, r.yes, r.next.set ((m.from_).toNat) (max 1 (min (e3 - 1) (m.at_ + 1))), r.match_⟩ m.from_ (by unfold SmallR; simp only [List.length_set]; omega) (by dsimp only; simp only [List.length_set]; omega) (nextOk_set hnx.2.1 rfl rfl (by omega))) Tryz.call128 false [] [(3280, 0)] [(1220, 6, (r.hard.log.map encEnt)), (1221, 1, (r.yes.map encI)), (1222, 1, ((r.next.set ((m.from_).toNat) (max 1 (min (e3 - 1) (m.at_ + 1)))).map encI)), (1223, 1, (r.match_.map encI))] ⟨rfl, ⟨45, (r.hard.log.map encEnt), by kernel_rfl, FrzIs.same (allP_encEnt _)⟩, rfl, ⟨3, (r.yes.map encI), by kernel_rfl, FrzIs.same (allP_encI _)⟩, rfl, ⟨3, ((r.next.set ((m.from_).toNat) (max 1 (min (e3 - 1) (m.at_ + 1)))).map encI), by kernel_rfl, FrzIs.same (allP_encI _)⟩, rfl, ⟨3, (r.match_.map encI), by kernel_rfl, FrzIs.same (allP_encI _)⟩, trivial⟩ <| At.lk 115 51 17 215 (45, 6) [3280] (([(sendOf (⟨r.id, r.of_, r.role, r.commit, r.hard, r.yes, r.next.set ((m.from_).toNat) (max 1 (min (e3 - 1) (m.at_ + 1))), r.match_⟩ : Raft) m.from_)]).map encOut) [(45, 6, (((sendOf (⟨r.id, r.of_, r.role, r.commit, r.hard, r.yes, r.next.set ((m.from_).toNat) (max 1 (min (e3 - 1) (m.at_ + 1))), r.match_⟩ : Raft) m.from_).msg.entries).map encEnt))] (by intro p hp; simp only [List.mem_cons, List.not_mem_nil, or_false] at hp; subst hp; all_goals exact flatEnts) <| At.apK 116 51 17 168 216 113 215 encOut ([] : List Out) ([(sendOf (⟨r.id, r.of_, r.role, r.commit, r.hard, r.yes, r.next.set ((m.from_).toNat) (max 1 (min (e3 - 1) (m.at_ + 1))), r.match_⟩ : Raft) m.from_)]) (by simp only [List.length_map, lens]; omega) ?_
     exact At.zD 3 <| AW.ret (rf (k3 (K_spec_OnGot _ r m) (show ((⟨r.id, r.of_, r.role, r.commit, r.hard, r.yes, r.next.set ((m.from_).toNat) (max 1 (min (e3 - 1) (m.at_ + 1))), r.match_⟩ : Raft)) = _ from by rw [gots_no h1 (by omega) (by omega) (by omega) (by assumption) (by assumption)]) (show ([]) = _ from by rw [gots_no h1 (by omega) (by omega) (by omega) (by assumption) (by assumption)]) (show ([(sendOf (⟨r.id, r.of_, r.role, r.commit, r.hard, r.yes, r.next.set ((m.from_).toNat) (max 1 (min (e3 - 1) (m.at_ + 1))), r.match_⟩ : Raft) m.from_)]) = _ from by rw [gots_no h1 (by omega) (by omega) (by omega) (by assumption) (by assumption)]) (KF.n [(1220, 0), (1221, 1), (1222, 2), (1223, 3), (112, 4), (216, 5)])))
   refine At.sB 41 _ _ (sayUT h3) <| At.z 7 <| AW.cond true (by kernel_rfl) (fun _ => ?_) (fun h => by cases h)
   exact AW.q 6 <| AW.ret (rf (k3 (K_spec_OnGot _ r m) (show (r) = _ from by rw [gots_not h1 (by omega) (by omega)]) (show ([]) = _ from by rw [gots_not h1 (by omega) (by omega)]) (show ([]) = _ from by rw [gots_not h1 (by omega) (by omega)]) (KF.n [(1220, 0), (1221, 1), (1222, 2), (1223, 3), (112, 4), (113, 5)])))
 exact AW.q 5 <| AW.seq <| AW.weak (Sub.nils [⟨true, 104, some 6, 5001, 45, 6⟩, ⟨true, 104, some 7, 5002, 3, 1⟩, ⟨true, 104, some 8, 5003, 3, 1⟩, ⟨true, 104, some 9, 5004, 3, 1⟩] (by kernel_rfl)) <| AW.g <| At.a 1 <| At.c (spec_l10Same_F_spec r (by exact hz) hok) Tryz.call101 true [] (fr 1220 0 4) [] trivial <| At.l0 37 12 47 10 88 112 <| At.l0 38 13 51 17 168 113 <| At.z 4 <| AW.seq <| AW.r <| At.a 2 <| At.c (spec_l10Hears_spec r m 4 (by exact hz) hm) Tryz.call129 true [] [] [] trivial <| At.z 1 <| AW.cT (!(hears r m 4)) (by rw [show (hears r m 4) = false from (hears_no hok)]; rfl) <| AW.q 6 <| AW.ret (rf (k3 (K_spec_OnGot _ r m) (show ((⟨0, 0, 0, 0, ⟨0, 0, []⟩, [], [], []⟩ : Raft)) = _ from by simp [gots, same, hok, hears_no hok]; try rfl) (show ([]) = _ from by simp [gots, same, hok, hears_no hok]; try rfl) (show ([]) = _ from by simp [gots, same, hok, hears_no hok]; try rfl) (KF.n [(1220, 0), (1221, 1), (1222, 2), (1223, 3), (112, 4), (113, 5)])))
def K_spec_l10On (rs : List ResultVar) (r : Raft) (m : Msg) (w0_ : Raft) (w1_ : List Rec) (w2_ : List Out) : Exit → Sg → Prop := KF Tryz.prog 0 rs (.tup [.agg (rC w0_ (.ref 0) (.ref 1) (.ref 2) (.ref 3)), .ref 4, .ref 5]) [.arr 45 6 (w0_.hard.log.map encEnt), .arr 3 1 (w0_.yes.map encI), .arr 3 1 (w0_.next.map encI), .arr 3 1 (w0_.match_.map encI), .arr 47 10 (w1_.map encRec), .arr 51 17 (w2_.map encOut)]
theorem spec_l10On_spec (r : Raft) (m : Msg) (hz : SmallR r) (hm : m.entries.length ≤ 1048576) (hok : raftOk r = true) : FnSpec Tryz.prog 84 [(raftA r), (msgA m)] [] (.tup [.agg (rC ((onR r m).1) (.ref 0) (.ref 1) (.ref 2) (.ref 3)), .ref 4, .ref 5]) [.arr 45 6 ((((onR r m).1).hard.log).map encEnt), .arr 3 1 ((((onR r m).1).yes).map encI), .arr 3 1 ((((onR r m).1).next).map encI), .arr 3 1 ((((onR r m).1).match_).map encI), .arr 47 10 (((onR r m).2.1).map encRec), .arr 51 17 (((onR r m).2.2).map encOut)]:= by
 obtain ⟨z1, z2, z3, z4⟩ := id hz
 refine FnSpec.of 45 Tryz.func84 rfl Tryz.ntmps84 (by simp) (AW.weakK ?_)
 refine AW.q 5 <| AW.seq <| AW.seq <| AW.weak (Sub.nils [⟨true, 104, some 6, 5001, 45, 6⟩, ⟨true, 104, some 7, 5002, 3, 1⟩, ⟨true, 104, some 8, 5003, 3, 1⟩, ⟨true, 104, some 9, 5004, 3, 1⟩] (by kernel_rfl)) <| AW.gq 2 <| AW.block <| AW.q 2 <| AW.cE m.kind (1 : Int) (fun h1 => ?_) (fun h1 => ?_)
 · exact AW.r <| At.a 2 <| At.c (spec_OnAsk_spec r m hz hm) Tryz.call107 true [] (fr 1260 0 6) [] trivial <| At.z 6 <| AW.ret (rf (k3 (K_spec_l10On _ r m) (show ((askR r m)) = _ from by simp only [onR, h1, if_true, if_false] <;> first | rfl | (rw [same_ok hok])) (show (askRecs r m) = _ from by simp only [onR, h1, if_true, if_false] <;> first | rfl | (rw [same_ok hok])) (show (askOuts r m) = _ from by simp only [onR, h1, if_true, if_false] <;> first | rfl | (rw [same_ok hok])) (KF.n (fr 1260 0 6))))
 refine AW.q 2 <| AW.cE m.kind (2 : Int) (fun h2 => ?_) (fun h2 => ?_)
 · exact AW.r <| At.a 2 <| At.c (spec_OnYes_spec r m hz hm) Tryz.call108 true [] (fr 1420 0 6) [] trivial <| At.z 6 <| AW.ret (rf (k3 (K_spec_l10On _ r m) (show (((yess r m).1)) = _ from by simp only [onR, h1, h2, if_true, if_false] <;> rfl) (show ((yess r m).2.1) = _ from by simp only [onR, h1, h2, if_true, if_false] <;> rfl) (show ((yess r m).2.2) = _ from by simp only [onR, h1, h2, if_true, if_false] <;> rfl) (KF.n (fr 1420 0 6))))
 refine AW.q 2 <| AW.cE m.kind (3 : Int) (fun h3 => ?_) (fun h3 => ?_)
 · exact AW.r <| At.a 2 <| At.c (spec_OnSend_spec r m hz hm) Tryz.call109 true [] (fr 1580 0 6) [] trivial <| At.z 6 <| AW.ret (rf (k3 (K_spec_l10On _ r m) (show (((sends r m).1)) = _ from by simp only [onR, h1, h2, h3, if_true, if_false] <;> rfl) (show ((sends r m).2.1) = _ from by simp only [onR, h1, h2, h3, if_true, if_false] <;> rfl) (show ((sends r m).2.2) = _ from by simp only [onR, h1, h2, h3, if_true, if_false] <;> rfl) (KF.n (fr 1580 0 6))))
 refine AW.q 2 <| AW.cE m.kind (4 : Int) (fun h4 => ?_) (fun h4 => ?_)
 · exact AW.r <| At.a 2 <| At.c (spec_OnGot_spec r m hz hm) Tryz.call110 true [] (fr 1740 0 6) [] trivial <| At.z 6 <| AW.ret (rf (k3 (K_spec_l10On _ r m) (show (((gots r m).1)) = _ from by simp only [onR, h1, h2, h3, h4, if_true, if_false] <;> rfl) (show ((gots r m).2.1) = _ from by simp only [onR, h1, h2, h3, h4, if_true, if_false] <;> rfl) (show ((gots r m).2.2) = _ from by simp only [onR, h1, h2, h3, h4, if_true, if_false] <;> rfl) (KF.n (fr 1740 0 6))))
 exact AW.skip <| AW.r <| At.a 1 <| At.c (spec_l10Same_T_spec r hz hok) Tryz.call101 true [] (fr 1840 0 4) [] trivial <| At.l0 37 43 47 10 88 143 <| At.l0 38 44 51 17 168 144 <| At.z 3 <| AW.ret (rf (k3 (K_spec_l10On _ r m) (show (r) = _ from by simp only [onR, h1, h2, h3, h4, if_true, if_false] <;> rw [same_ok hok]) (show ([]) = _ from by simp only [onR, h1, h2, h3, h4, if_true, if_false] <;> first | rfl | (rw [same_ok hok])) (show ([]) = _ from by simp only [onR, h1, h2, h3, h4, if_true, if_false] <;> first | rfl | (rw [same_ok hok])) (KF.n [(1840, 0), (1841, 1), (1842, 2), (1843, 3), (143, 4), (144, 5)])))
theorem spec_l10DrawNet_spec (c : Cur) (steps : Int) (hp : 0 ≤ c.pos ∧ c.pos ≤ c.data.length ∧ c.data.length ≤ 1048576) (hs : 0 ≤ steps ∧ steps ≤ 1000) : ∃ rho_ : Int × Int × List Raft × List Out, (0 ≤ rho_.1 ∧ rho_.1 ≤ c.data.length ∧ NetOk rho_.2.2.1 rho_.2.2.2) ∧ FnSpec Tryz.prog 43 [.ptr 0 0 0, nI steps] [.box 71 [.sl false 1 (c.data.map encU8), nI c.pos, nI c.seed]] (.tup [.ref 1, .ref 2]) [.box 71 [.sl false 1 (c.data.map encU8), nI rho_.1, nI rho_.2.1], .arr 29 10 (rho_.2.2.1.map encRaft), .arr 51 17 (rho_.2.2.2.map encOutT)]:= by
 refine dv (fun h_ => FnSpec.of 154 Tryz.func43 rfl Tryz.ntmps43 (by simp) (AW.weakK h_)) ?_
 refine dv (AW.q 2 <| AW.r <| At.a 1 <| At.ll 20 3 1 120 (45, 6) (([3, 3, 3, 5, 1]).map encI) ·) ?_
 refine exE (spec_l1PickInt_spec c ([3, 3, 3, 5, 1]) (by omega) (by decide)) fun r1_ qr1_ hr1_ => ?_
 try dsimp only at qr1_
 refine dv (At.c (hr1_) Tryz.call78 true [(0, 0), (120, 1)] [] [] trivial ·) ?_
 have hof : r1_.2.2 = 1 ∨ r1_.2.2 = 3 ∨ r1_.2.2 = 5 := by have q := qr1_.2.2; simp only [List.mem_cons, List.not_mem_nil, or_false] at q; omega
 refine dv (At.z 1 <| AW.r <| At.l0 72 22 29 10 144 122 <| At.z 1 <| AW.seq <| AW.q 1 <| AW.block ·) ?_
 refine DW.loopQ (fun (x : Nat × List Raft) => match x with | (i, ns) => Go.Sy.mk [.ptr 0 0 0, nI steps, .un, .un, .un, .un, nI r1_.2.2, .ref 122, nI (i : Int)] [(0, .box 71 [.sl false 1 (c.data.map encU8), nI r1_.1, nI r1_.2.1]), (122, .arr 29 10 (ns.map encRaft))]) (fun (i, ns) => (i : Int) ≤ r1_.2.2 ∧ ns.length = i ∧ ∀ r ∈ ns, NodeIn r1_.2.2 r) (fun (i, ns) => (r1_.2.2).toNat - i) (0, []) ⟨by omega, rfl, fun r hr => by cases hr⟩ (Sub.o (dg [0, 122]) (bs 9 451)) ?_
 rintro ⟨i, ns⟩ ⟨hi, hl, hns⟩ ih1
 refine dv (AW.seq <| AW.q 3 ·) ?_
 by_cases h1 : (i : Int) < r1_.2.2
 · refine dv (AW.dT h1 <| AW.skip <| AW.seq <| AW.block <| AW.r <| At.a 3 ·) ?_
   refine dv (At.c (FnSpec.nz (As := [nI (i : Int), nI r1_.2.2, .agg [nI 0, nI 0, .nil]]) 6 (spec_RaftNew_spec (i : Int) r1_.2.2 ⟨0, 0, []⟩ (by simp))) Tryz.call79 true [] (fr 1640 0 4) [] trivial ·) ?_
   refine dv (At.z 6 <| AW.g <| At.a 2 ·) ?_
   refine dv (At.lk 37 29 10 137 (45, 6) [1640, 1641, 1642, 1643] (([((newR (i : Int) r1_.2.2 (⟨0, 0, []⟩ : Hard)).1)]).map encRaft) [(45, 6, ((((newR (i : Int) r1_.2.2 (⟨0, 0, []⟩ : Hard)).1).hard.log).map encEnt)), (3, 1, ((((newR (i : Int) r1_.2.2 (⟨0, 0, []⟩ : Hard)).1).yes).map encI)), (3, 1, ((((newR (i : Int) r1_.2.2 (⟨0, 0, []⟩ : Hard)).1).next).map encI)), (3, 1, ((((newR (i : Int) r1_.2.2 (⟨0, 0, []⟩ : Hard)).1).match_).map encI))] (by intro p hp; simp only [List.mem_cons, List.not_mem_nil, or_false] at hp; rcases hp with rfl | rfl | rfl | rfl; all_goals first | exact flatEnts | exact flatInts) ·) ?_
   refine dv (At.apK 38 29 10 144 138 122 137 encRaft ns ([((newR (i : Int) r1_.2.2 (⟨0, 0, []⟩ : Hard)).1)]) (by simp only [List.length_map, lens]; omega) ·) ?_
   refine dv (At.z 1 <| AW.g <| At.a 2 ·) ?_
   refine dv (At.sI 27 ((i : Int) + 1) (by omega) ·) ?_
   refine dv (At.z 1 ·) ?_
   exact dw (fun _ h_ => AWL.weak (Sub.o [(0, 0), (138, 122)] (bs 9 451)) h_) (ih1 (i + 1, (ns ++ ([((newR (i : Int) r1_.2.2 (⟨0, 0, []⟩ : Hard)).1)]))) (⟨by omega, by simp only [lens]; omega, nodes_app hns (newR_in hof (by omega) (by omega))⟩) (by simp only; omega))
 refine dv (AW.dF h1 <| AW.exit <| AW.r <| At.l0 38 39 51 17 168 139 <| At.z 1 <| AW.seq <| AW.weak (Sub.frzIn 139 51 17 [] [] (by kernel_rfl) (frzNil)) <| AW.g <| At.a 3 ·) ?_
 refine dv (At.sI 42 (steps + 1) (by omega) ·) ?_
 refine exE (spec_l1Below_spec ⟨c.data, r1_.1, r1_.2.1⟩ (steps + 1) (by dsimp only; omega)) fun r2_ qr2_ hr2_ => ?_
 try simp only [Int.reduceLT, Int.reduceLE, true_implies, false_implies, and_true] at qr2_
 refine dv (At.c (hr2_) Tryz.call45 true [(0, 0)] [] [] trivial <| At.z 1 <| AW.seq <| AW.q 1 <| AW.block ·) ?_
 refine DW.loopQ (fun (x : Nat × List Raft × List Out × Int × Int) => match x with | (k, ns, ml, p, s) => Go.Sy.mk [.ptr 0 0 0, .un, .un, .un, .un, .un, nI r1_.2.2, .ref 122, .un, .un, .un, .ref 139, nI r2_.2.2, nI (k : Int)] [(0, .box 71 [.sl false 1 (c.data.map encU8), nI p, nI s]), (122, .arr 29 10 (ns.map encRaft)), (139, .arr 51 17 (ml.map encOutT))]) (fun (k, ns, ml, p, s) => (k : Int) ≤ r2_.2.2 ∧ (ns.length : Int) = r1_.2.2 ∧ (∀ r ∈ ns, NodeIn r1_.2.2 r) ∧ (ml.length ≤ 30 ∧ MailIn r1_.2.2 ml) ∧ (0 ≤ p ∧ p ≤ c.data.length)) (fun (k, ns, ml, p, s) => (r2_.2.2 : Int).toNat - k) (0, ns, [], r2_.1, r2_.2.1) ⟨by omega, by omega, hns, ⟨by simp, fun o ho => by cases ho⟩, by omega⟩ (Sub.o (dg [0, 122, 139]) (bs 14 14529)) ?_
 rintro ⟨k, ns, ml, p, s⟩ ⟨hk, hl, hns, ⟨hm, hml⟩, hpp⟩ ih2
 refine dv (AW.seq <| AW.q 3 ·) ?_
 by_cases h2 : (k : Int) < r2_.2.2
 · refine dv (AW.dT h2 <| AW.skip <| AW.seq <| AW.block <| AW.r <| At.a 2 ·) ?_
   refine exE (spec_l1Below_spec ⟨c.data, p, s⟩ r1_.2.2 (by dsimp only; omega)) fun r3_ qr3_ hr3_ => ?_
   try simp only [Int.reduceLT, Int.reduceLE, true_implies, false_implies, and_true] at qr3_
   refine dv (At.c (hr3_) Tryz.call45 true [(0, 0)] [] [] trivial <| At.z 1 <| AW.r <| At.l0 38 52 51 17 168 152 <| At.z 1 <| AW.seq <| AW.seq <| AW.weak (Sub.frzIn 152 51 17 [] [] (by kernel_rfl) (frzNil)) <| AW.g <| At.a 1 ·) ?_
   refine exE (spec_l1Below_spec ⟨c.data, r3_.1, r3_.2.1⟩ 12 (by dsimp only; omega)) fun r4_ qr4_ hr4_ => ?_
   replace qr4_ := bpos qr4_ (by decide)
   try dsimp only at qr4_
   refine dv (At.c (hr4_) Tryz.call45 true [(0, 0)] [] [] trivial <| At.done rfl <| AW.block <| AW.q 2 ·) ?_
   by_cases h3 : r4_.2.2 = 0
   · refine dv (AW.cT (r4_.2.2 == 0) (beq_iff_eq.2 h3) ·) ?_
     refine Exists.elim (gE ns ((r3_.2.2).toNat) (by omega)) fun e1 he1 => ?_
     have hye1 := hns _ (List.mem_of_getElem? he1)
     have hnne1 := hye1.nums
     have hsme1 := hnne1.2.2.2.2.2
     have hoke1 := hye1.1
     refine dv (AW.weak (Sub.openL 122 ((r3_.2.2).toNat) 29 10 (ns.map encRaft) (encRaft e1) (fr 6 5001 4) (by kernel_rfl) (mapGet he1) (by kernel_rfl)) <| AW.g <| At.a 4 ·) ?_
     refine dv (At.idxH 72 100 (.tmp 98) (.tmp 99) 122 ((ns.map encRaft).set ((r3_.2.2).toNat) (.agg (rC e1 .un .un .un .un))) ((r3_.2.2).toNat) [(9, 5004), (8, 5003), (7, 5002), (6, 5001)] .i64 (r3_.2.2) 29 10 (by omega) (by rw [List.length_set, List.length_map]; omega) ·) ?_
     refine dv (At.ldH 29 101 (.tmp 100) 122 29 10 ((ns.map encRaft).set ((r3_.2.2).toNat) (.agg (rC e1 .un .un .un .un))) ((r3_.2.2).toNat) [(9, 5004), (8, 5003), (7, 5002), (6, 5001)] 0 true 10 (.agg (rC e1 .un .un .un .un)) (.agg (rC e1 (.ref 5001) (.ref 5002) (.ref 5003) (.ref 5004))) (setGet (mapGet he1)) ·) ?_
     refine dv (At.c (spec_RaftStand_spec e1 (by assumption)) Tryz.call80 false [] (fr 3040 0 6) [(5001, 6, (e1.hard.log.map encEnt)), (5002, 1, (e1.yes.map encI)), (5003, 1, (e1.next.map encI)), (5004, 1, (e1.match_.map encI))] ⟨rfl, ⟨45, (e1.hard.log.map encEnt), by kernel_rfl, FrzIs.same (allP_encEnt _)⟩, rfl, ⟨3, (e1.yes.map encI), by kernel_rfl, FrzIs.same (allP_encI _)⟩, rfl, ⟨3, (e1.next.map encI), by kernel_rfl, FrzIs.same (allP_encI _)⟩, rfl, ⟨3, (e1.match_.map encI), by kernel_rfl, FrzIs.same (allP_encI _)⟩, trivial⟩ ·) ?_
     have hou := stands_in hye1
     have hnd := hou.1
     have hle := hou.2.1
     have hmo : MailIn r1_.2.2 _ := hou.2.2
     refine dv (At.a 4 ·) ?_
     refine dv (At.idxH 72 106 (.tmp 96) (.tmp 97) 122 ((ns.map encRaft).set ((r3_.2.2).toNat) (.agg (rC e1 .un .un .un .un))) ((r3_.2.2).toNat) [(9, 5004), (8, 5003), (7, 5002), (6, 5001)] .i64 (r3_.2.2) 29 10 (by omega) (by rw [List.length_set, List.length_map]; omega) ·) ?_
     refine dv (At.stH 29 122 29 10 ((r3_.2.2).toNat) (.tmp 106) (.tmp 103) ((ns.map encRaft).set ((r3_.2.2).toNat) (.agg (rC e1 .un .un .un .un))) (rC ((stands e1).1) (.ref 3040) (.ref 3041) (.ref 3042) (.ref 3043)) (rC e1 .un .un .un .un) [(9, 5004), (8, 5003), (7, 5002), (6, 5001)] (setGet (mapGet he1)) <| At.z 1 <| AW.seq ·) ?_
     refine dv (AW.weak (Sub.closeL 122 ((r3_.2.2).toNat) 29 10 (((ns.map encRaft).set ((r3_.2.2).toNat) (.agg (rC e1 .un .un .un .un))).set ((r3_.2.2).toNat) (.agg (rC ((stands e1).1) .un .un .un .un))) ((ns.set ((r3_.2.2).toNat) ((stands e1).1)).map encRaft) (fr 6 3040 4) (.agg (rC ((stands e1).1) .un .un .un .un)) (encRaft ((stands e1).1)) [(45, 6, ((((stands e1).1).hard.log).map encEnt)), (3, 1, ((((stands e1).1).yes).map encI)), (3, 1, ((((stands e1).1).next).map encI)), (3, 1, ((((stands e1).1).match_).map encI))] (by kernel_rfl) (setGet (setGet (mapGet he1))) (by kernel_rfl) (by kernel_rfl) (by intro p hp; simp only [List.mem_cons, List.not_mem_nil, or_false] at hp; rcases hp with rfl | rfl | rfl | rfl; all_goals first | exact flatEnts | exact flatInts) (by kernel_rfl) (by kernel_rfl) (by rw [List.set_set, List.set_set]; exact setV.symm)) ·) ?_
     refine dv (AW.weak (Sub.frzIn 3045 51 17 (((stands e1).2.2).map encOut) (((stands e1).2.2).map encOutT) (by kernel_rfl) (frzOutT _)) <| AW.g <| At.a 2 ·) ?_
     refine dv (At.apC 146 51 17 168 246 139 3045 encOutT ml ((stands e1).2.2) (by omega) (allP_encOutT _) ·) ?_
     refine dv (At.z 1 <| AW.r <| At.a 2 <| At.sL 148 encOutT (ml ++ ((stands e1).2.2)) <| At.z 1 ·) ?_
     by_cases h4 : ((ml ++ ((stands e1).2.2)).length : Int) > 30
     · refine dv (AW.dT h4 <| AW.g <| At.a 1 ·) ?_
       refine dv (At.cutRef (t := 38) (d := 151) (e := 51) (es := 17) (i := 246) (x := .tmp 150) (lx := none) (hx := some (.const (.int .i64 30))) (xs := ((ml ++ ((stands e1).2.2)).map encOutT)) (vl := .un) (vh := nI 30) 251 30 (((ml ++ ((stands e1).2.2)).take 30).map encOutT) (by kernel_rfl) (by kernel_rfl) (by kernel_rfl) (by kernel_rfl) (by kernel_rfl) (by kernel_rfl) (by decide) (.inl ⟨rfl, rfl⟩) (.inr ⟨_, _, rfl, rfl⟩) (by simp only [List.length_map]; omega) (by rw [List.map_take]) ·) ?_
       refine dv (At.z 1 <| AW.g <| At.a 2 ·) ?_
       refine dv (At.sI 48 ((k : Int) + 1) (by omega) ·) ?_
       refine dv (At.z 1 ·) ?_
       exact dw (fun _ h_ => AWL.weak (Sub.o [(0, 0), (122, 122), (251, 139)] (bs 14 14529)) h_) (ih2 (k + 1, (ns.set ((r3_.2.2).toNat) ((stands e1).1)), ((ml ++ ((stands e1).2.2)).take 30), r4_.1, r4_.2.1) (⟨by omega, by (try simp only [List.length_set]); omega, by exact NodesIn.set hns _ hnd, ⟨by (try simp only [lens] at *); omega, by exact mail_take (mail_app hml hmo) _⟩, by omega⟩) (by simp only; omega))
     refine dv (AW.dF h4 <| AW.skip <| AW.g <| At.a 2 ·) ?_
     refine dv (At.sI 48 ((k : Int) + 1) (by omega) ·) ?_
     refine dv (At.z 1 ·) ?_
     exact dw (fun _ h_ => AWL.weak (Sub.o [(0, 0), (122, 122), (246, 139)] (bs 14 14529)) h_) (ih2 (k + 1, (ns.set ((r3_.2.2).toNat) ((stands e1).1)), (ml ++ ((stands e1).2.2)), r4_.1, r4_.2.1) (⟨by omega, by (try simp only [List.length_set]); omega, by exact NodesIn.set hns _ hnd, ⟨by (try simp only [lens] at *); omega, by exact mail_app hml hmo⟩, by omega⟩) (by simp only; omega))
   refine dv (AW.cF (r4_.2.2 == 0) (beq_eq_false_iff_ne.2 h3) <| AW.seq <| AW.q 2 ·) ?_
   by_cases h5 : r4_.2.2 = 1
   · refine dv (AW.cT (r4_.2.2 == 1) (beq_iff_eq.2 h5) <| AW.skip ·) ?_
     by_cases h6 : r4_.2.2 = 1
     · refine dv (AW.cT (r4_.2.2 == 1) (beq_iff_eq.2 h6) <| AW.seq <| AW.q 1 <| AW.block ·) ?_
       refine DW.loopQ (fun (x : Nat × Int) => match x with | (j, i) => Go.Sy.mk [.ptr 0 0 0, .un, .un, .un, .un, .un, nI r1_.2.2, .ref 122, .un, .un, .un, .ref 139, nI r2_.2.2, nI (k : Int), nI i, .un, nI (j : Int)] [(0, .box 71 [.sl false 1 (c.data.map encU8), nI r4_.1, nI r4_.2.1]), (122, .arr 29 10 (ns.map encRaft)), (139, .arr 51 17 (ml.map encOutT))]) (fun (j, i) => (j : Int) ≤ r1_.2.2 ∧ 0 ≤ i ∧ i < r1_.2.2) (fun (j, i) => (r1_.2.2).toNat - j) (0, r3_.2.2) (by simp only; omega) (Sub.o (dg [0, 122, 139]) (bs 17 96449)) ?_
       rintro ⟨j, i⟩ hj ih3
       refine dv (AW.seq <| AW.q 3 ·) ?_
       by_cases h7 : (j : Int) < r1_.2.2
       · refine dv (AW.dT h7 <| AW.skip <| AW.seq <| AW.block <| AW.r <| At.a 2 ·) ?_
         refine dv (At.iRf 72 117 (.tmp 115) (.tmp 116) 122 (ns.map encRaft) .i64 (j : Int) 29 10 (by omega) (by simp only [List.length_map]; omega) ·) ?_
         refine dv (At.a 1 ·) ?_
         refine Exists.elim (gE ns j (by omega)) fun e2 he2 => ?_
         have hye2 := hns _ (List.mem_of_getElem? he2)
         have hnne2 := hye2.nums
         have hsme2 := hnne2.2.2.2.2.2
         have hoke2 := hye2.1
         refine dv (At.ldP 3 119 (.tmp 118) 122 29 10 (ns.map encRaft) j 2 false 1 (encRaft e2) (nI e2.role) (mapGet he2) <| At.z 1 ·) ?_
         by_cases h8 : e2.role = 3
         · refine dv (AW.cT (e2.role == 3) (beq_iff_eq.2 h8) <| AW.gq 2 <| AW.g <| At.a 2 ·) ?_
           refine dv (At.sI 114 ((j : Int) + 1) (by omega) ·) ?_
           refine dv (At.z 1 ·) ?_
           exact dw (fun _ h_ => AWL.weak (Sub.o (dg [0, 122, 139]) (bs 17 96449)) h_) (ih3 (j + 1, (j : Int)) (by simp only; omega) (by simp only; omega))
         refine dv (AW.cF (e2.role == 3) (beq_eq_false_iff_ne.2 h8) <| AW.skip <| AW.g <| At.a 2 ·) ?_
         refine dv (At.sI 114 ((j : Int) + 1) (by omega) ·) ?_
         refine dv (At.z 1 ·) ?_
         exact dw (fun _ h_ => AWL.weak (Sub.o (dg [0, 122, 139]) (bs 17 96449)) h_) (ih3 (j + 1, i) (by simp only; omega) (by simp only; omega))
       refine dv (AW.dF h7 <| AW.exit ·) ?_
       refine Exists.elim (gE ns ((i).toNat) (by omega)) fun e3 he3 => ?_
       have hye3 := hns _ (List.mem_of_getElem? he3)
       have hnne3 := hye3.nums
       have hsme3 := hnne3.2.2.2.2.2
       have hoke3 := hye3.1
       refine dv (AW.weak (Sub.openL 122 ((i).toNat) 29 10 (ns.map encRaft) (encRaft e3) (fr 6 5005 4) (by kernel_rfl) (mapGet he3) (by kernel_rfl)) <| AW.gD Tryz_mix <| At.a 4 ·) ?_
       refine dv (At.idxH 72 127 (.tmp 125) (.tmp 126) 122 ((ns.map encRaft).set ((i).toNat) (.agg (rC e3 .un .un .un .un))) ((i).toNat) [(9, 5008), (8, 5007), (7, 5006), (6, 5005)] .i64 (i) 29 10 (by omega) (by rw [List.length_set, List.length_map]; omega) ·) ?_
       refine dv (At.ldH 29 128 (.tmp 127) 122 29 10 ((ns.map encRaft).set ((i).toNat) (.agg (rC e3 .un .un .un .un))) ((i).toNat) [(9, 5008), (8, 5007), (7, 5006), (6, 5005)] 0 true 10 (.agg (rC e3 .un .un .un .un)) (.agg (rC e3 (.ref 5005) (.ref 5006) (.ref 5007) (.ref 5008))) (setGet (mapGet he3)) <| At.a 1 ·) ?_
       refine exE (spec_l5DrawRight_spec ⟨c.data, r4_.1, r4_.2.1⟩ (by dsimp only; omega)) fun r5_ qr5_ hr5_ => ?_
       try dsimp only at qr5_
       refine dv (At.c (hr5_) Tryz.call21 true [(0, 0)] [] [] trivial ·) ?_
       refine dv (At.c (spec_RaftPropose_spec e3 r5_.2.2 (by assumption)) Tryz.call81 false [] (fr 3620 0 6) [(5005, 6, (e3.hard.log.map encEnt)), (5006, 1, (e3.yes.map encI)), (5007, 1, (e3.next.map encI)), (5008, 1, (e3.match_.map encI))] ⟨rfl, ⟨45, (e3.hard.log.map encEnt), by kernel_rfl, FrzIs.same (allP_encEnt _)⟩, rfl, ⟨3, (e3.yes.map encI), by kernel_rfl, FrzIs.same (allP_encI _)⟩, rfl, ⟨3, (e3.next.map encI), by kernel_rfl, FrzIs.same (allP_encI _)⟩, rfl, ⟨3, (e3.match_.map encI), by kernel_rfl, FrzIs.same (allP_encI _)⟩, trivial⟩ ·) ?_
       have hou := prop_in r5_.2.2 hye3
       have hnd := hou.1
       have hle := hou.2.1
       have hmo : MailIn r1_.2.2 _ := hou.2.2
       refine dv (At.a 5 ·) ?_
       refine dv (At.idxH 72 136 (.tmp 123) (.tmp 124) 122 ((ns.map encRaft).set ((i).toNat) (.agg (rC e3 .un .un .un .un))) ((i).toNat) [(9, 5008), (8, 5007), (7, 5006), (6, 5005)] .i64 (i) 29 10 (by omega) (by rw [List.length_set, List.length_map]; omega) ·) ?_
       refine dv (At.stH 29 122 29 10 ((i).toNat) (.tmp 136) (.tmp 132) ((ns.map encRaft).set ((i).toNat) (.agg (rC e3 .un .un .un .un))) (rC (propR e3 r5_.2.2) (.ref 3620) (.ref 3621) (.ref 3622) (.ref 3623)) (rC e3 .un .un .un .un) [(9, 5008), (8, 5007), (7, 5006), (6, 5005)] (setGet (mapGet he3)) <| At.zD 1 <| AW.seq ·) ?_
       refine dv (AW.weak (Sub.closeL 122 ((i).toNat) 29 10 (((ns.map encRaft).set ((i).toNat) (.agg (rC e3 .un .un .un .un))).set ((i).toNat) (.agg (rC (propR e3 r5_.2.2) .un .un .un .un))) ((ns.set ((i).toNat) (propR e3 r5_.2.2)).map encRaft) (fr 6 3620 4) (.agg (rC (propR e3 r5_.2.2) .un .un .un .un)) (encRaft (propR e3 r5_.2.2)) [(45, 6, (((propR e3 r5_.2.2).hard.log).map encEnt)), (3, 1, (((propR e3 r5_.2.2).yes).map encI)), (3, 1, (((propR e3 r5_.2.2).next).map encI)), (3, 1, (((propR e3 r5_.2.2).match_).map encI))] (by kernel_rfl) (setGet (setGet (mapGet he3))) (by kernel_rfl) (by kernel_rfl) (by intro p hp; simp only [List.mem_cons, List.not_mem_nil, or_false] at hp; rcases hp with rfl | rfl | rfl | rfl; all_goals first | exact flatEnts | exact flatInts) (by kernel_rfl) (by kernel_rfl) (by rw [List.set_set, List.set_set]; exact setV.symm)) ·) ?_
       refine dv (AW.weak (Sub.frzIn 3625 51 17 ((propOuts e3 r5_.2.2).map encOut) ((propOuts e3 r5_.2.2).map encOutT) (by kernel_rfl) (frzOutT _)) <| AW.g <| At.a 2 ·) ?_
       refine dv (At.apC 146 51 17 168 246 139 3625 encOutT ml (propOuts e3 r5_.2.2) (by omega) (allP_encOutT _) ·) ?_
       refine dv (At.z 1 <| AW.r <| At.a 2 <| At.sL 148 encOutT (ml ++ (propOuts e3 r5_.2.2)) <| At.z 1 ·) ?_
       by_cases h9 : ((ml ++ (propOuts e3 r5_.2.2)).length : Int) > 30
       · refine dv (AW.dT h9 <| AW.g <| At.a 1 ·) ?_
         refine dv (At.cutRef (t := 38) (d := 151) (e := 51) (es := 17) (i := 246) (x := .tmp 150) (lx := none) (hx := some (.const (.int .i64 30))) (xs := ((ml ++ (propOuts e3 r5_.2.2)).map encOutT)) (vl := .un) (vh := nI 30) 251 30 (((ml ++ (propOuts e3 r5_.2.2)).take 30).map encOutT) (by kernel_rfl) (by kernel_rfl) (by kernel_rfl) (by kernel_rfl) (by kernel_rfl) (by kernel_rfl) (by decide) (.inl ⟨rfl, rfl⟩) (.inr ⟨_, _, rfl, rfl⟩) (by simp only [List.length_map]; omega) (by rw [List.map_take]) ·) ?_
         refine dv (At.z 1 <| AW.g <| At.a 2 ·) ?_
         refine dv (At.sI 48 ((k : Int) + 1) (by omega) ·) ?_
         refine dv (At.z 1 ·) ?_
         exact dw (fun _ h_ => AWL.weak (Sub.o [(0, 0), (122, 122), (251, 139)] (bs 14 14529)) h_) (ih2 (k + 1, (ns.set ((i).toNat) (propR e3 r5_.2.2)), ((ml ++ (propOuts e3 r5_.2.2)).take 30), r5_.1, r5_.2.1) (⟨by omega, by (try simp only [List.length_set]); omega, by exact NodesIn.set hns _ hnd, ⟨by (try simp only [lens] at *); omega, by exact mail_take (mail_app hml hmo) _⟩, by omega⟩) (by simp only; omega))
       refine dv (AW.dF h9 <| AW.skip <| AW.g <| At.a 2 ·) ?_
       refine dv (At.sI 48 ((k : Int) + 1) (by omega) ·) ?_
       refine dv (At.z 1 ·) ?_
       exact dw (fun _ h_ => AWL.weak (Sub.o [(0, 0), (122, 122), (246, 139)] (bs 14 14529)) h_) (ih2 (k + 1, (ns.set ((i).toNat) (propR e3 r5_.2.2)), (ml ++ (propOuts e3 r5_.2.2)), r5_.1, r5_.2.1) (⟨by omega, by (try simp only [List.length_set]); omega, by exact NodesIn.set hns _ hnd, ⟨by (try simp only [lens] at *); omega, by exact mail_app hml hmo⟩, by omega⟩) (by simp only; omega))
     refine dv (AW.cF (r4_.2.2 == 1) (beq_eq_false_iff_ne.2 h6) <| AW.q 2 ·) ?_
     by_cases h10 : r4_.2.2 = 3
     · refine dv (AW.cT (r4_.2.2 == 3) (beq_iff_eq.2 h10) ·) ?_
       refine Exists.elim (gE ns ((r3_.2.2).toNat) (by omega)) fun e4 he4 => ?_
       have hye4 := hns _ (List.mem_of_getElem? he4)
       have hnne4 := hye4.nums
       have hsme4 := hnne4.2.2.2.2.2
       have hoke4 := hye4.1
       refine dv (AW.weak (Sub.openL 122 ((r3_.2.2).toNat) 29 10 (ns.map encRaft) (encRaft e4) (fr 6 5009 4) (by kernel_rfl) (mapGet he4) (by kernel_rfl)) <| AW.g <| At.a 2 ·) ?_
       refine dv (At.idxH 72 141 (.tmp 139) (.tmp 140) 122 ((ns.map encRaft).set ((r3_.2.2).toNat) (.agg (rC e4 .un .un .un .un))) ((r3_.2.2).toNat) [(9, 5012), (8, 5011), (7, 5010), (6, 5009)] .i64 (r3_.2.2) 29 10 (by omega) (by rw [List.length_set, List.length_map]; omega) ·) ?_
       refine dv (At.ldH 29 142 (.tmp 141) 122 29 10 ((ns.map encRaft).set ((r3_.2.2).toNat) (.agg (rC e4 .un .un .un .un))) ((r3_.2.2).toNat) [(9, 5012), (8, 5011), (7, 5010), (6, 5009)] 0 true 10 (.agg (rC e4 .un .un .un .un)) (.agg (rC e4 (.ref 5009) (.ref 5010) (.ref 5011) (.ref 5012))) (setGet (mapGet he4)) ·) ?_
       refine dv (At.c (spec_RaftBeat_spec e4 (by assumption)) Tryz.call82 false [] [(3860, 0)] [(5009, 6, (e4.hard.log.map encEnt)), (5010, 1, (e4.yes.map encI)), (5011, 1, (e4.next.map encI)), (5012, 1, (e4.match_.map encI))] ⟨rfl, ⟨45, (e4.hard.log.map encEnt), by kernel_rfl, FrzIs.same (allP_encEnt _)⟩, rfl, ⟨3, (e4.yes.map encI), by kernel_rfl, FrzIs.same (allP_encI _)⟩, rfl, ⟨3, (e4.next.map encI), by kernel_rfl, FrzIs.same (allP_encI _)⟩, rfl, ⟨3, (e4.match_.map encI), by kernel_rfl, FrzIs.same (allP_encI _)⟩, trivial⟩ ·) ?_
       have hou := beat_in hye4
       have hle := hou.1
       have hmo : MailIn r1_.2.2 _ := hou.2
       refine dv (At.z 1 <| AW.seq ·) ?_
       refine dv (AW.weak (Sub.closeL 122 ((r3_.2.2).toNat) 29 10 ((ns.map encRaft).set ((r3_.2.2).toNat) (.agg (rC e4 .un .un .un .un))) (ns.map encRaft) [(9, 5012), (8, 5011), (7, 5010), (6, 5009)] (.agg (rC e4 .un .un .un .un)) (encRaft e4) [(3, 1, (e4.match_.map encI)), (3, 1, (e4.next.map encI)), (3, 1, (e4.yes.map encI)), (45, 6, (e4.hard.log.map encEnt))] (by kernel_rfl) (setGet (mapGet he4)) (by kernel_rfl) (by kernel_rfl) (by intro p hp; simp only [List.mem_cons, List.not_mem_nil, or_false] at hp; rcases hp with rfl | rfl | rfl | rfl; all_goals first | exact flatEnts | exact flatInts) (by kernel_rfl) (by kernel_rfl) (by rw [List.set_set]; exact set_self (mapGet he4))) ·) ?_
       refine dv (AW.weak (Sub.frzIn 3860 51 17 ((beat e4).map encOut) ((beat e4).map encOutT) (by kernel_rfl) (frzOutT _)) <| AW.g <| At.a 2 ·) ?_
       refine dv (At.apC 146 51 17 168 246 139 3860 encOutT ml (beat e4) (by omega) (allP_encOutT _) ·) ?_
       refine dv (At.z 1 <| AW.r <| At.a 2 <| At.sL 148 encOutT (ml ++ (beat e4)) <| At.z 1 ·) ?_
       by_cases h11 : ((ml ++ (beat e4)).length : Int) > 30
       · refine dv (AW.dT h11 <| AW.g <| At.a 1 ·) ?_
         refine dv (At.cutRef (t := 38) (d := 151) (e := 51) (es := 17) (i := 246) (x := .tmp 150) (lx := none) (hx := some (.const (.int .i64 30))) (xs := ((ml ++ (beat e4)).map encOutT)) (vl := .un) (vh := nI 30) 251 30 (((ml ++ (beat e4)).take 30).map encOutT) (by kernel_rfl) (by kernel_rfl) (by kernel_rfl) (by kernel_rfl) (by kernel_rfl) (by kernel_rfl) (by decide) (.inl ⟨rfl, rfl⟩) (.inr ⟨_, _, rfl, rfl⟩) (by omega) (by rw [List.map_take]) ·) ?_
         refine dv (At.z 1 <| AW.g <| At.a 2 ·) ?_
         refine dv (At.sI 48 ((k : Int) + 1) (by omega) ·) ?_
         refine dv (At.z 1 ·) ?_
         exact dw (fun _ h_ => AWL.weak (Sub.o [(0, 0), (122, 122), (251, 139)] (bs 14 14529)) h_) (ih2 (k + 1, ns, ((ml ++ (beat e4)).take 30), r4_.1, r4_.2.1) (⟨by omega, by (try simp only [List.length_set]); omega, by exact hns, ⟨by (try simp only [lens] at *); omega, by exact mail_take (mail_app hml hmo) _⟩, by omega⟩) (by simp only; omega))
       refine dv (AW.dF h11 <| AW.skip <| AW.g <| At.a 2 ·) ?_
       refine dv (At.sI 48 ((k : Int) + 1) (by omega) ·) ?_
       refine dv (At.z 1 ·) ?_
       exact dw (fun _ h_ => AWL.weak (Sub.o [(0, 0), (122, 122), (246, 139)] (bs 14 14529)) h_) (ih2 (k + 1, ns, (ml ++ (beat e4)), r4_.1, r4_.2.1) (⟨by omega, by (try simp only [List.length_set]); omega, by exact hns, ⟨by (try simp only [lens] at *); omega, by exact mail_app hml hmo⟩, by omega⟩) (by simp only; omega))
     refine dv (AW.cF (r4_.2.2 == 3) (beq_eq_false_iff_ne.2 h10) <| AW.r <| At.a 2 <| At.sL 56 encOutT ml <| At.z 1 ·) ?_
     by_cases h12 : (ml.length : Int) > 0
     · refine dv (AW.dT h12 <| AW.r <| At.a 3 <| At.sL 60 encOutT ml <| At.c (spec_l1Min_spec (ml.length : Int) 4) Tryz.call83 true [] [] [] trivial ·) ?_
       refine exE (spec_l1Below_spec ⟨c.data, r4_.1, r4_.2.1⟩ (min (ml.length : Int) 4) (by omega)) fun r5_ qr5_ hr5_ => ?_
       try simp only [Int.reduceLT, Int.reduceLE, true_implies, false_implies, and_true] at qr5_
       refine dv (At.c (hr5_) Tryz.call45 true [(0, 0)] [] [] trivial <| At.z 1 <| AW.r <| At.a 2 ·) ?_
       refine dv (At.iRf 38 65 (.tmp 63) (.tmp 64) 139 (ml.map encOutT) .i64 r5_.2.2 51 17 (by omega) (by omega) ·) ?_
       refine Exists.elim (gE ml ((r5_.2.2).toNat) (by omega)) fun e5 he5 => ?_
       have hxe5 := hml _ (List.mem_of_getElem? he5)
       refine dv (At.lEl 51 66 (.tmp 65) 139 51 17 (ml.map encOutT) ((r5_.2.2).toNat) 0 true 17 (encOutT e5) (.agg ([nI e5.to] ++ mC e5.msg (.sl true 6 (e5.msg.entries.map encEnt)))) (mapGet he5) <| At.z 2 <| AW.seq <| AW.gD Tryz_mix <| At.l0 38 67 51 17 168 167 <| At.a 2 ·) ?_
       refine dv (At.sliceRef (t := 38) (d := 70) (e := 51) (es := 17) (i := 139) (x := .tmp 68) (lx := none) (hx := some (.tmp 69)) (xs := (ml.map encOutT)) (vl := .un) (vh := nI r5_.2.2) 0 ((r5_.2.2).toNat) (by kernel_rfl) (by kernel_rfl) (by kernel_rfl) (by kernel_rfl) (by kernel_rfl) (.inl ⟨rfl, rfl⟩) (.inr ⟨_, _, rfl, sayNat (by omega)⟩) (by omega) (by omega) ·) ?_
       refine dv (At.append (t := 38) (d := 71) (e := 51) (es := 17) (bytes := 168) (s := .tmp 67) (x := .tmp 70) (S := .ref 167) (T := .sub 139 0 (((r5_.2.2).toNat) - 0)) (xs := []) (ys := (((ml.drop 0).take (((r5_.2.2).toNat) - 0)).map encOutT)) 171 [167] [] (((ml.drop 0).take (((r5_.2.2).toNat) - 0)).map encOutT) (by kernel_rfl) (by kernel_rfl) (by kernel_rfl) (by kernel_rfl) ⟨by kernel_rfl, rfl⟩ ⟨(ml.map encOutT), by kernel_rfl, by rw [List.length_map]; omega, (by simp [List.map_take, List.map_drop]), (allP_encOutT _), rfl⟩ (by kernel_rfl) (by kernel_rfl) (by simp) (by omega) (by omega) ·) ?_
       refine dv (At.a 3 ·) ?_
       refine dv (At.sI 74 (r5_.2.2 + 1) (by omega) ·) ?_
       refine dv (At.sliceRef (t := 38) (d := 75) (e := 51) (es := 17) (i := 139) (x := .tmp 72) (lx := some (.tmp 74)) (hx := none) (xs := (ml.map encOutT)) (vl := nI (r5_.2.2 + 1)) (vh := .un) ((r5_.2.2 + 1).toNat) ml.length (by kernel_rfl) (by kernel_rfl) (by kernel_rfl) (by kernel_rfl) (by kernel_rfl) (.inr ⟨_, _, rfl, sayNat (by omega)⟩) (.inl ⟨rfl, (List.length_map _).symm⟩) (by omega) (by omega) ·) ?_
       refine dv (At.append (t := 38) (d := 76) (e := 51) (es := 17) (bytes := 168) (s := .tmp 71) (x := .tmp 75) (S := .ref 171) (T := .sub 139 ((r5_.2.2 + 1).toNat) (ml.length - ((r5_.2.2 + 1).toNat))) (xs := (((ml.drop 0).take (((r5_.2.2).toNat) - 0)).map encOutT)) (ys := (((ml.drop ((r5_.2.2 + 1).toNat)).take (ml.length - ((r5_.2.2 + 1).toNat))).map encOutT)) 176 [171] [] ((((ml.drop 0).take (((r5_.2.2).toNat) - 0)) ++ ((ml.drop ((r5_.2.2 + 1).toNat)).take (ml.length - ((r5_.2.2 + 1).toNat)))).map encOutT) (by kernel_rfl) (by kernel_rfl) (by kernel_rfl) (by kernel_rfl) ⟨by kernel_rfl, rfl⟩ ⟨(ml.map encOutT), by kernel_rfl, by rw [List.length_map]; omega, (by simp [List.map_take, List.map_drop]), (allP_encOutT _), rfl⟩ (by kernel_rfl) (by kernel_rfl) (by simp) (by omega) (by omega) ·) ?_
       refine dv (At.zD 1 ·) ?_
       refine Exists.elim (gE ns ((e5.to).toNat) (by omega)) fun e6 he6 => ?_
       have hye6 := hns _ (List.mem_of_getElem? he6)
       have hnne6 := hye6.nums
       have hsme6 := hnne6.2.2.2.2.2
       have hoke6 := hye6.1
       refine dv (AW.weak (Sub.openL 122 ((e5.to).toNat) 29 10 (ns.map encRaft) (encRaft e6) (fr 6 5013 4) (by kernel_rfl) (mapGet he6) (by kernel_rfl)) <| AW.gD Tryz_mix <| At.a 6 ·) ?_
       refine dv (At.idxH 72 84 (.tmp 81) (.tmp 83) 122 ((ns.map encRaft).set ((e5.to).toNat) (.agg (rC e6 .un .un .un .un))) ((e5.to).toNat) [(9, 5016), (8, 5015), (7, 5014), (6, 5013)] .i64 (e5.to) 29 10 (by omega) (by rw [List.length_set, List.length_map]; omega) ·) ?_
       refine dv (At.ldH 29 85 (.tmp 84) 122 29 10 ((ns.map encRaft).set ((e5.to).toNat) (.agg (rC e6 .un .un .un .un))) ((e5.to).toNat) [(9, 5016), (8, 5015), (7, 5014), (6, 5013)] 0 true 10 (.agg (rC e6 .un .un .un .un)) (.agg (rC e6 (.ref 5013) (.ref 5014) (.ref 5015) (.ref 5016))) (setGet (mapGet he6)) <| At.a 2 ·) ?_
       refine dv (At.c (FnSpec.cv (As := [.agg (rV e6), .agg (mC e5.msg (.sl true 6 (e5.msg.entries.map encEnt)))]) [0, 7] (spec_l10On_spec e6 e5.msg (by assumption) (by omega) (by assumption))) Tryz.call84 false [] (fr 2760 0 6) [(5013, 6, (e6.hard.log.map encEnt)), (5014, 1, (e6.yes.map encI)), (5015, 1, (e6.next.map encI)), (5016, 1, (e6.match_.map encI))] ⟨rfl, ⟨45, (e6.hard.log.map encEnt), by kernel_rfl, FrzIs.same (allP_encEnt _)⟩, rfl, ⟨3, (e6.yes.map encI), by kernel_rfl, FrzIs.same (allP_encI _)⟩, rfl, ⟨3, (e6.next.map encI), by kernel_rfl, FrzIs.same (allP_encI _)⟩, rfl, ⟨3, (e6.match_.map encI), by kernel_rfl, FrzIs.same (allP_encI _)⟩, trivial⟩ ·) ?_
       have hou := on_in e5.msg hye6
       have hnd := hou.1
       have hle := hou.2.1
       have hmo : MailIn r1_.2.2 _ := hou.2.2
       refine dv (At.a 4 ·) ?_
       refine dv (At.idxH 72 92 (.tmp 78) (.tmp 80) 122 ((ns.map encRaft).set ((e5.to).toNat) (.agg (rC e6 .un .un .un .un))) ((e5.to).toNat) [(9, 5016), (8, 5015), (7, 5014), (6, 5013)] .i64 (e5.to) 29 10 (by omega) (by rw [List.length_set, List.length_map]; omega) ·) ?_
       refine dv (At.stH 29 122 29 10 ((e5.to).toNat) (.tmp 92) (.tmp 89) ((ns.map encRaft).set ((e5.to).toNat) (.agg (rC e6 .un .un .un .un))) (rC ((onR e6 e5.msg).1) (.ref 2760) (.ref 2761) (.ref 2762) (.ref 2763)) (rC e6 .un .un .un .un) [(9, 5016), (8, 5015), (7, 5014), (6, 5013)] (setGet (mapGet he6)) <| At.zD 1 <| AW.seq ·) ?_
       refine dv (AW.weak (Sub.closeL 122 ((e5.to).toNat) 29 10 (((ns.map encRaft).set ((e5.to).toNat) (.agg (rC e6 .un .un .un .un))).set ((e5.to).toNat) (.agg (rC ((onR e6 e5.msg).1) .un .un .un .un))) ((ns.set ((e5.to).toNat) ((onR e6 e5.msg).1)).map encRaft) (fr 6 2760 4) (.agg (rC ((onR e6 e5.msg).1) .un .un .un .un)) (encRaft ((onR e6 e5.msg).1)) [(45, 6, ((((onR e6 e5.msg).1).hard.log).map encEnt)), (3, 1, ((((onR e6 e5.msg).1).yes).map encI)), (3, 1, ((((onR e6 e5.msg).1).next).map encI)), (3, 1, ((((onR e6 e5.msg).1).match_).map encI))] (by kernel_rfl) (setGet (setGet (mapGet he6))) (by kernel_rfl) (by kernel_rfl) (by intro p hp; simp only [List.mem_cons, List.not_mem_nil, or_false] at hp; rcases hp with rfl | rfl | rfl | rfl; all_goals first | exact flatEnts | exact flatInts) (by kernel_rfl) (by kernel_rfl) (by rw [List.set_set, List.set_set]; exact setV.symm)) ·) ?_
       refine dv (AW.weak (Sub.frzIn 2765 51 17 (((onR e6 e5.msg).2.2).map encOut) (((onR e6 e5.msg).2.2).map encOutT) (by kernel_rfl) (frzOutT _)) <| AW.g <| At.a 2 ·) ?_
       refine dv (At.apC 146 51 17 168 246 176 2765 encOutT (((ml.drop 0).take (((r5_.2.2).toNat) - 0)) ++ ((ml.drop ((r5_.2.2 + 1).toNat)).take (ml.length - ((r5_.2.2 + 1).toNat)))) ((onR e6 e5.msg).2.2) (by omega) (allP_encOutT _) ·) ?_
       refine dv (At.z 1 <| AW.r <| At.a 2 <| At.sL 148 encOutT ((((ml.drop 0).take (((r5_.2.2).toNat) - 0)) ++ ((ml.drop ((r5_.2.2 + 1).toNat)).take (ml.length - ((r5_.2.2 + 1).toNat)))) ++ ((onR e6 e5.msg).2.2)) <| At.z 1 ·) ?_
       by_cases h13 : (((((ml.drop 0).take (((r5_.2.2).toNat) - 0)) ++ ((ml.drop ((r5_.2.2 + 1).toNat)).take (ml.length - ((r5_.2.2 + 1).toNat)))) ++ ((onR e6 e5.msg).2.2)).length : Int) > 30
       · refine dv (AW.dT h13 <| AW.g <| At.a 1 ·) ?_
         refine dv (At.cutRef (t := 38) (d := 151) (e := 51) (es := 17) (i := 246) (x := .tmp 150) (lx := none) (hx := some (.const (.int .i64 30))) (xs := (((((ml.drop 0).take (((r5_.2.2).toNat) - 0)) ++ ((ml.drop ((r5_.2.2 + 1).toNat)).take (ml.length - ((r5_.2.2 + 1).toNat)))) ++ ((onR e6 e5.msg).2.2)).map encOutT)) (vl := .un) (vh := nI 30) 251 30 ((((((ml.drop 0).take (((r5_.2.2).toNat) - 0)) ++ ((ml.drop ((r5_.2.2 + 1).toNat)).take (ml.length - ((r5_.2.2 + 1).toNat)))) ++ ((onR e6 e5.msg).2.2)).take 30).map encOutT) (by kernel_rfl) (by kernel_rfl) (by kernel_rfl) (by kernel_rfl) (by kernel_rfl) (by kernel_rfl) (by decide) (.inl ⟨rfl, rfl⟩) (.inr ⟨_, _, rfl, rfl⟩) (by omega) (by rw [List.map_take]) ·) ?_
         refine dv (At.z 1 <| AW.g <| At.a 2 ·) ?_
         refine dv (At.sI 48 ((k : Int) + 1) (by omega) ·) ?_
         refine dv (At.z 1 ·) ?_
         exact dw (fun _ h_ => AWL.weak (Sub.o [(0, 0), (122, 122), (251, 139)] (bs 14 14529)) h_) (ih2 (k + 1, (ns.set ((e5.to).toNat) ((onR e6 e5.msg).1)), (((((ml.drop 0).take (((r5_.2.2).toNat) - 0)) ++ ((ml.drop ((r5_.2.2 + 1).toNat)).take (ml.length - ((r5_.2.2 + 1).toNat)))) ++ ((onR e6 e5.msg).2.2)).take 30), r5_.1, r5_.2.1) (⟨by omega, by (try simp only [List.length_set]); omega, by exact NodesIn.set hns _ hnd, ⟨by (try simp only [lens] at *); omega, by exact mail_take (mail_app (mail_cut hml _ _ _) hmo) _⟩, by omega⟩) (by simp only; omega))
       refine dv (AW.dF h13 <| AW.skip <| AW.g <| At.a 2 ·) ?_
       refine dv (At.sI 48 ((k : Int) + 1) (by omega) ·) ?_
       refine dv (At.z 1 ·) ?_
       exact dw (fun _ h_ => AWL.weak (Sub.o [(0, 0), (122, 122), (246, 139)] (bs 14 14529)) h_) (ih2 (k + 1, (ns.set ((e5.to).toNat) ((onR e6 e5.msg).1)), ((((ml.drop 0).take (((r5_.2.2).toNat) - 0)) ++ ((ml.drop ((r5_.2.2 + 1).toNat)).take (ml.length - ((r5_.2.2 + 1).toNat)))) ++ ((onR e6 e5.msg).2.2)), r5_.1, r5_.2.1) (⟨by omega, by (try simp only [List.length_set]); omega, by exact NodesIn.set hns _ hnd, ⟨by (try simp only [lens] at *); omega, by exact mail_app (mail_cut hml _ _ _) hmo⟩, by omega⟩) (by simp only; omega))
     refine dv (AW.dF h12 <| AW.skip <| AW.r <| At.a 2 ·) ?_
     refine dv (At.append (t := 38) (d := 146) (e := 51) (es := 17) (bytes := 168) (s := .tmp 144) (x := .tmp 145) (S := .ref 139) (T := .ref 152) (xs := (ml.map encOutT)) (ys := []) 246 [139] [] (ml.map encOutT) (by kernel_rfl) (by kernel_rfl) (by kernel_rfl) (by kernel_rfl) ⟨by kernel_rfl, rfl⟩ ⟨by kernel_rfl, .inl ⟨rfl, (fun _ h => by cases h)⟩⟩ (by kernel_rfl) (by kernel_rfl) (by simp) (by omega) (by omega) ·) ?_
     refine dv (At.z 1 <| AW.r <| At.a 2 <| At.sL 148 encOutT ml <| At.z 1 ·) ?_
     by_cases h14 : (ml.length : Int) > 30
     · refine dv (AW.dT h14 <| AW.g <| At.a 1 ·) ?_
       refine dv (At.cutRef (t := 38) (d := 151) (e := 51) (es := 17) (i := 246) (x := .tmp 150) (lx := none) (hx := some (.const (.int .i64 30))) (xs := (ml.map encOutT)) (vl := .un) (vh := nI 30) 251 30 ((ml.take 30).map encOutT) (by kernel_rfl) (by kernel_rfl) (by kernel_rfl) (by kernel_rfl) (by kernel_rfl) (by kernel_rfl) (by decide) (.inl ⟨rfl, rfl⟩) (.inr ⟨_, _, rfl, rfl⟩) (by omega) (by rw [List.map_take]) ·) ?_
       refine dv (At.z 1 <| AW.g <| At.a 2 ·) ?_
       refine dv (At.sI 48 ((k : Int) + 1) (by omega) ·) ?_
       refine dv (At.z 1 ·) ?_
       exact dw (fun _ h_ => AWL.weak (Sub.o [(0, 0), (122, 122), (251, 139)] (bs 14 14529)) h_) (ih2 (k + 1, ns, (ml.take 30), r4_.1, r4_.2.1) (⟨by omega, by (try simp only [List.length_set]); omega, by exact hns, ⟨by (try simp only [lens] at *); omega, by exact mail_take hml _⟩, by omega⟩) (by simp only; omega))
     refine dv (AW.dF h14 <| AW.skip <| AW.g <| At.a 2 ·) ?_
     refine dv (At.sI 48 ((k : Int) + 1) (by omega) ·) ?_
     refine dv (At.z 1 ·) ?_
     exact dw (fun _ h_ => AWL.weak (Sub.o [(0, 0), (122, 122), (246, 139)] (bs 14 14529)) h_) (ih2 (k + 1, ns, ml, r4_.1, r4_.2.1) (⟨by omega, by (try simp only [List.length_set]); omega, by exact hns, ⟨by (try simp only [lens] at *); omega, by exact hml⟩, by omega⟩) (by simp only; omega))
   refine dv (AW.cF (r4_.2.2 == 1) (beq_eq_false_iff_ne.2 h5) <| AW.gq 2 ·) ?_
   by_cases h15 : r4_.2.2 = 2
   · refine dv (AW.cT (r4_.2.2 == 2) (beq_iff_eq.2 h15) <| AW.seq <| AW.q 1 <| AW.block ·) ?_
     refine DW.loopQ (fun (x : Nat × Int) => match x with | (j, i) => Go.Sy.mk [.ptr 0 0 0, .un, .un, .un, .un, .un, nI r1_.2.2, .ref 122, .un, .un, .un, .ref 139, nI r2_.2.2, nI (k : Int), nI i, .un, nI (j : Int)] [(0, .box 71 [.sl false 1 (c.data.map encU8), nI r4_.1, nI r4_.2.1]), (122, .arr 29 10 (ns.map encRaft)), (139, .arr 51 17 (ml.map encOutT))]) (fun (j, i) => (j : Int) ≤ r1_.2.2 ∧ 0 ≤ i ∧ i < r1_.2.2) (fun (j, i) => (r1_.2.2).toNat - j) (0, r3_.2.2) (by simp only; omega) (Sub.o (dg [0, 122, 139]) (bs 17 96449)) ?_
     rintro ⟨j, i⟩ hj ih4
     refine dv (AW.seq <| AW.q 3 ·) ?_
     by_cases h16 : (j : Int) < r1_.2.2
     · refine dv (AW.dT h16 <| AW.skip <| AW.seq <| AW.block <| AW.r <| At.a 2 ·) ?_
       refine dv (At.iRf 72 117 (.tmp 115) (.tmp 116) 122 (ns.map encRaft) .i64 (j : Int) 29 10 (by omega) (by simp only [List.length_map]; omega) ·) ?_
       refine dv (At.a 1 ·) ?_
       refine Exists.elim (gE ns j (by omega)) fun e7 he7 => ?_
       have hye7 := hns _ (List.mem_of_getElem? he7)
       have hnne7 := hye7.nums
       have hsme7 := hnne7.2.2.2.2.2
       have hoke7 := hye7.1
       refine dv (At.ldP 3 119 (.tmp 118) 122 29 10 (ns.map encRaft) j 2 false 1 (encRaft e7) (nI e7.role) (mapGet he7) <| At.z 1 ·) ?_
       by_cases h17 : e7.role = 3
       · refine dv (AW.cT (e7.role == 3) (beq_iff_eq.2 h17) <| AW.gq 2 <| AW.g <| At.a 2 ·) ?_
         refine dv (At.sI 114 ((j : Int) + 1) (by omega) ·) ?_
         refine dv (At.z 1 ·) ?_
         exact dw (fun _ h_ => AWL.weak (Sub.o (dg [0, 122, 139]) (bs 17 96449)) h_) (ih4 (j + 1, (j : Int)) (by simp only; omega) (by simp only; omega))
       refine dv (AW.cF (e7.role == 3) (beq_eq_false_iff_ne.2 h17) <| AW.skip <| AW.g <| At.a 2 ·) ?_
       refine dv (At.sI 114 ((j : Int) + 1) (by omega) ·) ?_
       refine dv (At.z 1 ·) ?_
       exact dw (fun _ h_ => AWL.weak (Sub.o (dg [0, 122, 139]) (bs 17 96449)) h_) (ih4 (j + 1, i) (by simp only; omega) (by simp only; omega))
     refine dv (AW.dF h16 <| AW.exit ·) ?_
     refine Exists.elim (gE ns ((i).toNat) (by omega)) fun e8 he8 => ?_
     have hye8 := hns _ (List.mem_of_getElem? he8)
     have hnne8 := hye8.nums
     have hsme8 := hnne8.2.2.2.2.2
     have hoke8 := hye8.1
     refine dv (AW.weak (Sub.openL 122 ((i).toNat) 29 10 (ns.map encRaft) (encRaft e8) (fr 6 5017 4) (by kernel_rfl) (mapGet he8) (by kernel_rfl)) <| AW.gD Tryz_mix <| At.a 4 ·) ?_
     refine dv (At.idxH 72 127 (.tmp 125) (.tmp 126) 122 ((ns.map encRaft).set ((i).toNat) (.agg (rC e8 .un .un .un .un))) ((i).toNat) [(9, 5020), (8, 5019), (7, 5018), (6, 5017)] .i64 (i) 29 10 (by omega) (by rw [List.length_set, List.length_map]; omega) ·) ?_
     refine dv (At.ldH 29 128 (.tmp 127) 122 29 10 ((ns.map encRaft).set ((i).toNat) (.agg (rC e8 .un .un .un .un))) ((i).toNat) [(9, 5020), (8, 5019), (7, 5018), (6, 5017)] 0 true 10 (.agg (rC e8 .un .un .un .un)) (.agg (rC e8 (.ref 5017) (.ref 5018) (.ref 5019) (.ref 5020))) (setGet (mapGet he8)) <| At.a 1 ·) ?_
     refine exE (spec_l5DrawRight_spec ⟨c.data, r4_.1, r4_.2.1⟩ (by dsimp only; omega)) fun r5_ qr5_ hr5_ => ?_
     try dsimp only at qr5_
     refine dv (At.c (hr5_) Tryz.call21 true [(0, 0)] [] [] trivial ·) ?_
     refine dv (At.c (spec_RaftPropose_spec e8 r5_.2.2 (by assumption)) Tryz.call81 false [] (fr 3620 0 6) [(5017, 6, (e8.hard.log.map encEnt)), (5018, 1, (e8.yes.map encI)), (5019, 1, (e8.next.map encI)), (5020, 1, (e8.match_.map encI))] ⟨rfl, ⟨45, (e8.hard.log.map encEnt), by kernel_rfl, FrzIs.same (allP_encEnt _)⟩, rfl, ⟨3, (e8.yes.map encI), by kernel_rfl, FrzIs.same (allP_encI _)⟩, rfl, ⟨3, (e8.next.map encI), by kernel_rfl, FrzIs.same (allP_encI _)⟩, rfl, ⟨3, (e8.match_.map encI), by kernel_rfl, FrzIs.same (allP_encI _)⟩, trivial⟩ ·) ?_
     have hou := prop_in r5_.2.2 hye8
     have hnd := hou.1
     have hle := hou.2.1
     have hmo : MailIn r1_.2.2 _ := hou.2.2
     refine dv (At.a 5 ·) ?_
     refine dv (At.idxH 72 136 (.tmp 123) (.tmp 124) 122 ((ns.map encRaft).set ((i).toNat) (.agg (rC e8 .un .un .un .un))) ((i).toNat) [(9, 5020), (8, 5019), (7, 5018), (6, 5017)] .i64 (i) 29 10 (by omega) (by rw [List.length_set, List.length_map]; omega) ·) ?_
     refine dv (At.stH 29 122 29 10 ((i).toNat) (.tmp 136) (.tmp 132) ((ns.map encRaft).set ((i).toNat) (.agg (rC e8 .un .un .un .un))) (rC (propR e8 r5_.2.2) (.ref 3620) (.ref 3621) (.ref 3622) (.ref 3623)) (rC e8 .un .un .un .un) [(9, 5020), (8, 5019), (7, 5018), (6, 5017)] (setGet (mapGet he8)) <| At.zD 1 <| AW.seq ·) ?_
     refine dv (AW.weak (Sub.closeL 122 ((i).toNat) 29 10 (((ns.map encRaft).set ((i).toNat) (.agg (rC e8 .un .un .un .un))).set ((i).toNat) (.agg (rC (propR e8 r5_.2.2) .un .un .un .un))) ((ns.set ((i).toNat) (propR e8 r5_.2.2)).map encRaft) (fr 6 3620 4) (.agg (rC (propR e8 r5_.2.2) .un .un .un .un)) (encRaft (propR e8 r5_.2.2)) [(45, 6, (((propR e8 r5_.2.2).hard.log).map encEnt)), (3, 1, (((propR e8 r5_.2.2).yes).map encI)), (3, 1, (((propR e8 r5_.2.2).next).map encI)), (3, 1, (((propR e8 r5_.2.2).match_).map encI))] (by kernel_rfl) (setGet (setGet (mapGet he8))) (by kernel_rfl) (by kernel_rfl) (by intro p hp; simp only [List.mem_cons, List.not_mem_nil, or_false] at hp; rcases hp with rfl | rfl | rfl | rfl; all_goals first | exact flatEnts | exact flatInts) (by kernel_rfl) (by kernel_rfl) (by rw [List.set_set, List.set_set]; exact setV.symm)) ·) ?_
     refine dv (AW.weak (Sub.frzIn 3625 51 17 ((propOuts e8 r5_.2.2).map encOut) ((propOuts e8 r5_.2.2).map encOutT) (by kernel_rfl) (frzOutT _)) <| AW.g <| At.a 2 ·) ?_
     refine dv (At.apC 146 51 17 168 246 139 3625 encOutT ml (propOuts e8 r5_.2.2) (by omega) (allP_encOutT _) ·) ?_
     refine dv (At.z 1 <| AW.r <| At.a 2 <| At.sL 148 encOutT (ml ++ (propOuts e8 r5_.2.2)) <| At.z 1 ·) ?_
     by_cases h18 : ((ml ++ (propOuts e8 r5_.2.2)).length : Int) > 30
     · refine dv (AW.dT h18 <| AW.g <| At.a 1 ·) ?_
       refine dv (At.cutRef (t := 38) (d := 151) (e := 51) (es := 17) (i := 246) (x := .tmp 150) (lx := none) (hx := some (.const (.int .i64 30))) (xs := ((ml ++ (propOuts e8 r5_.2.2)).map encOutT)) (vl := .un) (vh := nI 30) 251 30 (((ml ++ (propOuts e8 r5_.2.2)).take 30).map encOutT) (by kernel_rfl) (by kernel_rfl) (by kernel_rfl) (by kernel_rfl) (by kernel_rfl) (by kernel_rfl) (by decide) (.inl ⟨rfl, rfl⟩) (.inr ⟨_, _, rfl, rfl⟩) (by simp only [List.length_map]; omega) (by rw [List.map_take]) ·) ?_
       refine dv (At.z 1 <| AW.g <| At.a 2 ·) ?_
       refine dv (At.sI 48 ((k : Int) + 1) (by omega) ·) ?_
       refine dv (At.z 1 ·) ?_
       exact dw (fun _ h_ => AWL.weak (Sub.o [(0, 0), (122, 122), (251, 139)] (bs 14 14529)) h_) (ih2 (k + 1, (ns.set ((i).toNat) (propR e8 r5_.2.2)), ((ml ++ (propOuts e8 r5_.2.2)).take 30), r5_.1, r5_.2.1) (⟨by omega, by (try simp only [List.length_set]); omega, by exact NodesIn.set hns _ hnd, ⟨by (try simp only [lens] at *); omega, by exact mail_take (mail_app hml hmo) _⟩, by omega⟩) (by simp only; omega))
     refine dv (AW.dF h18 <| AW.skip <| AW.g <| At.a 2 ·) ?_
     refine dv (At.sI 48 ((k : Int) + 1) (by omega) ·) ?_
     refine dv (At.z 1 ·) ?_
     exact dw (fun _ h_ => AWL.weak (Sub.o [(0, 0), (122, 122), (246, 139)] (bs 14 14529)) h_) (ih2 (k + 1, (ns.set ((i).toNat) (propR e8 r5_.2.2)), (ml ++ (propOuts e8 r5_.2.2)), r5_.1, r5_.2.1) (⟨by omega, by (try simp only [List.length_set]); omega, by exact NodesIn.set hns _ hnd, ⟨by (try simp only [lens] at *); omega, by exact mail_app hml hmo⟩, by omega⟩) (by simp only; omega))
   refine dv (AW.cF (r4_.2.2 == 2) (beq_eq_false_iff_ne.2 h15) <| AW.q 2 ·) ?_
   by_cases h19 : r4_.2.2 = 3
   · refine dv (AW.cT (r4_.2.2 == 3) (beq_iff_eq.2 h19) ·) ?_
     refine Exists.elim (gE ns ((r3_.2.2).toNat) (by omega)) fun e9 he9 => ?_
     have hye9 := hns _ (List.mem_of_getElem? he9)
     have hnne9 := hye9.nums
     have hsme9 := hnne9.2.2.2.2.2
     have hoke9 := hye9.1
     refine dv (AW.weak (Sub.openL 122 ((r3_.2.2).toNat) 29 10 (ns.map encRaft) (encRaft e9) (fr 6 5021 4) (by kernel_rfl) (mapGet he9) (by kernel_rfl)) <| AW.g <| At.a 2 ·) ?_
     refine dv (At.idxH 72 141 (.tmp 139) (.tmp 140) 122 ((ns.map encRaft).set ((r3_.2.2).toNat) (.agg (rC e9 .un .un .un .un))) ((r3_.2.2).toNat) [(9, 5024), (8, 5023), (7, 5022), (6, 5021)] .i64 (r3_.2.2) 29 10 (by omega) (by rw [List.length_set, List.length_map]; omega) ·) ?_
     refine dv (At.ldH 29 142 (.tmp 141) 122 29 10 ((ns.map encRaft).set ((r3_.2.2).toNat) (.agg (rC e9 .un .un .un .un))) ((r3_.2.2).toNat) [(9, 5024), (8, 5023), (7, 5022), (6, 5021)] 0 true 10 (.agg (rC e9 .un .un .un .un)) (.agg (rC e9 (.ref 5021) (.ref 5022) (.ref 5023) (.ref 5024))) (setGet (mapGet he9)) ·) ?_
     refine dv (At.c (spec_RaftBeat_spec e9 (by assumption)) Tryz.call82 false [] [(3860, 0)] [(5021, 6, (e9.hard.log.map encEnt)), (5022, 1, (e9.yes.map encI)), (5023, 1, (e9.next.map encI)), (5024, 1, (e9.match_.map encI))] ⟨rfl, ⟨45, (e9.hard.log.map encEnt), by kernel_rfl, FrzIs.same (allP_encEnt _)⟩, rfl, ⟨3, (e9.yes.map encI), by kernel_rfl, FrzIs.same (allP_encI _)⟩, rfl, ⟨3, (e9.next.map encI), by kernel_rfl, FrzIs.same (allP_encI _)⟩, rfl, ⟨3, (e9.match_.map encI), by kernel_rfl, FrzIs.same (allP_encI _)⟩, trivial⟩ ·) ?_
     have hou := beat_in hye9
     have hle := hou.1
     have hmo : MailIn r1_.2.2 _ := hou.2
     refine dv (At.z 1 <| AW.seq ·) ?_
     refine dv (AW.weak (Sub.closeL 122 ((r3_.2.2).toNat) 29 10 ((ns.map encRaft).set ((r3_.2.2).toNat) (.agg (rC e9 .un .un .un .un))) (ns.map encRaft) [(9, 5024), (8, 5023), (7, 5022), (6, 5021)] (.agg (rC e9 .un .un .un .un)) (encRaft e9) [(3, 1, (e9.match_.map encI)), (3, 1, (e9.next.map encI)), (3, 1, (e9.yes.map encI)), (45, 6, (e9.hard.log.map encEnt))] (by kernel_rfl) (setGet (mapGet he9)) (by kernel_rfl) (by kernel_rfl) (by intro p hp; simp only [List.mem_cons, List.not_mem_nil, or_false] at hp; rcases hp with rfl | rfl | rfl | rfl; all_goals first | exact flatEnts | exact flatInts) (by kernel_rfl) (by kernel_rfl) (by rw [List.set_set]; exact set_self (mapGet he9))) ·) ?_
     refine dv (AW.weak (Sub.frzIn 3860 51 17 ((beat e9).map encOut) ((beat e9).map encOutT) (by kernel_rfl) (frzOutT _)) <| AW.g <| At.a 2 ·) ?_
     refine dv (At.apC 146 51 17 168 246 139 3860 encOutT ml (beat e9) (by omega) (allP_encOutT _) ·) ?_
     refine dv (At.z 1 <| AW.r <| At.a 2 <| At.sL 148 encOutT (ml ++ (beat e9)) <| At.z 1 ·) ?_
     by_cases h20 : ((ml ++ (beat e9)).length : Int) > 30
     · refine dv (AW.dT h20 <| AW.g <| At.a 1 ·) ?_
       refine dv (At.cutRef (t := 38) (d := 151) (e := 51) (es := 17) (i := 246) (x := .tmp 150) (lx := none) (hx := some (.const (.int .i64 30))) (xs := ((ml ++ (beat e9)).map encOutT)) (vl := .un) (vh := nI 30) 251 30 (((ml ++ (beat e9)).take 30).map encOutT) (by kernel_rfl) (by kernel_rfl) (by kernel_rfl) (by kernel_rfl) (by kernel_rfl) (by kernel_rfl) (by decide) (.inl ⟨rfl, rfl⟩) (.inr ⟨_, _, rfl, rfl⟩) (by simp only [List.length_map]; omega) (by rw [List.map_take]) ·) ?_
       refine dv (At.z 1 <| AW.g <| At.a 2 ·) ?_
       refine dv (At.sI 48 ((k : Int) + 1) (by omega) ·) ?_
       refine dv (At.z 1 ·) ?_
       exact dw (fun _ h_ => AWL.weak (Sub.o [(0, 0), (122, 122), (251, 139)] (bs 14 14529)) h_) (ih2 (k + 1, ns, ((ml ++ (beat e9)).take 30), r4_.1, r4_.2.1) (⟨by omega, by (try simp only [List.length_set]); omega, by exact hns, ⟨by (try simp only [lens] at *); omega, by exact mail_take (mail_app hml hmo) _⟩, by omega⟩) (by simp only; omega))
     refine dv (AW.dF h20 <| AW.skip <| AW.g <| At.a 2 ·) ?_
     refine dv (At.sI 48 ((k : Int) + 1) (by omega) ·) ?_
     refine dv (At.z 1 ·) ?_
     exact dw (fun _ h_ => AWL.weak (Sub.o [(0, 0), (122, 122), (246, 139)] (bs 14 14529)) h_) (ih2 (k + 1, ns, (ml ++ (beat e9)), r4_.1, r4_.2.1) (⟨by omega, by (try simp only [List.length_set]); omega, by exact hns, ⟨by (try simp only [lens] at *); omega, by exact mail_app hml hmo⟩, by omega⟩) (by simp only; omega))
   refine dv (AW.cF (r4_.2.2 == 3) (beq_eq_false_iff_ne.2 h19) <| AW.r <| At.a 2 <| At.sL 56 encOutT ml <| At.z 1 ·) ?_
   by_cases h21 : (ml.length : Int) > 0
   · refine dv (AW.dT h21 <| AW.r <| At.a 3 <| At.sL 60 encOutT ml <| At.c (spec_l1Min_spec (ml.length : Int) 4) Tryz.call83 true [] [] [] trivial ·) ?_
     refine exE (spec_l1Below_spec ⟨c.data, r4_.1, r4_.2.1⟩ (min (ml.length : Int) 4) (by dsimp only; omega)) fun r5_ qr5_ hr5_ => ?_
     try simp only [Int.reduceLT, Int.reduceLE, true_implies, false_implies, and_true] at qr5_
     refine dv (At.c (hr5_) Tryz.call45 true [(0, 0)] [] [] trivial <| At.z 1 <| AW.r <| At.a 2 ·) ?_
     refine dv (At.iRf 38 65 (.tmp 63) (.tmp 64) 139 (ml.map encOutT) .i64 r5_.2.2 51 17 (by omega) (by simp only [List.length_map]; omega) ·) ?_
     refine Exists.elim (gE ml ((r5_.2.2).toNat) (by omega)) fun e10 he10 => ?_
     have hxe10 := hml _ (List.mem_of_getElem? he10)
     refine dv (At.lEl 51 66 (.tmp 65) 139 51 17 (ml.map encOutT) ((r5_.2.2).toNat) 0 true 17 (encOutT e10) (.agg ([nI e10.to] ++ mC e10.msg (.sl true 6 (e10.msg.entries.map encEnt)))) (mapGet he10) <| At.z 2 <| AW.seq <| AW.gD Tryz_mix <| At.l0 38 67 51 17 168 167 <| At.a 2 ·) ?_
     refine dv (At.sliceRef (t := 38) (d := 70) (e := 51) (es := 17) (i := 139) (x := .tmp 68) (lx := none) (hx := some (.tmp 69)) (xs := (ml.map encOutT)) (vl := .un) (vh := nI r5_.2.2) 0 ((r5_.2.2).toNat) (by kernel_rfl) (by kernel_rfl) (by kernel_rfl) (by kernel_rfl) (by kernel_rfl) (.inl ⟨rfl, rfl⟩) (.inr ⟨_, _, rfl, sayNat (by omega)⟩) (by omega) (by simp only [List.length_map]; omega) ·) ?_
     refine dv (At.append (t := 38) (d := 71) (e := 51) (es := 17) (bytes := 168) (s := .tmp 67) (x := .tmp 70) (S := .ref 167) (T := .sub 139 0 (((r5_.2.2).toNat) - 0)) (xs := []) (ys := (((ml.drop 0).take (((r5_.2.2).toNat) - 0)).map encOutT)) 171 [167] [] (((ml.drop 0).take (((r5_.2.2).toNat) - 0)).map encOutT) (by kernel_rfl) (by kernel_rfl) (by kernel_rfl) (by kernel_rfl) ⟨by kernel_rfl, rfl⟩ ⟨(ml.map encOutT), by kernel_rfl, by rw [List.length_map]; omega, (by simp [List.map_take, List.map_drop]), (allP_encOutT _), rfl⟩ (by kernel_rfl) (by kernel_rfl) (by simp) (by simp only [List.length_map, lens]; omega) (by simp only [List.length_map, lens]; omega) ·) ?_
     refine dv (At.a 3 ·) ?_
     refine dv (At.sI 74 (r5_.2.2 + 1) (by omega) ·) ?_
     refine dv (At.sliceRef (t := 38) (d := 75) (e := 51) (es := 17) (i := 139) (x := .tmp 72) (lx := some (.tmp 74)) (hx := none) (xs := (ml.map encOutT)) (vl := nI (r5_.2.2 + 1)) (vh := .un) ((r5_.2.2 + 1).toNat) ml.length (by kernel_rfl) (by kernel_rfl) (by kernel_rfl) (by kernel_rfl) (by kernel_rfl) (.inr ⟨_, _, rfl, sayNat (by omega)⟩) (.inl ⟨rfl, (List.length_map _).symm⟩) (by omega) (by simp only [List.length_map]; omega) ·) ?_
     refine dv (At.append (t := 38) (d := 76) (e := 51) (es := 17) (bytes := 168) (s := .tmp 71) (x := .tmp 75) (S := .ref 171) (T := .sub 139 ((r5_.2.2 + 1).toNat) (ml.length - ((r5_.2.2 + 1).toNat))) (xs := (((ml.drop 0).take (((r5_.2.2).toNat) - 0)).map encOutT)) (ys := (((ml.drop ((r5_.2.2 + 1).toNat)).take (ml.length - ((r5_.2.2 + 1).toNat))).map encOutT)) 176 [171] [] ((((ml.drop 0).take (((r5_.2.2).toNat) - 0)) ++ ((ml.drop ((r5_.2.2 + 1).toNat)).take (ml.length - ((r5_.2.2 + 1).toNat)))).map encOutT) (by kernel_rfl) (by kernel_rfl) (by kernel_rfl) (by kernel_rfl) ⟨by kernel_rfl, rfl⟩ ⟨(ml.map encOutT), by kernel_rfl, by rw [List.length_map]; omega, (by simp [List.map_take, List.map_drop]), (allP_encOutT _), rfl⟩ (by kernel_rfl) (by kernel_rfl) (by simp) (by simp only [List.length_map, lens]; omega) (by simp only [List.length_map, lens]; omega) ·) ?_
     refine dv (At.zD 1 ·) ?_
     refine Exists.elim (gE ns ((e10.to).toNat) (by omega)) fun e11 he11 => ?_
     have hye11 := hns _ (List.mem_of_getElem? he11)
     have hnne11 := hye11.nums
     have hsme11 := hnne11.2.2.2.2.2
     have hoke11 := hye11.1
     refine dv (AW.weak (Sub.openL 122 ((e10.to).toNat) 29 10 (ns.map encRaft) (encRaft e11) (fr 6 5025 4) (by kernel_rfl) (mapGet he11) (by kernel_rfl)) <| AW.gD Tryz_mix <| At.a 6 ·) ?_
     refine dv (At.idxH 72 84 (.tmp 81) (.tmp 83) 122 ((ns.map encRaft).set ((e10.to).toNat) (.agg (rC e11 .un .un .un .un))) ((e10.to).toNat) [(9, 5028), (8, 5027), (7, 5026), (6, 5025)] .i64 (e10.to) 29 10 (by omega) (by rw [List.length_set, List.length_map]; omega) ·) ?_
     refine dv (At.ldH 29 85 (.tmp 84) 122 29 10 ((ns.map encRaft).set ((e10.to).toNat) (.agg (rC e11 .un .un .un .un))) ((e10.to).toNat) [(9, 5028), (8, 5027), (7, 5026), (6, 5025)] 0 true 10 (.agg (rC e11 .un .un .un .un)) (.agg (rC e11 (.ref 5025) (.ref 5026) (.ref 5027) (.ref 5028))) (setGet (mapGet he11)) <| At.a 2 ·) ?_
     refine dv (At.c (FnSpec.cv (As := [.agg (rV e11), .agg (mC e10.msg (.sl true 6 (e10.msg.entries.map encEnt)))]) [0, 7] (spec_l10On_spec e11 e10.msg (by assumption) (by omega) (by assumption))) Tryz.call84 false [] (fr 2760 0 6) [(5025, 6, (e11.hard.log.map encEnt)), (5026, 1, (e11.yes.map encI)), (5027, 1, (e11.next.map encI)), (5028, 1, (e11.match_.map encI))] ⟨rfl, ⟨45, (e11.hard.log.map encEnt), by kernel_rfl, FrzIs.same (allP_encEnt _)⟩, rfl, ⟨3, (e11.yes.map encI), by kernel_rfl, FrzIs.same (allP_encI _)⟩, rfl, ⟨3, (e11.next.map encI), by kernel_rfl, FrzIs.same (allP_encI _)⟩, rfl, ⟨3, (e11.match_.map encI), by kernel_rfl, FrzIs.same (allP_encI _)⟩, trivial⟩ ·) ?_
     have hou := on_in e10.msg hye11
     have hnd := hou.1
     have hle := hou.2.1
     have hmo : MailIn r1_.2.2 _ := hou.2.2
     refine dv (At.a 4 ·) ?_
     refine dv (At.idxH 72 92 (.tmp 78) (.tmp 80) 122 ((ns.map encRaft).set ((e10.to).toNat) (.agg (rC e11 .un .un .un .un))) ((e10.to).toNat) [(9, 5028), (8, 5027), (7, 5026), (6, 5025)] .i64 (e10.to) 29 10 (by omega) (by rw [List.length_set, List.length_map]; omega) ·) ?_
     refine dv (At.stH 29 122 29 10 ((e10.to).toNat) (.tmp 92) (.tmp 89) ((ns.map encRaft).set ((e10.to).toNat) (.agg (rC e11 .un .un .un .un))) (rC ((onR e11 e10.msg).1) (.ref 2760) (.ref 2761) (.ref 2762) (.ref 2763)) (rC e11 .un .un .un .un) [(9, 5028), (8, 5027), (7, 5026), (6, 5025)] (setGet (mapGet he11)) <| At.zD 1 <| AW.seq ·) ?_
     refine dv (AW.weak (Sub.closeL 122 ((e10.to).toNat) 29 10 (((ns.map encRaft).set ((e10.to).toNat) (.agg (rC e11 .un .un .un .un))).set ((e10.to).toNat) (.agg (rC ((onR e11 e10.msg).1) .un .un .un .un))) ((ns.set ((e10.to).toNat) ((onR e11 e10.msg).1)).map encRaft) (fr 6 2760 4) (.agg (rC ((onR e11 e10.msg).1) .un .un .un .un)) (encRaft ((onR e11 e10.msg).1)) [(45, 6, ((((onR e11 e10.msg).1).hard.log).map encEnt)), (3, 1, ((((onR e11 e10.msg).1).yes).map encI)), (3, 1, ((((onR e11 e10.msg).1).next).map encI)), (3, 1, ((((onR e11 e10.msg).1).match_).map encI))] (by kernel_rfl) (setGet (setGet (mapGet he11))) (by kernel_rfl) (by kernel_rfl) (by intro p hp; simp only [List.mem_cons, List.not_mem_nil, or_false] at hp; rcases hp with rfl | rfl | rfl | rfl; all_goals first | exact flatEnts | exact flatInts) (by kernel_rfl) (by kernel_rfl) (by rw [List.set_set, List.set_set]; exact setV.symm)) ·) ?_
     refine dv (AW.weak (Sub.frzIn 2765 51 17 (((onR e11 e10.msg).2.2).map encOut) (((onR e11 e10.msg).2.2).map encOutT) (by kernel_rfl) (frzOutT _)) <| AW.g <| At.a 2 ·) ?_
     refine dv (At.apC 146 51 17 168 246 176 2765 encOutT (((ml.drop 0).take (((r5_.2.2).toNat) - 0)) ++ ((ml.drop ((r5_.2.2 + 1).toNat)).take (ml.length - ((r5_.2.2 + 1).toNat)))) ((onR e11 e10.msg).2.2) (by simp only [List.length_map, lens]; omega) (allP_encOutT _) ·) ?_
     refine dv (At.z 1 <| AW.r <| At.a 2 <| At.sL 148 encOutT ((((ml.drop 0).take (((r5_.2.2).toNat) - 0)) ++ ((ml.drop ((r5_.2.2 + 1).toNat)).take (ml.length - ((r5_.2.2 + 1).toNat)))) ++ ((onR e11 e10.msg).2.2)) <| At.z 1 ·) ?_
     by_cases h22 : (((((ml.drop 0).take (((r5_.2.2).toNat) - 0)) ++ ((ml.drop ((r5_.2.2 + 1).toNat)).take (ml.length - ((r5_.2.2 + 1).toNat)))) ++ ((onR e11 e10.msg).2.2)).length : Int) > 30
     · refine dv (AW.dT h22 <| AW.g <| At.a 1 ·) ?_
       refine dv (At.cutRef (t := 38) (d := 151) (e := 51) (es := 17) (i := 246) (x := .tmp 150) (lx := none) (hx := some (.const (.int .i64 30))) (xs := (((((ml.drop 0).take (((r5_.2.2).toNat) - 0)) ++ ((ml.drop ((r5_.2.2 + 1).toNat)).take (ml.length - ((r5_.2.2 + 1).toNat)))) ++ ((onR e11 e10.msg).2.2)).map encOutT)) (vl := .un) (vh := nI 30) 251 30 ((((((ml.drop 0).take (((r5_.2.2).toNat) - 0)) ++ ((ml.drop ((r5_.2.2 + 1).toNat)).take (ml.length - ((r5_.2.2 + 1).toNat)))) ++ ((onR e11 e10.msg).2.2)).take 30).map encOutT) (by kernel_rfl) (by kernel_rfl) (by kernel_rfl) (by kernel_rfl) (by kernel_rfl) (by kernel_rfl) (by decide) (.inl ⟨rfl, rfl⟩) (.inr ⟨_, _, rfl, rfl⟩) (by simp only [List.length_map]; omega) (by rw [List.map_take]) ·) ?_
       refine dv (At.z 1 <| AW.g <| At.a 2 ·) ?_
       refine dv (At.sI 48 ((k : Int) + 1) (by omega) ·) ?_
       refine dv (At.z 1 ·) ?_
       exact dw (fun _ h_ => AWL.weak (Sub.o [(0, 0), (122, 122), (251, 139)] (bs 14 14529)) h_) (ih2 (k + 1, (ns.set ((e10.to).toNat) ((onR e11 e10.msg).1)), (((((ml.drop 0).take (((r5_.2.2).toNat) - 0)) ++ ((ml.drop ((r5_.2.2 + 1).toNat)).take (ml.length - ((r5_.2.2 + 1).toNat)))) ++ ((onR e11 e10.msg).2.2)).take 30), r5_.1, r5_.2.1) (⟨by omega, by (try simp only [List.length_set]); omega, by exact NodesIn.set hns _ hnd, ⟨by (try simp only [lens] at *); omega, by exact mail_take (mail_app (mail_cut hml _ _ _) hmo) _⟩, by omega⟩) (by simp only; omega))
     refine dv (AW.dF h22 <| AW.skip <| AW.g <| At.a 2 ·) ?_
     refine dv (At.sI 48 ((k : Int) + 1) (by omega) ·) ?_
     refine dv (At.z 1 ·) ?_
     exact dw (fun _ h_ => AWL.weak (Sub.o [(0, 0), (122, 122), (246, 139)] (bs 14 14529)) h_) (ih2 (k + 1, (ns.set ((e10.to).toNat) ((onR e11 e10.msg).1)), ((((ml.drop 0).take (((r5_.2.2).toNat) - 0)) ++ ((ml.drop ((r5_.2.2 + 1).toNat)).take (ml.length - ((r5_.2.2 + 1).toNat)))) ++ ((onR e11 e10.msg).2.2)), r5_.1, r5_.2.1) (⟨by omega, by (try simp only [List.length_set]); omega, by exact NodesIn.set hns _ hnd, ⟨by (try simp only [lens] at *); omega, by exact mail_app (mail_cut hml _ _ _) hmo⟩, by omega⟩) (by simp only; omega))
   refine dv (AW.dF h21 <| AW.skip <| AW.r <| At.a 2 ·) ?_
   refine dv (At.append (t := 38) (d := 146) (e := 51) (es := 17) (bytes := 168) (s := .tmp 144) (x := .tmp 145) (S := .ref 139) (T := .ref 152) (xs := (ml.map encOutT)) (ys := []) 246 [139] [] (ml.map encOutT) (by kernel_rfl) (by kernel_rfl) (by kernel_rfl) (by kernel_rfl) ⟨by kernel_rfl, rfl⟩ ⟨by kernel_rfl, .inl ⟨rfl, (fun _ h => by cases h)⟩⟩ (by kernel_rfl) (by kernel_rfl) (by simp) (by simp only [List.length_map, lens]; omega) (by simp only [List.length_map, lens]; omega) ·) ?_
   refine dv (At.z 1 <| AW.r <| At.a 2 <| At.sL 148 encOutT ml <| At.z 1 ·) ?_
   by_cases h23 : (ml.length : Int) > 30
   · refine dv (AW.dT h23 <| AW.g <| At.a 1 ·) ?_
     refine dv (At.cutRef (t := 38) (d := 151) (e := 51) (es := 17) (i := 246) (x := .tmp 150) (lx := none) (hx := some (.const (.int .i64 30))) (xs := (ml.map encOutT)) (vl := .un) (vh := nI 30) 251 30 ((ml.take 30).map encOutT) (by kernel_rfl) (by kernel_rfl) (by kernel_rfl) (by kernel_rfl) (by kernel_rfl) (by kernel_rfl) (by decide) (.inl ⟨rfl, rfl⟩) (.inr ⟨_, _, rfl, rfl⟩) (by omega) (by rw [List.map_take]) ·) ?_
     refine dv (At.z 1 <| AW.g <| At.a 2 ·) ?_
     refine dv (At.sI 48 ((k : Int) + 1) (by omega) ·) ?_
     refine dv (At.z 1 ·) ?_
     exact dw (fun _ h_ => AWL.weak (Sub.o [(0, 0), (122, 122), (251, 139)] (bs 14 14529)) h_) (ih2 (k + 1, ns, (ml.take 30), r4_.1, r4_.2.1) (⟨by omega, by (try simp only [List.length_set]); omega, by exact hns, ⟨by (try simp only [lens] at *); omega, by exact mail_take hml _⟩, by omega⟩) (by simp only; omega))
   refine dv (AW.dF h23 <| AW.skip <| AW.g <| At.a 2 ·) ?_
   refine dv (At.sI 48 ((k : Int) + 1) (by omega) ·) ?_
   refine dv (At.z 1 ·) ?_
   exact dw (fun _ h_ => AWL.weak (Sub.o [(0, 0), (122, 122), (246, 139)] (bs 14 14529)) h_) (ih2 (k + 1, ns, ml, r4_.1, r4_.2.1) (⟨by omega, by (try simp only [List.length_set]); omega, by exact hns, ⟨by (try simp only [lens] at *); omega, by exact hml⟩, by omega⟩) (by simp only; omega))
 refine dv (AW.dF h2 <| AW.exit <| AW.q 4 <| AW.ret ·) ?_
 refine dv (⟨_, Sub.refl _ _, ·⟩) ?_
 exact ⟨(p, s, ns, ml), ⟨by (try dsimp only); omega, by (try dsimp only); omega, _, hof, hl, hns, hm, hml⟩, KF.n [(0, 0), (122, 1), (139, 2)]⟩
theorem spec_l1Once_spec (c : Cur) (n : Int) (hp : 0 ≤ c.pos ∧ c.pos ≤ c.data.length ∧ c.data.length ≤ 1048576) : ∃ rho_ : Int × Int × Bool, (0 ≤ rho_.1 ∧ rho_.1 ≤ c.data.length) ∧ FnSpec Tryz.prog 18 [.ptr 0 0 0, nI n] [.box 71 [.sl false 1 (c.data.map encU8), nI c.pos, nI c.seed]] (.bool rho_.2.2) [.box 71 [.sl false 1 (c.data.map encU8), nI rho_.1, nI rho_.2.1]]:= by
 refine dv (fun h_ => FnSpec.of 9 Tryz.func18 rfl Tryz.ntmps18 (by simp) (AW.weakK h_)) ?_
 refine dv (AW.q 1 <| AW.r <| At.a 2 ·) ?_
 refine exE (spec_l1Below_spec c n (by omega)) fun r1_ qr1_ hr1_ => ?_
 try simp only [Int.reduceLT, Int.reduceLE, true_implies, false_implies, and_true] at qr1_
 refine dv (At.c (hr1_) Tryz.call45 true [(0, 0)] [] [] trivial <| At.z 2 <| AW.ret ·) ?_
 refine dv (⟨_, Sub.refl _ _, ·⟩) ?_
 exact ⟨(r1_.1, r1_.2.1, r1_.2.2 == 0), (by dsimp only; omega), KF.n [(0, 0)]⟩
theorem spec_l1DrawBytes_spec (c : Cur) (most : Int) (hp : 0 ≤ c.pos ∧ c.pos ≤ c.data.length ∧ c.data.length ≤ 1048576) (hm : 0 ≤ most ∧ most ≤ 100000) : ∃ rho_ : Int × Int × List UInt8, (0 ≤ rho_.1 ∧ rho_.1 ≤ c.data.length ∧ (rho_.2.2.length : Int) ≤ max most 0) ∧ FnSpec Tryz.prog 111 [.ptr 0 0 0, nI most] [.box 71 [.sl false 1 (c.data.map encU8), nI c.pos, nI c.seed]] (.ref 1) [.box 71 [.sl false 1 (c.data.map encU8), nI rho_.1, nI rho_.2.1], .arr 5 1 (rho_.2.2.map encU8)]:= by
 refine dv (fun h_ => FnSpec.of 25 Tryz.func111 rfl Tryz.ntmps111 (by simp) (AW.weakK h_)) ?_
 refine dv (AW.q 1 <| AW.r <| At.l0 22 8 5 1 1 108 <| At.z 1 <| AW.r <| At.a 3 ·) ?_
 refine dv (At.sI 11 (most + 1) (by omega) ·) ?_
 refine exE (spec_l1Below_spec c (most + 1) (by omega)) fun r1_ qr1_ hr1_ => ?_
 try simp only [Int.reduceLT, Int.reduceLE, true_implies, false_implies, and_true] at qr1_
 refine dv (At.c (hr1_) Tryz.call45 true [(0, 0)] [] [] trivial <| At.z 1 <| AW.seq <| AW.q 1 <| AW.block ·) ?_
 refine DW.loopQ (fun (x : Nat × List UInt8 × Int × Int) => match x with | (k, o, p, s) => Go.Sy.mk [.ptr 0 0 0, .un, .un, .un, .un, .ref 108, nI r1_.2.2, nI (k : Int)] [(0, .box 71 [.sl false 1 (c.data.map encU8), nI p, nI s]), (108, .arr 5 1 (o.map encU8))]) (fun (k, o, p, s) => (k : Int) ≤ r1_.2.2 ∧ o.length = k ∧ (0 ≤ p ∧ p ≤ c.data.length)) (fun (k, o, p, s) => r1_.2.2.toNat - k) (0, [], r1_.1, r1_.2.1) ⟨by omega, rfl, by omega⟩ (Sub.o (dg [0, 108]) (bs 8 225)) ?_
 rintro ⟨k, o, p, s⟩ hk ih1
 refine dv (AW.seq <| AW.q 3 ·) ?_
 by_cases h1 : (k : Int) < r1_.2.2
 · refine dv (AW.dT h1 <| AW.skip <| AW.seq <| AW.block <| AW.g <| At.a 2 ·) ?_
   refine exE (spec_l1Byte_spec ⟨c.data, p, s⟩ (by dsimp only; omega)) fun r2_ qr2_ hr2_ => ?_
   try dsimp only at qr2_
   refine dv (At.c (hr2_) Tryz.call85 true [(0, 0)] [] [] trivial <| At.conv (s := 3) (t := 5) (d := 21) (x := .tmp 20) (kd := .i64) (kd' := .u8) (a := r2_.2.2) (.int .u8 ((u8Of r2_.2.2).toNat : Int)) (by kernel_rfl) (by kernel_rfl) (by kernel_rfl) (by kernel_rfl) (sayByte _) <| At.ll 22 5 1 122 (45, 6) (([(u8Of r2_.2.2)]).map encU8) ·) ?_
   refine dv (At.apK 23 5 1 1 123 108 122 encU8 o ([(u8Of r2_.2.2)]) (by simp only [List.length_map, lens]; omega) ·) ?_
   refine dv (At.z 1 <| AW.g <| At.a 2 ·) ?_
   refine dv (At.sI 17 ((k : Int) + 1) (by omega) ·) ?_
   refine dv (At.z 1 ·) ?_
   exact dw (fun _ h_ => AWL.weak (Sub.o [(0, 0), (123, 108)] (bs 8 225)) h_) (ih1 (k + 1, (o ++ ([(u8Of r2_.2.2)])), r2_.1, r2_.2.1) (by simp only [lens]; omega) (by simp only; omega))
 refine dv (AW.dF h1 <| AW.exit <| AW.q 2 <| AW.ret ·) ?_
 refine dv (⟨_, Sub.refl _ _, ·⟩) ?_
 exact ⟨(p, s, o), (by dsimp only; omega), KF.n [(0, 0), (108, 1)]⟩
theorem spec_l3DrawText_spec (c : Cur) (most : Int) (hp : 0 ≤ c.pos ∧ c.pos ≤ c.data.length ∧ c.data.length ≤ 1048576) (hm : 0 ≤ most ∧ most ≤ 100000) : ∃ rho_ : Int × Int × ByteArray, (0 ≤ rho_.1 ∧ rho_.1 ≤ c.data.length ∧ (rho_.2.2.size : Int) ≤ max most 0) ∧ FnSpec Tryz.prog 87 [.ptr 0 0 0, nI most] [.box 71 [.sl false 1 (c.data.map encU8), nI c.pos, nI c.seed]] (.str rho_.2.2) [.box 71 [.sl false 1 (c.data.map encU8), nI rho_.1, nI rho_.2.1]]:= by
 refine dv (fun h_ => FnSpec.of 9 Tryz.func87 rfl Tryz.ntmps87 (by simp) (AW.weakK h_)) ?_
 refine dv (AW.q 1 <| AW.r <| At.a 2 ·) ?_
 refine exE (spec_l1DrawBytes_spec c most (by omega) hm) fun r1_ qr1_ hr1_ => ?_
 refine dv (At.c (hr1_) Tryz.call111 true [(0, 0)] [(1140, 1)] [] trivial <| At.b2s (s := 22) (t := 9) (e := 5) (d := 8) (x := .tmp 7) (T := .ref 1140) (r1_.2.2) [] (by kernel_rfl) (by kernel_rfl) (by kernel_rfl) (by kernel_rfl) ⟨by kernel_rfl, .inl ⟨rfl, (allP_encU8 _)⟩⟩ <| At.z 1 <| AW.ret ·) ?_
 refine dv (⟨_, Sub.refl _ _, ·⟩) ?_
 exact ⟨(r1_.1, r1_.2.1, strOf r1_.2.2), (by dsimp only; rw [strOf_size]; omega), KF.n [(0, 0)]⟩
theorem spec_l8DrawRight_spec (c : Cur) (hp : 0 ≤ c.pos ∧ c.pos ≤ c.data.length ∧ c.data.length ≤ 1048576) : ∃ rho_ : Int × Int × Msg, (0 ≤ rho_.1 ∧ rho_.1 ≤ c.data.length ∧ rho_.2.2.entries.length ≤ 100) ∧ FnSpec Tryz.prog 46 [.ptr 0 0 0] [.box 71 [.sl false 1 (c.data.map encU8), nI c.pos, nI c.seed]] (.agg (mC rho_.2.2 (.ref 1))) [.box 71 [.sl false 1 (c.data.map encU8), nI rho_.1, nI rho_.2.1], .arr 45 6 (rho_.2.2.entries.map encEnt)]:= by
 refine dv (fun h_ => FnSpec.of 95 Tryz.func46 rfl Tryz.ntmps46 (by simp) (AW.weakK h_)) ?_
 refine dv (AW.q 1 <| AW.seq <| AW.weak (Sub.nils [⟨true, 102, some 15, 5001, 45, 6⟩] (by kernel_rfl)) <| AW.g <| At.a 1 ·) ?_
 refine exE (spec_l1Below_spec c 7 (by omega)) fun r1_ qr1_ hr1_ => ?_
 replace qr1_ := bpos qr1_ (by decide)
 try dsimp only at qr1_
 refine dv (At.c (hr1_) Tryz.call45 true [(0, 0)] [] [] trivial <| At.a 1 ·) ?_
 refine dv (At.sI 9 (1 + r1_.2.2) (by omega) ·) ?_
 refine dv (At.z 3 <| AW.seq <| AW.weak (Sub.nils [⟨true, 103, some 15, 5002, 45, 6⟩] (by kernel_rfl)) <| AW.g <| At.a 2 <| At.c (spec_l8Has_spec (1 + r1_.2.2)) Tryz.call86 true [] [] [] trivial ·) ?_
 have hf6 := l8F_six (1 + r1_.2.2)
 refine dv (At.z 1 <| AW.seq <| AW.q 1 <| AW.block ·) ?_
 refine DW.loopQ (fun (x : Nat × Msg × Int × Int) => match x with | (i, q, p, s) => Go.Sy.mk [.ptr 0 0 0, .un, .ptr 102 0 0, .ptr 103 0 0, .str (l8F (1 + r1_.2.2)), nI (i : Int)] [(0, .box 71 [.sl false 1 (c.data.map encU8), nI p, nI s]), (102, .box 33 [nI 0, nI 0, nI 0, nI 0, nI 0, nI 0, .bool false, nI 0, nI 0, .str eB, nI 0, nI 0, nI 0, nI 0, .str eB, .ref 5001]), (103, .box 33 (mC q (.ref 5002))), (5001, .arr 45 6 []), (5002, .arr 45 6 (q.entries.map encEnt))]) (fun (i, q, p, s) => i ≤ (l8F (1 + r1_.2.2)).size ∧ q.entries.length ≤ 6 * i ∧ (0 ≤ p ∧ p ≤ c.data.length)) (fun (i, q, p, s) => (l8F (1 + r1_.2.2)).size - i) (0, (⟨1 + r1_.2.2, 0, 0, 0, 0, 0, false, 0, 0, eB, ⟨0, 0, 0, 0, eB⟩, []⟩ : Msg), r1_.1, r1_.2.1) (by dsimp only; (try simp only [List.length_nil]); omega) (Sub.o (dg [0, 102, 103, 5001, 5002]) (bs 6 61)) ?_
 rintro ⟨i, q, p, s⟩ hq ih1
 refine dv (AW.seq <| AW.q 4 ·) ?_
 by_cases h1 : (i : Int) < ((l8F (1 + r1_.2.2)).size : Int)
 · refine dv (AW.dT h1 <| AW.skip <| AW.seq <| AW.block <| AW.r <| At.a 2 ·) ?_
   refine Exists.elim (show ∃ e, (l8F (1 + r1_.2.2)).data[i]? = some e from ⟨_, Array.getElem?_eq_getElem (by show _ < (l8F (1 + r1_.2.2)).size; omega)⟩) fun e1 he1 => ?_
   refine dv (At.idxStr (t := 9) (d := 22) (x := .tmp 20) (y := .tmp 21) (s := l8F (1 + r1_.2.2)) (kd := .i64) (i := (i : Int)) e1 (by kernel_rfl) (by kernel_rfl) (by kernel_rfl) (by kernel_rfl) (by omega) he1 ·) ?_
   refine dv (At.done rfl <| AW.block <| AW.q 2 ·) ?_
   by_cases h2 : (e1.toNat : Int) = 102
   · refine dv (AW.cT ((e1.toNat : Int) == 102) (beq_iff_eq.2 h2) <| AW.g <| At.a 1 ·) ?_
     refine exE (spec_l1Below_spec ⟨c.data, p, s⟩ 3 (by dsimp only; omega)) fun r2_ qr2_ hr2_ => ?_
     replace qr2_ := bpos qr2_ (by decide)
     try dsimp only at qr2_
     refine dv (At.c (hr2_) Tryz.call45 true [(0, 0)] [] [] trivial <| At.z 2 <| AW.g <| At.a 2 ·) ?_
     refine dv (At.sI 19 ((i : Int) + 1) (by omega) ·) ?_
     refine dv (At.z 1 ·) ?_
     exact dw (fun _ h_ => AWL.weak (Sub.o (dg [0, 102, 103, 5001, 5002]) (bs 6 61)) h_) (ih1 (i + 1, (⟨q.kind, r2_.2.2, q.term, q.at_, q.atTerm, q.commit, q.yes, q.release, q.part, q.bytes, q.cmd, q.entries⟩ : Msg), r2_.1, r2_.2.1) (by dsimp only; (try simp only [lens]); omega) (by simp only; omega))
   refine dv (AW.cF ((e1.toNat : Int) == 102) (beq_eq_false_iff_ne.2 h2) <| AW.q 2 ·) ?_
   by_cases h3 : (e1.toNat : Int) = 116
   · refine dv (AW.cT ((e1.toNat : Int) == 116) (beq_iff_eq.2 h3) <| AW.g <| At.a 1 ·) ?_
     refine exE (spec_l1Below_spec ⟨c.data, p, s⟩ 5 (by dsimp only; omega)) fun r2_ qr2_ hr2_ => ?_
     replace qr2_ := bpos qr2_ (by decide)
     try dsimp only at qr2_
     refine dv (At.c (hr2_) Tryz.call45 true [(0, 0)] [] [] trivial <| At.z 2 <| AW.g <| At.a 2 ·) ?_
     refine dv (At.sI 19 ((i : Int) + 1) (by omega) ·) ?_
     refine dv (At.z 1 ·) ?_
     exact dw (fun _ h_ => AWL.weak (Sub.o (dg [0, 102, 103, 5001, 5002]) (bs 6 61)) h_) (ih1 (i + 1, (⟨q.kind, q.from_, r2_.2.2, q.at_, q.atTerm, q.commit, q.yes, q.release, q.part, q.bytes, q.cmd, q.entries⟩ : Msg), r2_.1, r2_.2.1) (by dsimp only; (try simp only [lens]); omega) (by simp only; omega))
   refine dv (AW.cF ((e1.toNat : Int) == 116) (beq_eq_false_iff_ne.2 h3) <| AW.q 2 ·) ?_
   by_cases h4 : (e1.toNat : Int) = 97
   · refine dv (AW.cT ((e1.toNat : Int) == 97) (beq_iff_eq.2 h4) <| AW.g <| At.a 1 ·) ?_
     refine exE (spec_l1Below_spec ⟨c.data, p, s⟩ 5 (by dsimp only; omega)) fun r2_ qr2_ hr2_ => ?_
     replace qr2_ := bpos qr2_ (by decide)
     try dsimp only at qr2_
     refine dv (At.c (hr2_) Tryz.call45 true [(0, 0)] [] [] trivial <| At.z 2 <| AW.g <| At.a 2 ·) ?_
     refine dv (At.sI 19 ((i : Int) + 1) (by omega) ·) ?_
     refine dv (At.z 1 ·) ?_
     exact dw (fun _ h_ => AWL.weak (Sub.o (dg [0, 102, 103, 5001, 5002]) (bs 6 61)) h_) (ih1 (i + 1, (⟨q.kind, q.from_, q.term, r2_.2.2, q.atTerm, q.commit, q.yes, q.release, q.part, q.bytes, q.cmd, q.entries⟩ : Msg), r2_.1, r2_.2.1) (by dsimp only; (try simp only [lens]); omega) (by simp only; omega))
   refine dv (AW.cF ((e1.toNat : Int) == 97) (beq_eq_false_iff_ne.2 h4) <| AW.q 2 ·) ?_
   by_cases h5 : (e1.toNat : Int) = 115
   · refine dv (AW.cT ((e1.toNat : Int) == 115) (beq_iff_eq.2 h5) <| AW.g <| At.a 1 ·) ?_
     refine exE (spec_l1Below_spec ⟨c.data, p, s⟩ 4 (by dsimp only; omega)) fun r2_ qr2_ hr2_ => ?_
     replace qr2_ := bpos qr2_ (by decide)
     try dsimp only at qr2_
     refine dv (At.c (hr2_) Tryz.call45 true [(0, 0)] [] [] trivial <| At.z 2 <| AW.g <| At.a 2 ·) ?_
     refine dv (At.sI 19 ((i : Int) + 1) (by omega) ·) ?_
     refine dv (At.z 1 ·) ?_
     exact dw (fun _ h_ => AWL.weak (Sub.o (dg [0, 102, 103, 5001, 5002]) (bs 6 61)) h_) (ih1 (i + 1, (⟨q.kind, q.from_, q.term, q.at_, r2_.2.2, q.commit, q.yes, q.release, q.part, q.bytes, q.cmd, q.entries⟩ : Msg), r2_.1, r2_.2.1) (by dsimp only; (try simp only [lens]); omega) (by simp only; omega))
   refine dv (AW.cF ((e1.toNat : Int) == 115) (beq_eq_false_iff_ne.2 h5) <| AW.q 2 ·) ?_
   by_cases h6 : (e1.toNat : Int) = 99
   · refine dv (AW.cT ((e1.toNat : Int) == 99) (beq_iff_eq.2 h6) <| AW.g <| At.a 1 ·) ?_
     refine exE (spec_l1Below_spec ⟨c.data, p, s⟩ 5 (by dsimp only; omega)) fun r2_ qr2_ hr2_ => ?_
     replace qr2_ := bpos qr2_ (by decide)
     try dsimp only at qr2_
     refine dv (At.c (hr2_) Tryz.call45 true [(0, 0)] [] [] trivial <| At.z 2 <| AW.g <| At.a 2 ·) ?_
     refine dv (At.sI 19 ((i : Int) + 1) (by omega) ·) ?_
     refine dv (At.z 1 ·) ?_
     exact dw (fun _ h_ => AWL.weak (Sub.o (dg [0, 102, 103, 5001, 5002]) (bs 6 61)) h_) (ih1 (i + 1, (⟨q.kind, q.from_, q.term, q.at_, q.atTerm, r2_.2.2, q.yes, q.release, q.part, q.bytes, q.cmd, q.entries⟩ : Msg), r2_.1, r2_.2.1) (by dsimp only; (try simp only [lens]); omega) (by simp only; omega))
   refine dv (AW.cF ((e1.toNat : Int) == 99) (beq_eq_false_iff_ne.2 h6) <| AW.q 2 ·) ?_
   by_cases h7 : (e1.toNat : Int) = 121
   · refine dv (AW.cT ((e1.toNat : Int) == 121) (beq_iff_eq.2 h7) <| AW.g <| At.a 1 ·) ?_
     refine exE (spec_l1Once_spec ⟨c.data, p, s⟩ 2 (by dsimp only; omega)) fun r2_ qr2_ hr2_ => ?_
     try dsimp only at qr2_
     refine dv (At.c (hr2_) Tryz.call18 true [(0, 0)] [] [] trivial <| At.z 2 <| AW.g <| At.a 2 ·) ?_
     refine dv (At.sI 19 ((i : Int) + 1) (by omega) ·) ?_
     refine dv (At.z 1 ·) ?_
     exact dw (fun _ h_ => AWL.weak (Sub.o (dg [0, 102, 103, 5001, 5002]) (bs 6 61)) h_) (ih1 (i + 1, (⟨q.kind, q.from_, q.term, q.at_, q.atTerm, q.commit, r2_.2.2, q.release, q.part, q.bytes, q.cmd, q.entries⟩ : Msg), r2_.1, r2_.2.1) (by dsimp only; (try simp only [lens]); omega) (by simp only; omega))
   refine dv (AW.cF ((e1.toNat : Int) == 121) (beq_eq_false_iff_ne.2 h7) <| AW.q 2 ·) ?_
   by_cases h8 : (e1.toNat : Int) = 114
   · refine dv (AW.cT ((e1.toNat : Int) == 114) (beq_iff_eq.2 h8) <| AW.g <| At.a 1 ·) ?_
     refine exE (spec_l1Below_spec ⟨c.data, p, s⟩ 4 (by dsimp only; omega)) fun r2_ qr2_ hr2_ => ?_
     replace qr2_ := bpos qr2_ (by decide)
     try dsimp only at qr2_
     refine dv (At.c (hr2_) Tryz.call45 true [(0, 0)] [] [] trivial <| At.a 1 ·) ?_
     refine dv (At.sI 57 (1 + r2_.2.2) (by omega) ·) ?_
     refine dv (At.z 2 <| AW.g <| At.a 2 ·) ?_
     refine dv (At.sI 19 ((i : Int) + 1) (by omega) ·) ?_
     refine dv (At.z 1 ·) ?_
     exact dw (fun _ h_ => AWL.weak (Sub.o (dg [0, 102, 103, 5001, 5002]) (bs 6 61)) h_) (ih1 (i + 1, (⟨q.kind, q.from_, q.term, q.at_, q.atTerm, q.commit, q.yes, 1 + r2_.2.2, q.part, q.bytes, q.cmd, q.entries⟩ : Msg), r2_.1, r2_.2.1) (by dsimp only; (try simp only [lens]); omega) (by simp only; omega))
   refine dv (AW.cF ((e1.toNat : Int) == 114) (beq_eq_false_iff_ne.2 h8) <| AW.q 2 ·) ?_
   by_cases h9 : (e1.toNat : Int) = 112
   · refine dv (AW.cT ((e1.toNat : Int) == 112) (beq_iff_eq.2 h9) <| AW.g <| At.a 1 ·) ?_
     refine exE (spec_l1Below_spec ⟨c.data, p, s⟩ 4 (by dsimp only; omega)) fun r2_ qr2_ hr2_ => ?_
     replace qr2_ := bpos qr2_ (by decide)
     try dsimp only at qr2_
     refine dv (At.c (hr2_) Tryz.call45 true [(0, 0)] [] [] trivial <| At.z 2 <| AW.g <| At.a 2 ·) ?_
     refine dv (At.sI 19 ((i : Int) + 1) (by omega) ·) ?_
     refine dv (At.z 1 ·) ?_
     exact dw (fun _ h_ => AWL.weak (Sub.o (dg [0, 102, 103, 5001, 5002]) (bs 6 61)) h_) (ih1 (i + 1, (⟨q.kind, q.from_, q.term, q.at_, q.atTerm, q.commit, q.yes, q.release, r2_.2.2, q.bytes, q.cmd, q.entries⟩ : Msg), r2_.1, r2_.2.1) (by dsimp only; (try simp only [lens]); omega) (by simp only; omega))
   refine dv (AW.cF ((e1.toNat : Int) == 112) (beq_eq_false_iff_ne.2 h9) <| AW.q 2 ·) ?_
   by_cases h10 : (e1.toNat : Int) = 98
   · refine dv (AW.cT ((e1.toNat : Int) == 98) (beq_iff_eq.2 h10) <| AW.g <| At.a 1 ·) ?_
     refine exE (spec_l3DrawText_spec ⟨c.data, p, s⟩ 15 (by dsimp only; omega) (by omega)) fun r2_ qr2_ hr2_ => ?_
     try dsimp only at qr2_
     refine dv (At.c (hr2_) Tryz.call87 true [(0, 0)] [] [] trivial ·) ?_
     refine dv (At.cat (t := 9) (u := 9) (d := 68) (x := .const (.string ⟨#[120]⟩)) (y := .tmp 67) (a := (⟨#[120]⟩ : ByteArray)) (b := r2_.2.2) (by kernel_rfl) (by kernel_rfl) (by kernel_rfl) (by kernel_rfl) (by have : (⟨#[120]⟩ : ByteArray).size = 1 := rfl; omega) ·) ?_
     refine dv (At.z 2 <| AW.g <| At.a 2 ·) ?_
     refine dv (At.sI 19 ((i : Int) + 1) (by omega) ·) ?_
     refine dv (At.z 1 ·) ?_
     exact dw (fun _ h_ => AWL.weak (Sub.o (dg [0, 102, 103, 5001, 5002]) (bs 6 61)) h_) (ih1 (i + 1, (⟨q.kind, q.from_, q.term, q.at_, q.atTerm, q.commit, q.yes, q.release, q.part, (⟨#[120]⟩ : ByteArray) ++ r2_.2.2, q.cmd, q.entries⟩ : Msg), r2_.1, r2_.2.1) (by dsimp only; (try simp only [lens]); omega) (by simp only; omega))
   refine dv (AW.cF ((e1.toNat : Int) == 98) (beq_eq_false_iff_ne.2 h10) <| AW.q 2 ·) ?_
   by_cases h11 : (e1.toNat : Int) = 100
   · refine dv (AW.cT ((e1.toNat : Int) == 100) (beq_iff_eq.2 h11) <| AW.g <| At.a 1 ·) ?_
     refine exE (spec_l5DrawRight_spec ⟨c.data, p, s⟩ (by dsimp only; omega)) fun r2_ qr2_ hr2_ => ?_
     try dsimp only at qr2_
     refine dv (At.c (hr2_) Tryz.call21 true [(0, 0)] [] [] trivial <| At.z 2 <| AW.g <| At.a 2 ·) ?_
     refine dv (At.sI 19 ((i : Int) + 1) (by omega) ·) ?_
     refine dv (At.z 1 ·) ?_
     exact dw (fun _ h_ => AWL.weak (Sub.o (dg [0, 102, 103, 5001, 5002]) (bs 6 61)) h_) (ih1 (i + 1, (⟨q.kind, q.from_, q.term, q.at_, q.atTerm, q.commit, q.yes, q.release, q.part, q.bytes, r2_.2.2, q.entries⟩ : Msg), r2_.1, r2_.2.1) (by dsimp only; (try simp only [lens]); omega) (by simp only; omega))
   refine dv (AW.cF ((e1.toNat : Int) == 100) (beq_eq_false_iff_ne.2 h11) <| AW.q 2 ·) ?_
   by_cases h12 : (e1.toNat : Int) = 101
   · refine dv (AW.cT ((e1.toNat : Int) == 101) (beq_iff_eq.2 h12) <| AW.q 1 <| AW.block ·) ?_
     refine DW.loopQ (fun (x : Nat × List Ent × Int × Int) => match x with | (k, l, p2, s2) => Go.Sy.mk [.ptr 0 0 0, .un, .ptr 102 0 0, .ptr 103 0 0, .str (l8F (1 + r1_.2.2)), nI (i : Int), nI (k : Int)] [(0, .box 71 [.sl false 1 (c.data.map encU8), nI p2, nI s2]), (102, .box 33 [nI 0, nI 0, nI 0, nI 0, nI 0, nI 0, .bool false, nI 0, nI 0, .str eB, nI 0, nI 0, nI 0, nI 0, .str eB, .ref 5001]), (103, .box 33 (mC q (.ref 5002))), (5001, .arr 45 6 []), (5002, .arr 45 6 (l.map encEnt))]) (fun (k, l, p2, s2) => k ≤ 6 ∧ l.length ≤ 6 * i + k ∧ (0 ≤ p2 ∧ p2 ≤ c.data.length)) (fun (k, l, p2, s2) => 6 - k) (0, q.entries, p, s) (by dsimp only; (try simp only [List.length_nil]); omega) (Sub.o (dg [0, 102, 103, 5001, 5002]) (bs 7 125)) ?_
     rintro ⟨k, l, p2, s2⟩ hl ih2
     refine dv (AW.seq <| AW.r <| At.a 2 ·) ?_
     refine exE (spec_l1Below_spec ⟨c.data, p2, s2⟩ 7 (by dsimp only; omega)) fun r2_ qr2_ hr2_ => ?_
     replace qr2_ := bpos qr2_ (by decide)
     try dsimp only at qr2_
     refine dv (At.c (hr2_) Tryz.call45 true [(0, 0)] [] [] trivial <| At.z 1 ·) ?_
     by_cases h13 : (k : Int) < r2_.2.2
     · refine dv (AW.dT h13 <| AW.skip <| AW.seq <| AW.block <| AW.gD Tryz_mix <| At.a 3 ·) ?_
       refine exE (spec_l1Below_spec ⟨c.data, r2_.1, r2_.2.1⟩ 4 (by dsimp only; omega)) fun r3_ qr3_ hr3_ => ?_
       replace qr3_ := bpos qr3_ (by decide)
       try dsimp only at qr3_
       refine dv (At.c (hr3_) Tryz.call45 true [(0, 0)] [] [] trivial <| At.a 1 ·) ?_
       refine dv (At.sI 87 (1 + r3_.2.2) (by omega) ·) ?_
       refine dv (At.a 1 ·) ?_
       refine exE (spec_l5DrawRight_spec ⟨c.data, r3_.1, r3_.2.1⟩ (by dsimp only; omega)) fun r4_ qr4_ hr4_ => ?_
       try dsimp only at qr4_
       refine dv (At.c (hr4_) Tryz.call21 true [(0, 0)] [] [] trivial <| At.a 1 <| At.ll 91 45 6 191 (45, 6) (([(⟨1 + r3_.2.2, r4_.2.2⟩ : Ent)]).map encEnt) ·) ?_
       refine dv (At.apK 92 45 6 56 192 5002 191 encEnt l ([(⟨1 + r3_.2.2, r4_.2.2⟩ : Ent)]) (by simp only [List.length_map, lens]; omega) ·) ?_
       refine dv (At.zD 2 <| AW.g <| At.a 2 ·) ?_
       refine dv (At.sI 82 ((k : Int) + 1) (by omega) ·) ?_
       refine dv (At.z 1 ·) ?_
       exact dw (fun _ h_ => AWL.weak (Sub.o [(0, 0), (102, 102), (103, 103), (5001, 5001), (192, 5002)] (bs 7 125)) h_) (ih2 (k + 1, (l ++ ([(⟨1 + r3_.2.2, r4_.2.2⟩ : Ent)])), r4_.1, r4_.2.1) (by dsimp only; (try simp only [lens]); omega) (by simp only; omega))
     refine dv (AW.dF h13 <| AW.exit <| AW.g <| At.a 2 ·) ?_
     refine dv (At.sI 19 ((i : Int) + 1) (by omega) ·) ?_
     refine dv (At.z 1 ·) ?_
     exact dw (fun _ h_ => AWL.weak (Sub.o (dg [0, 102, 103, 5001, 5002]) (bs 6 61)) h_) (ih1 (i + 1, (⟨q.kind, q.from_, q.term, q.at_, q.atTerm, q.commit, q.yes, q.release, q.part, q.bytes, q.cmd, l⟩ : Msg), r2_.1, r2_.2.1) (by dsimp only; (try simp only [lens]); omega) (by simp only; omega))
   refine dv (AW.cF ((e1.toNat : Int) == 101) (beq_eq_false_iff_ne.2 h12) <| AW.skip <| AW.g <| At.a 2 ·) ?_
   refine dv (At.sI 19 ((i : Int) + 1) (by omega) ·) ?_
   refine dv (At.z 1 ·) ?_
   exact dw (fun _ h_ => AWL.weak (Sub.o (dg [0, 102, 103, 5001, 5002]) (bs 6 61)) h_) (ih1 (i + 1, q, p, s) (by dsimp only; (try simp only [lens]); omega) (by simp only; omega))
 refine dv (AW.dF h1 <| AW.exit <| AW.q 2 <| AW.ret ·) ?_
 refine dv (⟨_, Sub.refl _ _, ·⟩) ?_
 exact ⟨(p, s, q), (by (try dsimp only); omega), KF.n [(0, 0), (5002, 1)]⟩
end Go.Proofs.YtocjgmdfocaamaaGreat
