/- The contracts of the functions that FnStands reaches (each: what it answers, said over values), printed by a program of this session (wip/sy/g/gen.py). -/
import Derived.Test.YtlmadhahghiedaaGreatFFnStands6
set_option linter.unusedVariables false
set_option linter.unusedSimpArgs false
set_option maxRecDepth 100000
set_option maxHeartbeats 4000000
namespace Go.Proofs.YtlmadhahghiedaaGreat
open Go Go.Sy Go.Proofs
theorem impl_stepper_send_spec  (s : Stepper) (i : Int) (hz : SmallR s.r) (hi : 0 ≤ i ∧ i < s.r.next.length) (hn : NextOk s.r) (ho : s.outs.length ≤ 2000) : FnSpec Tryz.prog 106 [.ptr 0 0 0, .int .i64 i] [.box 102 [.int .i64 s.r.id, .int .i64 s.r.of_, .int .i64 s.r.role, .int .i64 s.r.commit, .int .i64 s.r.hard.term, .int .i64 s.r.hard.vote, .ref 1, .ref 2, .ref 3, .ref 4, .int .i64 s.was.id, .int .i64 s.was.of_, .int .i64 s.was.role, .int .i64 s.was.commit, .int .i64 s.was.hard.term, .int .i64 s.was.hard.vote, .sl false 6 (s.was.hard.log.map encEnt), .sl false 1 (s.was.yes.map encI), .sl false 1 (s.was.next.map encI), .sl false 1 (s.was.match_.map encI), .ref 5, .ref 6], .arr 45 6 (s.r.hard.log.map encEnt), .arr 3 1 (s.r.yes.map encI), .arr 3 1 (s.r.next.map encI), .arr 3 1 (s.r.match_.map encI), .arr 47 10 (s.recs.map encRec), .arr 51 17 (s.outs.map encOut)] (.tup []) [.box 102 [.int .i64 s.r.id, .int .i64 s.r.of_, .int .i64 s.r.role, .int .i64 s.r.commit, .int .i64 s.r.hard.term, .int .i64 s.r.hard.vote, .ref 1, .ref 2, .ref 3, .ref 4, .int .i64 s.was.id, .int .i64 s.was.of_, .int .i64 s.was.role, .int .i64 s.was.commit, .int .i64 s.was.hard.term, .int .i64 s.was.hard.vote, .sl false 6 (s.was.hard.log.map encEnt), .sl false 1 (s.was.yes.map encI), .sl false 1 (s.was.next.map encI), .sl false 1 (s.was.match_.map encI), .ref 5, .ref 7], .arr 45 6 (s.r.hard.log.map encEnt), .arr 3 1 (s.r.yes.map encI), .arr 3 1 (s.r.next.map encI), .arr 3 1 (s.r.match_.map encI), .arr 47 10 (s.recs.map encRec), .dead, .arr 51 17 ((s.outs ++ [sendOf s.r i]).map encOut)] := by
 obtain ⟨z1, z2, z3, z4⟩ := id hz
 refine FnSpec.of 59 Tryz.func106 rfl Tryz.ntmps106 (by simp) (AW.weakK ?_)
 refine AW.q 7 ?_
 refine AW.r ?_
 refine At.a 1 ?_
 refine At.c (impl_stepper_message_spec  s 3 ) Tryz.call114 true [(0, 0), (1, 1), (2, 2), (3, 3), (4, 4), (5, 5), (6, 6)] [(1260, 7)] [] trivial ?_
 refine At.z 2 ?_
 refine AW.r ?_
 refine At.a 6 ?_
 refine At.iRf 27 20 (.tmp 18) (.tmp 19) 3 (s.r.next.map encI) .i64 i 3 1 (by omega) (by simp only [List.length_map]; omega) ?_
 refine Exists.elim (gE s.r.next ((i).toNat) (by omega)) fun e1 he1 => ?_
 have hxe1 := hn _ (List.mem_of_getElem? he1)
 refine At.lEl 3 21 (.tmp 20) 3 3 1 (s.r.next.map encI) ((i).toNat) 0 false 1 (encI e1) (.int .i64 e1) (mapGet he1) ?_
 refine At.a 1 ?_
 refine At.sI 22 (e1 - 1) (by omega) ?_
 refine At.z 2 ?_
 refine AW.seq ?_
 refine AW.gD Tryz_mix ?_
 refine At.a 3 ?_
 refine At.c (impl_termAt_spec  s.r.hard.log (e1 - 1) (by omega) (by omega)) Tryz.call158 false [] [] [(1, 6, (s.r.hard.log.map encEnt))] ⟨rfl, ⟨45, (s.r.hard.log.map encEnt), by kernel_rfl, FrzIs.same (allP_encEnt _)⟩, trivial⟩ ?_
 refine At.zD 9 ?_
 refine AW.r ?_
 refine At.a 6 ?_
 refine At.sJ 40 ((e1 - 1) + 6) (e1 + 5) (by omega) (by omega) ?_
 refine At.a 2 ?_
 refine At.sL 42 encEnt s.r.hard.log ?_
 refine At.mm (d := 43) (b := .min) (x := .tmp 40) (y := .tmp 42) (ats := #[3, 3]) (q := .i64) (m := e1 + 5) (n := (s.r.hard.log.length : Int)) (if (s.r.hard.log.length : Int) < (e1 + 5) then (s.r.hard.log.length : Int) else e1 + 5) (by kernel_rfl) (by kernel_rfl) (by kernel_rfl) (by kernel_rfl) (.inl ⟨rfl, rfl⟩) ?_
 refine At.say 43 (.int .i64 (if (s.r.hard.log.length : Int) < (e1 + 5) then (s.r.hard.log.length : Int) else e1 + 5)) (.int .i64 (min (e1 + 5) (s.r.hard.log.length : Int))) (by kernel_rfl) (congrArg (V.int .i64) (by omega)) ?_
 refine At.sliceRef (t := 24) (d := 44) (e := 45) (es := 6) (i := 1) (x := .tmp 35) (lx := some (.tmp 37)) (hx := some (.tmp 43)) (xs := (s.r.hard.log.map encEnt)) (vl := .int .i64 (e1 - 1)) (vh := .int .i64 (min (e1 + 5) (s.r.hard.log.length : Int))) ((e1 - 1).toNat) ((min (e1 + 5) (s.r.hard.log.length : Int)).toNat) (by kernel_rfl) (by kernel_rfl) (by kernel_rfl) (by kernel_rfl) (by kernel_rfl) (.inr ⟨_, _, rfl, sayNat (by omega)⟩) (.inr ⟨_, _, rfl, sayNat (by omega)⟩) (by omega) (by simp only [List.length_map]; omega) ?_
 refine At.call (impl_copyLog_spec  ((s.r.hard.log.drop ((e1 - 1).toNat)).take (((min (e1 + 5) (s.r.hard.log.length : Int)).toNat) - ((e1 - 1).toNat))) (by simp only [List.length_map, List.length_append, List.length_take, List.length_drop, List.length_replicate, List.length_set, List.length_cons, List.length_nil]; omega)) Tryz.call162 false [] [(1900, 0)] [(1, 6, (s.r.hard.log.map encEnt))] (by kernel_rfl) (by kernel_rfl) (Eq.trans (b := [.sl false 6 (((s.r.hard.log.map encEnt).drop ((e1 - 1).toNat)).take (((min (e1 + 5) (s.r.hard.log.length : Int)).toNat) - ((e1 - 1).toNat)))]) (by kernel_rfl) (by simp only [List.map_take, List.map_drop])) (by kernel_rfl) (by kernel_rfl) ⟨rfl, ⟨45, (s.r.hard.log.map encEnt), by kernel_rfl, FrzIs.same (allP_encEnt _)⟩, trivial⟩ ?_
 refine At.z 2 ?_
 refine AW.gD Tryz_mix ?_
 refine At.a 8 ?_
 refine At.lk 55 51 17 155 (45, 6) [1900] (([(⟨i, ⟨3, s.r.id, s.r.hard.term, e1 - 1, termAt s.r.hard.log (e1 - 1), s.r.commit, false, 0, 0, ⟨#[]⟩, ⟨0, 0, 0, 0, ⟨#[]⟩⟩, ((s.r.hard.log.drop ((e1 - 1).toNat)).take (((min (e1 + 5) (s.r.hard.log.length : Int)).toNat) - ((e1 - 1).toNat)))⟩⟩ : Out)]).map encOut) [(45, 6, (((s.r.hard.log.drop ((e1 - 1).toNat)).take (((min (e1 + 5) (s.r.hard.log.length : Int)).toNat) - ((e1 - 1).toNat))).map encEnt))] (by intro p hp; simp only [List.mem_cons, List.not_mem_nil, or_false] at hp; subst hp; all_goals first | exact flatEnts | exact flatInts | (intro x hx; cases hx)) ?_
 refine At.apK 56 51 17 168 156 6 155 encOut s.outs ([(⟨i, ⟨3, s.r.id, s.r.hard.term, e1 - 1, termAt s.r.hard.log (e1 - 1), s.r.commit, false, 0, 0, ⟨#[]⟩, ⟨0, 0, 0, 0, ⟨#[]⟩⟩, ((s.r.hard.log.drop ((e1 - 1).toNat)).take (((min (e1 + 5) (s.r.hard.log.length : Int)).toNat) - ((e1 - 1).toNat)))⟩⟩ : Out)]) (by simp only [List.length_map, List.length_append, List.length_take, List.length_drop, List.length_replicate, List.length_set, List.length_cons, List.length_nil]; omega) ?_
 refine At.zD 3 ?_
 refine ⟨_, Sub.refl _ _, ?_⟩
 refine KF.conv (fun w => .tup []) (fun w => [.box 102 [.int .i64 w.r.id, .int .i64 w.r.of_, .int .i64 w.r.role, .int .i64 w.r.commit, .int .i64 w.r.hard.term, .int .i64 w.r.hard.vote, .ref 1, .ref 2, .ref 3, .ref 4, .int .i64 w.was.id, .int .i64 w.was.of_, .int .i64 w.was.role, .int .i64 w.was.commit, .int .i64 w.was.hard.term, .int .i64 w.was.hard.vote, .sl false 6 (w.was.hard.log.map encEnt), .sl false 1 (w.was.yes.map encI), .sl false 1 (w.was.next.map encI), .sl false 1 (w.was.match_.map encI), .ref 5, .ref 7], .arr 45 6 (w.r.hard.log.map encEnt), .arr 3 1 (w.r.yes.map encI), .arr 3 1 (w.r.next.map encI), .arr 3 1 (w.r.match_.map encI), .arr 47 10 (w.recs.map encRec), .dead, .arr 51 17 (w.outs.map encOut)]) (show ((⟨s.r, s.was, s.recs, s.outs ++ ([(⟨i, ⟨3, s.r.id, s.r.hard.term, e1 - 1, termAt s.r.hard.log (e1 - 1), s.r.commit, false, 0, 0, ⟨#[]⟩, ⟨0, 0, 0, 0, ⟨#[]⟩⟩, ((s.r.hard.log.drop ((e1 - 1).toNat)).take (((min (e1 + 5) (s.r.hard.log.length : Int)).toNat) - ((e1 - 1).toNat)))⟩⟩ : Out)])⟩ : Stepper)) = (({ s with outs := s.outs ++ [sendOf s.r i] } : Stepper)) from by simp only [sendOf, nextOf, he1, Option.getD_some]; rw [takeMin _ _ 6 _ (by omega)]; rfl) ?_
 exact KF.n [(0, 0), (1, 1), (2, 2), (3, 3), (4, 4), (5, 5), (6, 6), (156, 7)]
theorem impl_stepper_sendAll_spec  (s : Stepper) (hz : SmallR s.r) (hf : 0 ≤ s.r.of_ ∧ s.r.of_ ≤ 5) (hx : s.r.of_ ≤ s.r.next.length) (hn : NextOk s.r) (ho : s.outs.length ≤ 1000) : FnSpec Tryz.prog 81 [.ptr 0 0 0] [.box 102 [.int .i64 s.r.id, .int .i64 s.r.of_, .int .i64 s.r.role, .int .i64 s.r.commit, .int .i64 s.r.hard.term, .int .i64 s.r.hard.vote, .ref 1, .ref 2, .ref 3, .ref 4, .int .i64 s.was.id, .int .i64 s.was.of_, .int .i64 s.was.role, .int .i64 s.was.commit, .int .i64 s.was.hard.term, .int .i64 s.was.hard.vote, .sl false 6 (s.was.hard.log.map encEnt), .sl false 1 (s.was.yes.map encI), .sl false 1 (s.was.next.map encI), .sl false 1 (s.was.match_.map encI), .ref 5, .ref 6], .arr 45 6 (s.r.hard.log.map encEnt), .arr 3 1 (s.r.yes.map encI), .arr 3 1 (s.r.next.map encI), .arr 3 1 (s.r.match_.map encI), .arr 47 10 (s.recs.map encRec), .arr 51 17 (s.outs.map encOut)] (.tup []) [.box 102 [.int .i64 s.r.id, .int .i64 s.r.of_, .int .i64 s.r.role, .int .i64 s.r.commit, .int .i64 s.r.hard.term, .int .i64 s.r.hard.vote, .ref 1, .ref 2, .ref 3, .ref 4, .int .i64 s.was.id, .int .i64 s.was.of_, .int .i64 s.was.role, .int .i64 s.was.commit, .int .i64 s.was.hard.term, .int .i64 s.was.hard.vote, .sl false 6 (s.was.hard.log.map encEnt), .sl false 1 (s.was.yes.map encI), .sl false 1 (s.was.next.map encI), .sl false 1 (s.was.match_.map encI), .ref 5, .ref 7], .arr 45 6 (s.r.hard.log.map encEnt), .arr 3 1 (s.r.yes.map encI), .arr 3 1 (s.r.next.map encI), .arr 3 1 (s.r.match_.map encI), .arr 47 10 (s.recs.map encRec), .dead, .arr 51 17 ((s.outs ++ sendAll s.r).map encOut)] := by
 obtain ⟨z1, z2, z3, z4⟩ := id hz
 refine FnSpec.of 22 Tryz.func81 rfl Tryz.ntmps81 (by simp) (AW.weakK ?_)
 refine AW.q 6 ?_
 refine AW.block ?_
 refine AW.weak (Sub.mv 6 7000 (by kernel_rfl) (by decide)) ?_
 refine AW.loopW (fun (x : Nat × List Out) => match x with | (k, o) => Go.Sy.mk [.ptr 0 0 0, .un, .un, .un, .un, .un, .un, .int .i64 s.r.of_, .int .i64 (k : Int)] [(0, .box 102 [.int .i64 s.r.id, .int .i64 s.r.of_, .int .i64 s.r.role, .int .i64 s.r.commit, .int .i64 s.r.hard.term, .int .i64 s.r.hard.vote, .ref 1, .ref 2, .ref 3, .ref 4, .int .i64 s.was.id, .int .i64 s.was.of_, .int .i64 s.was.role, .int .i64 s.was.commit, .int .i64 s.was.hard.term, .int .i64 s.was.hard.vote, .sl false 6 (s.was.hard.log.map encEnt), .sl false 1 (s.was.yes.map encI), .sl false 1 (s.was.next.map encI), .sl false 1 (s.was.match_.map encI), .ref 5, .ref 7000]), (1, .arr 45 6 (s.r.hard.log.map encEnt)), (2, .arr 3 1 (s.r.yes.map encI)), (3, .arr 3 1 (s.r.next.map encI)), (4, .arr 3 1 (s.r.match_.map encI)), (5, .arr 47 10 (s.recs.map encRec)), (6, .dead), (7000, .arr 51 17 (o.map encOut))]) (fun (x : Nat × List Out) => match x with | (k, o) => (k : Int) ≤ s.r.of_ ∧ o = s.outs ++ sendUp s.r k) (fun (x : Nat × List Out) => match x with | (k, o) => s.r.of_.toNat - k) (0, s.outs) ⟨by omega, by simp [sendUp]⟩ (Sub.o [(0, 0), (1, 1), (2, 2), (3, 3), (4, 4), (5, 5), (6, 6), (7000, 7000)] [true, false, false, false, false, false, false, true, true]) ?_
 rintro ⟨k, o⟩ ⟨hk, hR⟩
 have hlen := sendUp_len s.r k
 have hlen2 := congrArg List.length hR
 try rw [List.length_append] at hlen2
 refine AW.q 1 ?_
 refine AW.seq ?_
 refine AW.cD ((k : Int) < s.r.of_) (fun h1 => ?_) (fun h1 => ?_)
 · refine AW.skip ?_
   refine AW.seq ?_
   refine AW.block ?_
   refine AW.q 2 ?_
   refine AW.q 7 ?_
   refine AW.cU (k : Int) s.r.id (fun h2 => ?_) (fun h2 => ?_)
   · refine AW.g ?_
     refine At.a 2 ?_
     refine At.c (impl_stepper_send_spec  (⟨s.r, s.was, s.recs, o⟩ : Stepper) (k : Int) hz (by dsimp only; omega) hn (by dsimp only; omega)) Tryz.call106 true [(0, 0), (1, 1), (2, 2), (3, 3), (4, 4), (5, 5), (7000, 6)] [(1400, 7)] [] trivial ?_
     refine At.done rfl ?_
     refine AW.g ?_
     refine At.a 1 ?_
     refine At.sI 21 ((k : Int) + 1) (by omega) ?_
     refine At.z 1 ?_
     exact ⟨(k + 1, (o ++ [sendOf s.r (k : Int)])), ⟨by omega, by rw [hR, sendUp, if_neg (by grind)]; (try rw [termAt_end]); first | rfl | exact List.append_assoc _ _ _⟩, (by simp only; omega), Sub.o [(0, 0), (1, 1), (2, 2), (3, 3), (4, 4), (5, 5), (6, 6), (1400, 7000)] [true, false, false, false, false, false, false, true, true]⟩
   refine AW.skip ?_
   refine AW.g ?_
   refine At.a 1 ?_
   refine At.sI 21 ((k : Int) + 1) (by omega) ?_
   refine At.z 1 ?_
   exact ⟨(k + 1, o), ⟨by omega, by rw [hR, sendUp, if_pos (by grind)]; simp⟩, (by simp only; omega), Sub.o [(0, 0), (1, 1), (2, 2), (3, 3), (4, 4), (5, 5), (6, 6), (7000, 7000)] [true, false, false, false, false, false, false, true, true]⟩
 refine AW.exit ?_
 refine ⟨_, Sub.refl _ _, ?_⟩
 refine KF.conv (fun w => .tup []) (fun w => [.box 102 [.int .i64 w.r.id, .int .i64 w.r.of_, .int .i64 w.r.role, .int .i64 w.r.commit, .int .i64 w.r.hard.term, .int .i64 w.r.hard.vote, .ref 1, .ref 2, .ref 3, .ref 4, .int .i64 w.was.id, .int .i64 w.was.of_, .int .i64 w.was.role, .int .i64 w.was.commit, .int .i64 w.was.hard.term, .int .i64 w.was.hard.vote, .sl false 6 (w.was.hard.log.map encEnt), .sl false 1 (w.was.yes.map encI), .sl false 1 (w.was.next.map encI), .sl false 1 (w.was.match_.map encI), .ref 5, .ref 7], .arr 45 6 (w.r.hard.log.map encEnt), .arr 3 1 (w.r.yes.map encI), .arr 3 1 (w.r.next.map encI), .arr 3 1 (w.r.match_.map encI), .arr 47 10 (w.recs.map encRec), .dead, .arr 51 17 (w.outs.map encOut)]) (show ((⟨s.r, s.was, s.recs, o⟩ : Stepper)) = (({ s with outs := s.outs ++ sendAll s.r } : Stepper)) from by rw [hR, sendAll, show s.r.of_.toNat = k from by omega]) ?_
 exact KF.n [(0, 0), (1, 1), (2, 2), (3, 3), (4, 4), (5, 5), (6, 6), (7000, 7)]
theorem impl_stepper_lead_T_spec  (s : Stepper) (hz : SmallR s.r) (hf : 0 ≤ s.r.of_ ∧ s.r.of_ ≤ 5) (hi : 0 ≤ s.r.id ∧ s.r.id < s.r.of_) (ho : s.outs.length ≤ 1000) (hr : s.recs.length ≤ 1000) (hlt : s.r.hard.log.length < 80) : FnSpec Tryz.prog 96 [.ptr 0 0 0] [.box 102 [.int .i64 s.r.id, .int .i64 s.r.of_, .int .i64 s.r.role, .int .i64 s.r.commit, .int .i64 s.r.hard.term, .int .i64 s.r.hard.vote, .ref 1, .ref 2, .ref 3, .ref 4, .int .i64 s.was.id, .int .i64 s.was.of_, .int .i64 s.was.role, .int .i64 s.was.commit, .int .i64 s.was.hard.term, .int .i64 s.was.hard.vote, .sl false 6 (s.was.hard.log.map encEnt), .sl false 1 (s.was.yes.map encI), .sl false 1 (s.was.next.map encI), .sl false 1 (s.was.match_.map encI), .ref 5, .ref 6], .arr 45 6 (s.r.hard.log.map encEnt), .arr 3 1 (s.r.yes.map encI), .arr 3 1 (s.r.next.map encI), .arr 3 1 (s.r.match_.map encI), .arr 47 10 (s.recs.map encRec), .arr 51 17 (s.outs.map encOut)] (.tup []) [.box 102 [.int .i64 ((leadR s.r).id), .int .i64 ((leadR s.r).of_), .int .i64 ((leadR s.r).role), .int .i64 ((leadR s.r).commit), .int .i64 ((leadR s.r).hard.term), .int .i64 ((leadR s.r).hard.vote), .ref 7, .ref 8, .ref 9, .ref 10, .int .i64 s.was.id, .int .i64 s.was.of_, .int .i64 s.was.role, .int .i64 s.was.commit, .int .i64 s.was.hard.term, .int .i64 s.was.hard.vote, .sl false 6 (s.was.hard.log.map encEnt), .sl false 1 (s.was.yes.map encI), .sl false 1 (s.was.next.map encI), .sl false 1 (s.was.match_.map encI), .ref 11, .ref 12], .dead, .dead, .dead, .dead, .dead, .dead, .arr 45 6 (((leadR s.r).hard.log).map encEnt), .arr 3 1 (((leadR s.r).yes).map encI), .arr 3 1 (((leadR s.r).next).map encI), .arr 3 1 (((leadR s.r).match_).map encI), .arr 47 10 ((s.recs ++ leadRecs s.r).map encRec), .arr 51 17 ((s.outs ++ sendAll (leadR s.r)).map encOut)] := by
 obtain ⟨z1, z2, z3, z4⟩ := id hz
 refine FnSpec.of 57 Tryz.func96 rfl Tryz.ntmps96 (by simp) (AW.weakK ?_)
 refine AW.r ?_
 refine At.a 7 ?_
 refine At.sL 9 encEnt s.r.hard.log ?_
 refine At.z 1 ?_
 refine AW.q 10 ?_
 refine AW.seq ?_
 refine AW.weak (Sub.nils [⟨true, 0, some 7, 5001, 3, 1⟩] (by kernel_rfl)) ?_
 refine AW.gD Tryz_mix ?_
 refine At.a 4 ?_
 refine At.sI 21 ((s.r.hard.log.length : Int) + 1) (by omega) ?_
 refine At.ll 22 3 1 122 (45, 6) (([(s.r.hard.log.length : Int) + 1]).map encI) ?_
 refine At.a 5 ?_
 refine At.c (slices_Repeat_spec  ([(s.r.hard.log.length : Int) + 1]) s.r.of_ rfl (by omega)) Tryz.call159 false [] [(1560, 0)] [(122, 1, (([(s.r.hard.log.length : Int) + 1]).map encI))] ⟨rfl, ⟨3, (([(s.r.hard.log.length : Int) + 1]).map encI), by kernel_rfl, FrzIs.same (allP_encI _)⟩, trivial⟩ ?_
 refine At.a 5 ?_
 refine At.say 33 (.int .i64 s.r.of_) (.int .i64 (((s.r.of_).toNat : Nat) : Int)) (by kernel_rfl) (congrArg (V.int .i64) (Int.toNat_of_nonneg (by omega)).symm) ?_
 refine At.make (t := 27) (d := 34) (e := 3) (es := 1) (bytes := 8) (x := .tmp 33) (y := .tmp 33) (ka := .i64) (kb := .i64) (zs := [.int .i64 0]) 134 ((s.r.of_).toNat) ((List.replicate ((s.r.of_).toNat) 0).map encI) (by kernel_rfl) (by kernel_rfl) (by kernel_rfl) (by kernel_rfl) (by kernel_rfl) (by omega) (by omega) (by rw [List.map_replicate]; rfl) ?_
 refine At.zD 8 ?_
 refine AW.seq ?_
 refine AW.q 2 ?_
 refine AW.condT (decide ((s.r.hard.log.length : Int) < 80)) (by kernel_rfl) (decide_eq_true (by omega)) ?_
 refine AW.g ?_
 refine At.a 9 ?_
 refine At.c (impl_stepper_put_spec  (⟨⟨s.r.id, s.r.of_, 3, s.r.commit, ⟨s.r.hard.term, s.r.hard.vote, s.r.hard.log⟩, [], repl ([(s.r.hard.log.length : Int) + 1]) s.r.of_, List.replicate ((s.r.of_).toNat) 0⟩, s.was, s.recs, s.outs⟩ : Stepper) (⟨s.r.hard.term, ⟨1, 0, 0, 0, (⟨#[]⟩ : ByteArray)⟩⟩ : Ent) (by dsimp only; omega) (by dsimp only; omega)) Tryz.call102 true [(0, 0), (1, 1), (5001, 2), (1560, 3), (134, 4), (5, 5), (6, 6)] [(2040, 7), (2041, 8)] [] trivial ?_
 refine At.done rfl ?_
 refine AW.r ?_
 refine At.a 1 ?_
 refine At.c (impl_stepper_had_spec  (⟨⟨s.r.id, s.r.of_, 3, s.r.commit, ⟨s.r.hard.term, s.r.hard.vote, s.r.hard.log ++ [(⟨s.r.hard.term, ⟨1, 0, 0, 0, (⟨#[]⟩ : ByteArray)⟩⟩ : Ent)]⟩, [], repl ([(s.r.hard.log.length : Int) + 1]) s.r.of_, List.replicate ((s.r.of_).toNat) 0⟩, s.was, s.recs ++ [(⟨2, 0, 0, ((s.r.hard.log ++ [(⟨s.r.hard.term, ⟨1, 0, 0, 0, (⟨#[]⟩ : ByteArray)⟩⟩ : Ent)]).length : Int), (⟨s.r.hard.term, ⟨1, 0, 0, 0, (⟨#[]⟩ : ByteArray)⟩⟩ : Ent)⟩ : Rec)], s.outs⟩ : Stepper) (by dsimp only; simp only [List.length_replicate]; omega)) Tryz.call103 true [(0, 0), (2040, 1), (5001, 2), (1560, 3), (134, 4), (2041, 5), (6, 6)] [] [] trivial ?_
 refine At.done rfl ?_
 refine AW.g ?_
 refine At.a 1 ?_
 refine At.c (impl_stepper_sendAll_spec  (⟨⟨s.r.id, s.r.of_, 3, if s.r.of_ = 1 then ((s.r.hard.log ++ [(⟨s.r.hard.term, ⟨1, 0, 0, 0, (⟨#[]⟩ : ByteArray)⟩⟩ : Ent)]).length : Int) else s.r.commit, ⟨s.r.hard.term, s.r.hard.vote, s.r.hard.log ++ [(⟨s.r.hard.term, ⟨1, 0, 0, 0, (⟨#[]⟩ : ByteArray)⟩⟩ : Ent)]⟩, [], repl ([(s.r.hard.log.length : Int) + 1]) s.r.of_, (List.replicate ((s.r.of_).toNat) 0).set (s.r.id).toNat ((s.r.hard.log ++ [(⟨s.r.hard.term, ⟨1, 0, 0, 0, (⟨#[]⟩ : ByteArray)⟩⟩ : Ent)]).length : Int)⟩, s.was, s.recs ++ [(⟨2, 0, 0, ((s.r.hard.log ++ [(⟨s.r.hard.term, ⟨1, 0, 0, 0, (⟨#[]⟩ : ByteArray)⟩⟩ : Ent)]).length : Int), (⟨s.r.hard.term, ⟨1, 0, 0, 0, (⟨#[]⟩ : ByteArray)⟩⟩ : Ent)⟩ : Rec)], s.outs⟩ : Stepper) (by unfold SmallR; simp only [repl, List.length_append, List.length_set, List.length_replicate, List.length_cons, List.length_nil]; omega) (by dsimp only; omega) (by dsimp only; simp only [repl, List.length_replicate]; omega) (nextOk_repl rfl ⟨by omega, by dsimp only; (try simp only [List.length_append]); omega⟩) (by omega)) Tryz.call81 true [(0, 0), (2040, 1), (5001, 2), (1560, 3), (134, 4), (2041, 5), (6, 6)] [(2120, 7)] [] trivial ?_
 refine At.done rfl ?_
 refine ⟨_, (Sub.trans (Sub.trans (Sub.trans (Sub.refl _ _) (Sub.mv 2 8002 (by kernel_rfl) (by decide))) (Sub.mv 3 8003 (by kernel_rfl) (by decide))) (Sub.mv 4 8004 (by kernel_rfl) (by decide))), ?_⟩
 refine KF.conv (fun w => .tup []) (fun w => [.box 102 [.int .i64 w.r.id, .int .i64 w.r.of_, .int .i64 w.r.role, .int .i64 w.r.commit, .int .i64 w.r.hard.term, .int .i64 w.r.hard.vote, .ref 7, .ref 8, .ref 9, .ref 10, .int .i64 w.was.id, .int .i64 w.was.of_, .int .i64 w.was.role, .int .i64 w.was.commit, .int .i64 w.was.hard.term, .int .i64 w.was.hard.vote, .sl false 6 (w.was.hard.log.map encEnt), .sl false 1 (w.was.yes.map encI), .sl false 1 (w.was.next.map encI), .sl false 1 (w.was.match_.map encI), .ref 11, .ref 12], .dead, .dead, .dead, .dead, .dead, .dead, .arr 45 6 (w.r.hard.log.map encEnt), .arr 3 1 (w.r.yes.map encI), .arr 3 1 (w.r.next.map encI), .arr 3 1 (w.r.match_.map encI), .arr 47 10 (w.recs.map encRec), .arr 51 17 (w.outs.map encOut)]) (show ((⟨⟨s.r.id, s.r.of_, 3, if s.r.of_ = 1 then ((s.r.hard.log ++ [(⟨s.r.hard.term, ⟨1, 0, 0, 0, (⟨#[]⟩ : ByteArray)⟩⟩ : Ent)]).length : Int) else s.r.commit, ⟨s.r.hard.term, s.r.hard.vote, s.r.hard.log ++ [(⟨s.r.hard.term, ⟨1, 0, 0, 0, (⟨#[]⟩ : ByteArray)⟩⟩ : Ent)]⟩, [], repl ([(s.r.hard.log.length : Int) + 1]) s.r.of_, (List.replicate ((s.r.of_).toNat) 0).set (s.r.id).toNat ((s.r.hard.log ++ [(⟨s.r.hard.term, ⟨1, 0, 0, 0, (⟨#[]⟩ : ByteArray)⟩⟩ : Ent)]).length : Int)⟩, s.was, s.recs ++ [(⟨2, 0, 0, ((s.r.hard.log ++ [(⟨s.r.hard.term, ⟨1, 0, 0, 0, (⟨#[]⟩ : ByteArray)⟩⟩ : Ent)]).length : Int), (⟨s.r.hard.term, ⟨1, 0, 0, 0, (⟨#[]⟩ : ByteArray)⟩⟩ : Ent)⟩ : Rec)], s.outs ++ sendAll (⟨s.r.id, s.r.of_, 3, if s.r.of_ = 1 then ((s.r.hard.log ++ [(⟨s.r.hard.term, ⟨1, 0, 0, 0, (⟨#[]⟩ : ByteArray)⟩⟩ : Ent)]).length : Int) else s.r.commit, ⟨s.r.hard.term, s.r.hard.vote, s.r.hard.log ++ [(⟨s.r.hard.term, ⟨1, 0, 0, 0, (⟨#[]⟩ : ByteArray)⟩⟩ : Ent)]⟩, [], repl ([(s.r.hard.log.length : Int) + 1]) s.r.of_, (List.replicate ((s.r.of_).toNat) 0).set (s.r.id).toNat ((s.r.hard.log ++ [(⟨s.r.hard.term, ⟨1, 0, 0, 0, (⟨#[]⟩ : ByteArray)⟩⟩ : Ent)]).length : Int)⟩)⟩ : Stepper)) = (({ s with r := leadR s.r, recs := s.recs ++ leadRecs s.r, outs := s.outs ++ sendAll (leadR s.r) } : Stepper)) from by simp [leadR, leadRecs, had, put, lead0, noneE, putRec, repl, hlt, and_true] <;> first | rfl | exact ⟨rfl, rfl⟩) ?_
 exact KF.n [(0, 0), (1, 1), (2, 2), (3, 3), (4, 4), (5, 5), (6, 6), (2040, 7), (5001, 8), (1560, 9), (134, 10), (2041, 11), (2120, 12)]
theorem impl_stepper_lead_F_spec  (s : Stepper) (hz : SmallR s.r) (hf : 0 ≤ s.r.of_ ∧ s.r.of_ ≤ 5) (hi : 0 ≤ s.r.id ∧ s.r.id < s.r.of_) (ho : s.outs.length ≤ 1000) (hr : s.recs.length ≤ 1000) (hlt : ¬ s.r.hard.log.length < 80) : FnSpec Tryz.prog 96 [.ptr 0 0 0] [.box 102 [.int .i64 s.r.id, .int .i64 s.r.of_, .int .i64 s.r.role, .int .i64 s.r.commit, .int .i64 s.r.hard.term, .int .i64 s.r.hard.vote, .ref 1, .ref 2, .ref 3, .ref 4, .int .i64 s.was.id, .int .i64 s.was.of_, .int .i64 s.was.role, .int .i64 s.was.commit, .int .i64 s.was.hard.term, .int .i64 s.was.hard.vote, .sl false 6 (s.was.hard.log.map encEnt), .sl false 1 (s.was.yes.map encI), .sl false 1 (s.was.next.map encI), .sl false 1 (s.was.match_.map encI), .ref 5, .ref 6], .arr 45 6 (s.r.hard.log.map encEnt), .arr 3 1 (s.r.yes.map encI), .arr 3 1 (s.r.next.map encI), .arr 3 1 (s.r.match_.map encI), .arr 47 10 (s.recs.map encRec), .arr 51 17 (s.outs.map encOut)] (.tup []) [.box 102 [.int .i64 ((leadR s.r).id), .int .i64 ((leadR s.r).of_), .int .i64 ((leadR s.r).role), .int .i64 ((leadR s.r).commit), .int .i64 ((leadR s.r).hard.term), .int .i64 ((leadR s.r).hard.vote), .ref 1, .ref 7, .ref 8, .ref 9, .int .i64 s.was.id, .int .i64 s.was.of_, .int .i64 s.was.role, .int .i64 s.was.commit, .int .i64 s.was.hard.term, .int .i64 s.was.hard.vote, .sl false 6 (s.was.hard.log.map encEnt), .sl false 1 (s.was.yes.map encI), .sl false 1 (s.was.next.map encI), .sl false 1 (s.was.match_.map encI), .ref 5, .ref 10], .arr 45 6 (((leadR s.r).hard.log).map encEnt), .dead, .dead, .dead, .arr 47 10 ((s.recs ++ leadRecs s.r).map encRec), .dead, .arr 3 1 (((leadR s.r).yes).map encI), .arr 3 1 (((leadR s.r).next).map encI), .arr 3 1 (((leadR s.r).match_).map encI), .arr 51 17 ((s.outs ++ sendAll (leadR s.r)).map encOut)] := by
 obtain ⟨z1, z2, z3, z4⟩ := id hz
 refine FnSpec.of 57 Tryz.func96 rfl Tryz.ntmps96 (by simp) (AW.weakK ?_)
 refine AW.r ?_
 refine At.a 7 ?_
 refine At.sL 9 encEnt s.r.hard.log ?_
 refine At.z 1 ?_
 refine AW.q 10 ?_
 refine AW.seq ?_
 refine AW.weak (Sub.nils [⟨true, 0, some 7, 5001, 3, 1⟩] (by kernel_rfl)) ?_
 refine AW.gD Tryz_mix ?_
 refine At.a 4 ?_
 refine At.sI 21 ((s.r.hard.log.length : Int) + 1) (by omega) ?_
 refine At.ll 22 3 1 122 (45, 6) (([(s.r.hard.log.length : Int) + 1]).map encI) ?_
 refine At.a 5 ?_
 refine At.c (slices_Repeat_spec  ([(s.r.hard.log.length : Int) + 1]) s.r.of_ rfl (by omega)) Tryz.call159 false [] [(1560, 0)] [(122, 1, (([(s.r.hard.log.length : Int) + 1]).map encI))] ⟨rfl, ⟨3, (([(s.r.hard.log.length : Int) + 1]).map encI), by kernel_rfl, FrzIs.same (allP_encI _)⟩, trivial⟩ ?_
 refine At.a 5 ?_
 refine At.say 33 (.int .i64 s.r.of_) (.int .i64 (((s.r.of_).toNat : Nat) : Int)) (by kernel_rfl) (congrArg (V.int .i64) (Int.toNat_of_nonneg (by omega)).symm) ?_
 refine At.make (t := 27) (d := 34) (e := 3) (es := 1) (bytes := 8) (x := .tmp 33) (y := .tmp 33) (ka := .i64) (kb := .i64) (zs := [.int .i64 0]) 134 ((s.r.of_).toNat) ((List.replicate ((s.r.of_).toNat) 0).map encI) (by kernel_rfl) (by kernel_rfl) (by kernel_rfl) (by kernel_rfl) (by kernel_rfl) (by omega) (by omega) (by rw [List.map_replicate]; rfl) ?_
 refine At.zD 8 ?_
 refine AW.seq ?_
 refine AW.q 2 ?_
 refine AW.condF (decide ((s.r.hard.log.length : Int) < 80)) (by kernel_rfl) (decide_eq_false (by omega)) ?_
 refine AW.skip ?_
 refine AW.r ?_
 refine At.a 1 ?_
 refine At.c (impl_stepper_had_spec  (⟨⟨s.r.id, s.r.of_, 3, s.r.commit, ⟨s.r.hard.term, s.r.hard.vote, s.r.hard.log⟩, [], repl ([(s.r.hard.log.length : Int) + 1]) s.r.of_, List.replicate ((s.r.of_).toNat) 0⟩, s.was, s.recs, s.outs⟩ : Stepper) (by dsimp only; simp only [List.length_replicate]; omega)) Tryz.call103 true [(0, 0), (1, 1), (5001, 2), (1560, 3), (134, 4), (5, 5), (6, 6)] [] [] trivial ?_
 refine At.done rfl ?_
 refine AW.g ?_
 refine At.a 1 ?_
 refine At.c (impl_stepper_sendAll_spec  (⟨⟨s.r.id, s.r.of_, 3, if s.r.of_ = 1 then (s.r.hard.log.length : Int) else s.r.commit, ⟨s.r.hard.term, s.r.hard.vote, s.r.hard.log⟩, [], repl ([(s.r.hard.log.length : Int) + 1]) s.r.of_, (List.replicate ((s.r.of_).toNat) 0).set (s.r.id).toNat (s.r.hard.log.length : Int)⟩, s.was, s.recs, s.outs⟩ : Stepper) (by unfold SmallR; simp only [repl, List.length_append, List.length_set, List.length_replicate, List.length_cons, List.length_nil]; omega) (by dsimp only; omega) (by dsimp only; simp only [repl, List.length_replicate]; omega) (nextOk_repl rfl ⟨by omega, by dsimp only; (try simp only [List.length_append]); omega⟩) (by omega)) Tryz.call81 true [(0, 0), (1, 1), (5001, 2), (1560, 3), (134, 4), (5, 5), (6, 6)] [(2120, 7)] [] trivial ?_
 refine At.done rfl ?_
 refine ⟨_, (Sub.trans (Sub.trans (Sub.trans (Sub.refl _ _) (Sub.mv 2 8002 (by kernel_rfl) (by decide))) (Sub.mv 3 8003 (by kernel_rfl) (by decide))) (Sub.mv 4 8004 (by kernel_rfl) (by decide))), ?_⟩
 refine KF.conv (fun w => .tup []) (fun w => [.box 102 [.int .i64 w.r.id, .int .i64 w.r.of_, .int .i64 w.r.role, .int .i64 w.r.commit, .int .i64 w.r.hard.term, .int .i64 w.r.hard.vote, .ref 1, .ref 7, .ref 8, .ref 9, .int .i64 w.was.id, .int .i64 w.was.of_, .int .i64 w.was.role, .int .i64 w.was.commit, .int .i64 w.was.hard.term, .int .i64 w.was.hard.vote, .sl false 6 (w.was.hard.log.map encEnt), .sl false 1 (w.was.yes.map encI), .sl false 1 (w.was.next.map encI), .sl false 1 (w.was.match_.map encI), .ref 5, .ref 10], .arr 45 6 (w.r.hard.log.map encEnt), .dead, .dead, .dead, .arr 47 10 (w.recs.map encRec), .dead, .arr 3 1 (w.r.yes.map encI), .arr 3 1 (w.r.next.map encI), .arr 3 1 (w.r.match_.map encI), .arr 51 17 (w.outs.map encOut)]) (show ((⟨⟨s.r.id, s.r.of_, 3, if s.r.of_ = 1 then (s.r.hard.log.length : Int) else s.r.commit, ⟨s.r.hard.term, s.r.hard.vote, s.r.hard.log⟩, [], repl ([(s.r.hard.log.length : Int) + 1]) s.r.of_, (List.replicate ((s.r.of_).toNat) 0).set (s.r.id).toNat (s.r.hard.log.length : Int)⟩, s.was, s.recs, s.outs ++ sendAll (⟨s.r.id, s.r.of_, 3, if s.r.of_ = 1 then (s.r.hard.log.length : Int) else s.r.commit, ⟨s.r.hard.term, s.r.hard.vote, s.r.hard.log⟩, [], repl ([(s.r.hard.log.length : Int) + 1]) s.r.of_, (List.replicate ((s.r.of_).toNat) 0).set (s.r.id).toNat (s.r.hard.log.length : Int)⟩)⟩ : Stepper)) = (({ s with r := leadR s.r, recs := s.recs ++ leadRecs s.r, outs := s.outs ++ sendAll (leadR s.r) } : Stepper)) from by simp [leadR, leadRecs, had, put, lead0, noneE, putRec, repl, hlt, and_true] <;> first | rfl | exact ⟨rfl, rfl⟩) ?_
 exact KF.n [(0, 0), (1, 1), (2, 2), (3, 3), (4, 4), (5, 5), (6, 6), (5001, 7), (1560, 8), (134, 9), (2120, 10)]
theorem impl_stepper_ask_spec  (s : Stepper) (hz : SmallR s.r) (hf : 0 ≤ s.r.of_ ∧ s.r.of_ ≤ 5) (ho : s.outs.length ≤ 1000) : FnSpec Tryz.prog 82 [.ptr 0 0 0] [.box 102 [.int .i64 s.r.id, .int .i64 s.r.of_, .int .i64 s.r.role, .int .i64 s.r.commit, .int .i64 s.r.hard.term, .int .i64 s.r.hard.vote, .ref 1, .ref 2, .ref 3, .ref 4, .int .i64 s.was.id, .int .i64 s.was.of_, .int .i64 s.was.role, .int .i64 s.was.commit, .int .i64 s.was.hard.term, .int .i64 s.was.hard.vote, .sl false 6 (s.was.hard.log.map encEnt), .sl false 1 (s.was.yes.map encI), .sl false 1 (s.was.next.map encI), .sl false 1 (s.was.match_.map encI), .ref 5, .ref 6], .arr 45 6 (s.r.hard.log.map encEnt), .arr 3 1 (s.r.yes.map encI), .arr 3 1 (s.r.next.map encI), .arr 3 1 (s.r.match_.map encI), .arr 47 10 (s.recs.map encRec), .arr 51 17 (s.outs.map encOut)] (.tup []) [.box 102 [.int .i64 s.r.id, .int .i64 s.r.of_, .int .i64 s.r.role, .int .i64 s.r.commit, .int .i64 s.r.hard.term, .int .i64 s.r.hard.vote, .ref 1, .ref 2, .ref 3, .ref 4, .int .i64 s.was.id, .int .i64 s.was.of_, .int .i64 s.was.role, .int .i64 s.was.commit, .int .i64 s.was.hard.term, .int .i64 s.was.hard.vote, .sl false 6 (s.was.hard.log.map encEnt), .sl false 1 (s.was.yes.map encI), .sl false 1 (s.was.next.map encI), .sl false 1 (s.was.match_.map encI), .ref 5, .ref 7], .arr 45 6 (s.r.hard.log.map encEnt), .arr 3 1 (s.r.yes.map encI), .arr 3 1 (s.r.next.map encI), .arr 3 1 (s.r.match_.map encI), .arr 47 10 (s.recs.map encRec), .dead, .arr 51 17 ((s.outs ++ asks s.r).map encOut)] := by
 obtain ⟨z1, z2, z3, z4⟩ := id hz
 refine FnSpec.of 59 Tryz.func82 rfl Tryz.ntmps82 (by simp) (AW.weakK ?_)
 refine AW.q 6 ?_
 refine AW.block ?_
 refine AW.weak (Sub.mv 6 7000 (by kernel_rfl) (by decide)) ?_
 refine AW.loopW (fun (x : Nat × List Out) => match x with | (k, o) => Go.Sy.mk [.ptr 0 0 0, .un, .un, .un, .un, .un, .un, .un, .int .i64 s.r.of_, .int .i64 (k : Int)] [(0, .box 102 [.int .i64 s.r.id, .int .i64 s.r.of_, .int .i64 s.r.role, .int .i64 s.r.commit, .int .i64 s.r.hard.term, .int .i64 s.r.hard.vote, .ref 1, .ref 2, .ref 3, .ref 4, .int .i64 s.was.id, .int .i64 s.was.of_, .int .i64 s.was.role, .int .i64 s.was.commit, .int .i64 s.was.hard.term, .int .i64 s.was.hard.vote, .sl false 6 (s.was.hard.log.map encEnt), .sl false 1 (s.was.yes.map encI), .sl false 1 (s.was.next.map encI), .sl false 1 (s.was.match_.map encI), .ref 5, .ref 7000]), (1, .arr 45 6 (s.r.hard.log.map encEnt)), (2, .arr 3 1 (s.r.yes.map encI)), (3, .arr 3 1 (s.r.next.map encI)), (4, .arr 3 1 (s.r.match_.map encI)), (5, .arr 47 10 (s.recs.map encRec)), (6, .dead), (7000, .arr 51 17 (o.map encOut))]) (fun (x : Nat × List Out) => match x with | (k, o) => (k : Int) ≤ s.r.of_ ∧ o = s.outs ++ askUp s.r k) (fun (x : Nat × List Out) => match x with | (k, o) => s.r.of_.toNat - k) (0, s.outs) ⟨by omega, by simp [askUp]⟩ (Sub.o [(0, 0), (1, 1), (2, 2), (3, 3), (4, 4), (5, 5), (6, 6), (7000, 7000)] [true, false, false, false, false, false, false, false, true, true]) ?_
 rintro ⟨k, o⟩ ⟨hk, hR⟩
 have hlen := askUp_len s.r k
 have hlen2 := congrArg List.length hR
 try rw [List.length_append] at hlen2
 refine AW.q 1 ?_
 refine AW.seq ?_
 refine AW.cD ((k : Int) < s.r.of_) (fun h1 => ?_) (fun h1 => ?_)
 · refine AW.skip ?_
   refine AW.seq ?_
   refine AW.block ?_
   refine AW.q 2 ?_
   refine AW.seq ?_
   refine AW.r ?_
   refine At.a 8 ?_
   by_cases h2 : (k : Int) = s.r.id
   · refine At.sB 19 _ _ (sayET h2) ?_
     refine At.z 8 ?_
     refine AW.cond true (by kernel_rfl) (fun _ => ?_) (fun h => by cases h)
     refine AW.exit ?_
     refine AW.g ?_
     refine At.a 1 ?_
     refine At.sI 58 ((k : Int) + 1) (by omega) ?_
     refine At.z 1 ?_
     exact ⟨(k + 1, o), ⟨by omega, by rw [hR, askUp, if_pos (by grind)]; simp⟩, (by simp only; omega), Sub.o [(0, 0), (1, 1), (2, 2), (3, 3), (4, 4), (5, 5), (6, 6), (7000, 7000)] [true, false, false, false, false, false, false, false, true, true]⟩
   refine At.sB 19 _ _ (sayEF h2) ?_
   refine At.a 6 ?_
   refine At.c (slices_Contains_spec  s.r.yes (k : Int) (by omega)) Tryz.call72 false [] [] [(2, 1, (s.r.yes.map encI))] ⟨rfl, ⟨3, (s.r.yes.map encI), by kernel_rfl, FrzIs.same (allP_encI _)⟩, trivial⟩ ?_
   refine At.z 1 ?_
   refine AW.cB (hasI (k : Int) s.r.yes) (fun h3 => ?_) (fun h3 => ?_)
   · refine AW.exit ?_
     refine AW.g ?_
     refine At.a 1 ?_
     refine At.sI 58 ((k : Int) + 1) (by omega) ?_
     refine At.z 1 ?_
     exact ⟨(k + 1, o), ⟨by omega, by rw [hR, askUp, if_pos (by grind)]; simp⟩, (by simp only; omega), Sub.o [(0, 0), (1, 1), (2, 2), (3, 3), (4, 4), (5, 5), (6, 6), (7000, 7000)] [true, false, false, false, false, false, false, false, true, true]⟩
   refine AW.skip ?_
   refine AW.r ?_
   refine At.a 1 ?_
   refine At.c (impl_stepper_message_spec  (⟨s.r, s.was, s.recs, o⟩ : Stepper) 1 ) Tryz.call114 true [(0, 0), (1, 1), (2, 2), (3, 3), (4, 4), (5, 5), (7000, 6)] [(1580, 7)] [] trivial ?_
   refine At.z 2 ?_
   refine AW.seq ?_
   refine AW.gD Tryz_mix ?_
   refine At.a 7 ?_
   refine At.sL 36 encEnt s.r.hard.log ?_
   refine At.a 6 ?_
   refine At.c (impl_lastTerm_spec  s.r.hard.log (by omega)) Tryz.call113 false [] [] [(1, 6, (s.r.hard.log.map encEnt))] ⟨rfl, ⟨45, (s.r.hard.log.map encEnt), by kernel_rfl, FrzIs.same (allP_encEnt _)⟩, trivial⟩ ?_
   refine At.zD 4 ?_
   refine AW.gD Tryz_mix ?_
   refine At.a 8 ?_
   refine At.lk 54 51 17 154 (45, 6) [1580] (([(⟨(k : Int), ⟨1, s.r.id, s.r.hard.term, (s.r.hard.log.length : Int), lastT s.r.hard.log, 0, false, 0, 0, ⟨#[]⟩, ⟨0, 0, 0, 0, ⟨#[]⟩⟩, []⟩⟩ : Out)]).map encOut) [(45, 6, [])] (by intro p hp; simp only [List.mem_cons, List.not_mem_nil, or_false] at hp; subst hp; all_goals first | exact flatEnts | exact flatInts | (intro x hx; cases hx)) ?_
   refine At.apK 55 51 17 168 155 7000 154 encOut o ([(⟨(k : Int), ⟨1, s.r.id, s.r.hard.term, (s.r.hard.log.length : Int), lastT s.r.hard.log, 0, false, 0, 0, ⟨#[]⟩, ⟨0, 0, 0, 0, ⟨#[]⟩⟩, []⟩⟩ : Out)]) (by simp only [List.length_map, List.length_append, List.length_take, List.length_drop, List.length_replicate, List.length_set, List.length_cons, List.length_nil]; omega) ?_
   refine At.zD 3 ?_
   refine AW.g ?_
   refine At.a 1 ?_
   refine At.sI 58 ((k : Int) + 1) (by omega) ?_
   refine At.z 1 ?_
   exact ⟨(k + 1, (o ++ ([(⟨(k : Int), ⟨1, s.r.id, s.r.hard.term, (s.r.hard.log.length : Int), lastT s.r.hard.log, 0, false, 0, 0, ⟨#[]⟩, ⟨0, 0, 0, 0, ⟨#[]⟩⟩, []⟩⟩ : Out)]))), ⟨by omega, by rw [hR, askUp, if_neg (by grind)]; (try rw [termAt_end]); first | rfl | exact List.append_assoc _ _ _⟩, (by simp only; omega), Sub.o [(0, 0), (1, 1), (2, 2), (3, 3), (4, 4), (5, 5), (6, 6), (155, 7000)] [true, false, false, false, false, false, false, false, true, true]⟩
 refine AW.exit ?_
 refine ⟨_, Sub.refl _ _, ?_⟩
 refine KF.conv (fun w => .tup []) (fun w => [.box 102 [.int .i64 w.r.id, .int .i64 w.r.of_, .int .i64 w.r.role, .int .i64 w.r.commit, .int .i64 w.r.hard.term, .int .i64 w.r.hard.vote, .ref 1, .ref 2, .ref 3, .ref 4, .int .i64 w.was.id, .int .i64 w.was.of_, .int .i64 w.was.role, .int .i64 w.was.commit, .int .i64 w.was.hard.term, .int .i64 w.was.hard.vote, .sl false 6 (w.was.hard.log.map encEnt), .sl false 1 (w.was.yes.map encI), .sl false 1 (w.was.next.map encI), .sl false 1 (w.was.match_.map encI), .ref 5, .ref 7], .arr 45 6 (w.r.hard.log.map encEnt), .arr 3 1 (w.r.yes.map encI), .arr 3 1 (w.r.next.map encI), .arr 3 1 (w.r.match_.map encI), .arr 47 10 (w.recs.map encRec), .dead, .arr 51 17 (w.outs.map encOut)]) (show ((⟨s.r, s.was, s.recs, o⟩ : Stepper)) = (({ s with outs := s.outs ++ asks s.r } : Stepper)) from by rw [hR, asks, show s.r.of_.toNat = k from by omega]) ?_
 exact KF.n [(0, 0), (1, 1), (2, 2), (3, 3), (4, 4), (5, 5), (6, 6), (7000, 7)]
def K_impl_stepper_end (rs : List ResultVar) (s : Stepper) (w0_ : List Rec) : Exit → Sg → Prop := KF Tryz.prog 7 rs (.tup [.agg [.int .i64 s.r.id, .int .i64 s.r.of_, .int .i64 s.r.role, .int .i64 s.r.commit, .int .i64 s.r.hard.term, .int .i64 s.r.hard.vote, .ref 1, .ref 2, .ref 3, .ref 4], .ref 7, .ref 6]) [.box 102 [.int .i64 s.r.id, .int .i64 s.r.of_, .int .i64 s.r.role, .int .i64 s.r.commit, .int .i64 s.r.hard.term, .int .i64 s.r.hard.vote, .ref 1, .ref 2, .ref 3, .ref 4, .int .i64 s.was.id, .int .i64 s.was.of_, .int .i64 s.was.role, .int .i64 s.was.commit, .int .i64 s.was.hard.term, .int .i64 s.was.hard.vote, .sl false 6 (s.was.hard.log.map encEnt), .sl false 1 (s.was.yes.map encI), .sl false 1 (s.was.next.map encI), .sl false 1 (s.was.match_.map encI), .un, .ref 6], .arr 45 6 (s.r.hard.log.map encEnt), .arr 3 1 (s.r.yes.map encI), .arr 3 1 (s.r.next.map encI), .arr 3 1 (s.r.match_.map encI), .dead, .arr 51 17 (s.outs.map encOut), .arr 47 10 (w0_.map encRec)]
theorem impl_stepper_end_spec  (s : Stepper) (hr : s.recs.length ≤ 1048576) : FnSpec Tryz.prog 90 [.ptr 0 0 0] [.box 102 [.int .i64 s.r.id, .int .i64 s.r.of_, .int .i64 s.r.role, .int .i64 s.r.commit, .int .i64 s.r.hard.term, .int .i64 s.r.hard.vote, .ref 1, .ref 2, .ref 3, .ref 4, .int .i64 s.was.id, .int .i64 s.was.of_, .int .i64 s.was.role, .int .i64 s.was.commit, .int .i64 s.was.hard.term, .int .i64 s.was.hard.vote, .sl false 6 (s.was.hard.log.map encEnt), .sl false 1 (s.was.yes.map encI), .sl false 1 (s.was.next.map encI), .sl false 1 (s.was.match_.map encI), .ref 5, .ref 6], .arr 45 6 (s.r.hard.log.map encEnt), .arr 3 1 (s.r.yes.map encI), .arr 3 1 (s.r.next.map encI), .arr 3 1 (s.r.match_.map encI), .arr 47 10 (s.recs.map encRec), .arr 51 17 (s.outs.map encOut)] (.tup [.agg [.int .i64 s.r.id, .int .i64 s.r.of_, .int .i64 s.r.role, .int .i64 s.r.commit, .int .i64 s.r.hard.term, .int .i64 s.r.hard.vote, .ref 1, .ref 2, .ref 3, .ref 4], .ref 7, .ref 6]) [.box 102 [.int .i64 s.r.id, .int .i64 s.r.of_, .int .i64 s.r.role, .int .i64 s.r.commit, .int .i64 s.r.hard.term, .int .i64 s.r.hard.vote, .ref 1, .ref 2, .ref 3, .ref 4, .int .i64 s.was.id, .int .i64 s.was.of_, .int .i64 s.was.role, .int .i64 s.was.commit, .int .i64 s.was.hard.term, .int .i64 s.was.hard.vote, .sl false 6 (s.was.hard.log.map encEnt), .sl false 1 (s.was.yes.map encI), .sl false 1 (s.was.next.map encI), .sl false 1 (s.was.match_.map encI), .un, .ref 6], .arr 45 6 (s.r.hard.log.map encEnt), .arr 3 1 (s.r.yes.map encI), .arr 3 1 (s.r.next.map encI), .arr 3 1 (s.r.match_.map encI), .dead, .arr 51 17 (s.outs.map encOut), .arr 47 10 ((endRecs s).map encRec)] := by
 refine FnSpec.of 60 Tryz.func90 rfl Tryz.ntmps90 (by simp) (AW.weakK ?_)
 refine AW.q 3 ?_
 refine AW.seq ?_
 refine AW.weak (Sub.nils [⟨true, 102, some 6, 5001, 45, 6⟩, ⟨true, 102, some 7, 5002, 3, 1⟩, ⟨true, 102, some 8, 5003, 3, 1⟩, ⟨true, 102, some 9, 5004, 3, 1⟩] (by kernel_rfl)) ?_
 refine AW.gD Tryz_mix ?_
 refine At.zD 14 ?_
 refine AW.seq ?_
 refine AW.r ?_
 refine At.a 6 ?_
 by_cases h1 : s.r.hard.term = s.was.hard.term
 · refine At.sB 22 _ _ (sayET h1) ?_
   refine At.z 6 ?_
   refine AW.cE s.r.hard.vote s.was.hard.vote (fun h2 => ?_) (fun h2 => ?_)
   · refine AW.seq ?_
     refine AW.gD Tryz_mix ?_
     refine At.zD 15 ?_
     refine AW.ret ?_
     refine ⟨_, (Sub.trans (Sub.trans (Sub.refl _ _) (Sub.mv 5 8005 (by kernel_rfl) (by decide))) (Sub.un1 0 20 102 [.int .i64 s.r.id, .int .i64 s.r.of_, .int .i64 s.r.role, .int .i64 s.r.commit, .int .i64 s.r.hard.term, .int .i64 s.r.hard.vote, .ref 1, .ref 2, .ref 3, .ref 4, .int .i64 s.was.id, .int .i64 s.was.of_, .int .i64 s.was.role, .int .i64 s.was.commit, .int .i64 s.was.hard.term, .int .i64 s.was.hard.vote, .sl false 6 (s.was.hard.log.map encEnt), .sl false 1 (s.was.yes.map encI), .sl false 1 (s.was.next.map encI), .sl false 1 (s.was.match_.map encI), .ref 8005, .ref 6] (by kernel_rfl))), ?_⟩
     exact k1 (K_impl_stepper_end _ s) (show (s.recs) = (endRecs s) from by simp [endRecs, voteRec, h1, h2]; try rfl) (KF.n [(0, 0), (1, 1), (2, 2), (3, 3), (4, 4), (5, 5), (6, 6), (8005, 7)])
   refine AW.skip ?_
   refine AW.seq ?_
   refine AW.gD Tryz_mix ?_
   refine At.a 9 ?_
   refine At.ll 50 47 10 150 (45, 6) (([(⟨1, s.r.hard.term, s.r.hard.vote, 0, ⟨0, ⟨0, 0, 0, 0, (⟨#[]⟩ : ByteArray)⟩⟩⟩ : Rec)]).map encRec) ?_
   refine At.a 4 ?_
   refine At.apC 55 47 10 88 155 150 5 encRec ([(⟨1, s.r.hard.term, s.r.hard.vote, 0, ⟨0, ⟨0, 0, 0, 0, (⟨#[]⟩ : ByteArray)⟩⟩⟩ : Rec)]) s.recs (by simp only [List.length_map, List.length_append, List.length_take, List.length_drop, List.length_replicate, List.length_set, List.length_cons, List.length_nil]; omega) (allP_encRec _) ?_
   refine At.zD 7 ?_
   refine AW.ret ?_
   refine ⟨_, (Sub.trans (Sub.trans (Sub.refl _ _) (Sub.mv 5 8005 (by kernel_rfl) (by decide))) (Sub.un1 0 20 102 [.int .i64 s.r.id, .int .i64 s.r.of_, .int .i64 s.r.role, .int .i64 s.r.commit, .int .i64 s.r.hard.term, .int .i64 s.r.hard.vote, .ref 1, .ref 2, .ref 3, .ref 4, .int .i64 s.was.id, .int .i64 s.was.of_, .int .i64 s.was.role, .int .i64 s.was.commit, .int .i64 s.was.hard.term, .int .i64 s.was.hard.vote, .sl false 6 (s.was.hard.log.map encEnt), .sl false 1 (s.was.yes.map encI), .sl false 1 (s.was.next.map encI), .sl false 1 (s.was.match_.map encI), .ref 8005, .ref 6] (by kernel_rfl))), ?_⟩
   exact k1 (K_impl_stepper_end _ s) (show (([(⟨1, s.r.hard.term, s.r.hard.vote, 0, ⟨0, ⟨0, 0, 0, 0, (⟨#[]⟩ : ByteArray)⟩⟩⟩ : Rec)]) ++ s.recs) = (endRecs s) from by simp [endRecs, voteRec, h1, h2]; try rfl) (KF.n [(0, 0), (1, 1), (2, 2), (3, 3), (4, 4), (5, 5), (6, 6), (155, 7)])
 refine At.sB 22 _ _ (sayEF h1) ?_
 refine At.z 6 ?_
 refine AW.cond false (by kernel_rfl) (fun h => by cases h) (fun _ => ?_)
 refine AW.skip ?_
 refine AW.seq ?_
 refine AW.gD Tryz_mix ?_
 refine At.a 9 ?_
 refine At.ll 50 47 10 150 (45, 6) (([(⟨1, s.r.hard.term, s.r.hard.vote, 0, ⟨0, ⟨0, 0, 0, 0, (⟨#[]⟩ : ByteArray)⟩⟩⟩ : Rec)]).map encRec) ?_
 refine At.a 4 ?_
 refine At.apC 55 47 10 88 155 150 5 encRec ([(⟨1, s.r.hard.term, s.r.hard.vote, 0, ⟨0, ⟨0, 0, 0, 0, (⟨#[]⟩ : ByteArray)⟩⟩⟩ : Rec)]) s.recs (by simp only [List.length_map, List.length_append, List.length_take, List.length_drop, List.length_replicate, List.length_set, List.length_cons, List.length_nil]; omega) (allP_encRec _) ?_
 refine At.zD 7 ?_
 refine AW.ret ?_
 refine ⟨_, (Sub.trans (Sub.trans (Sub.refl _ _) (Sub.mv 5 8005 (by kernel_rfl) (by decide))) (Sub.un1 0 20 102 [.int .i64 s.r.id, .int .i64 s.r.of_, .int .i64 s.r.role, .int .i64 s.r.commit, .int .i64 s.r.hard.term, .int .i64 s.r.hard.vote, .ref 1, .ref 2, .ref 3, .ref 4, .int .i64 s.was.id, .int .i64 s.was.of_, .int .i64 s.was.role, .int .i64 s.was.commit, .int .i64 s.was.hard.term, .int .i64 s.was.hard.vote, .sl false 6 (s.was.hard.log.map encEnt), .sl false 1 (s.was.yes.map encI), .sl false 1 (s.was.next.map encI), .sl false 1 (s.was.match_.map encI), .ref 8005, .ref 6] (by kernel_rfl))), ?_⟩
 exact k1 (K_impl_stepper_end _ s) (show (([(⟨1, s.r.hard.term, s.r.hard.vote, 0, ⟨0, ⟨0, 0, 0, 0, (⟨#[]⟩ : ByteArray)⟩⟩⟩ : Rec)]) ++ s.recs) = (endRecs s) from by simp [endRecs, voteRec, h1]; try rfl) (KF.n [(0, 0), (1, 1), (2, 2), (3, 3), (4, 4), (5, 5), (6, 6), (155, 7)])
def K_impl_RaftStand (rs : List ResultVar) (r : Raft) (w0_ : Raft) (w1_ : List Rec) (w2_ : List Out) : Exit → Sg → Prop := KF Tryz.prog 0 rs (.tup [.agg [.int .i64 w0_.id, .int .i64 w0_.of_, .int .i64 w0_.role, .int .i64 w0_.commit, .int .i64 w0_.hard.term, .int .i64 w0_.hard.vote, .ref 0, .ref 1, .ref 2, .ref 3], .ref 4, .ref 5]) [.arr 45 6 (w0_.hard.log.map encEnt), .arr 3 1 (w0_.yes.map encI), .arr 3 1 (w0_.next.map encI), .arr 3 1 (w0_.match_.map encI), .arr 47 10 (w1_.map encRec), .arr 51 17 (w2_.map encOut)]
theorem impl_RaftStand_spec  (r : Raft) (hz : SmallR r) : FnSpec Tryz.prog 29 [(raftA r)] [] (.tup [.agg [.int .i64 (((stands r).1).id), .int .i64 (((stands r).1).of_), .int .i64 (((stands r).1).role), .int .i64 (((stands r).1).commit), .int .i64 (((stands r).1).hard.term), .int .i64 (((stands r).1).hard.vote), .ref 0, .ref 1, .ref 2, .ref 3], .ref 4, .ref 5]) [.arr 45 6 ((((stands r).1).hard.log).map encEnt), .arr 3 1 ((((stands r).1).yes).map encI), .arr 3 1 ((((stands r).1).next).map encI), .arr 3 1 ((((stands r).1).match_).map encI), .arr 47 10 (((stands r).2.1).map encRec), .arr 51 17 (((stands r).2.2).map encOut)] := by
 obtain ⟨z1, z2, z3, z4⟩ := id hz
 refine FnSpec.of 66 Tryz.func29 rfl Tryz.ntmps29 (by simp) (AW.weakK ?_)
 by_cases hok : raftOk r = true
 · have hokn := raftOk1_nums (raftOk_1 hok)
   refine AW.q 4 ?_
   refine AW.seq ?_
   refine AW.weak (Sub.nils [⟨true, 102, some 6, 5001, 45, 6⟩, ⟨true, 102, some 7, 5002, 3, 1⟩, ⟨true, 102, some 8, 5003, 3, 1⟩, ⟨true, 102, some 9, 5004, 3, 1⟩] (by kernel_rfl)) ?_
   refine AW.g ?_
   refine At.a 1 ?_
   refine At.c (impl_stepOf_spec  r (by exact hz)) Tryz.call80 true [] [(1140, 0), (1141, 1), (1142, 2), (1143, 3), (1144, 4), (1145, 5), (1146, 6)] [] trivial ?_
   refine At.z 1 ?_
   refine AW.seq ?_
   refine AW.r ?_
   refine At.a 1 ?_
   refine At.c (impl_RaftOk_spec  r (by exact hz)) Tryz.call19 true [] [] [] trivial ?_
   refine At.a 2 ?_
   refine At.sB 11 (!(raftOk r)) false (sayB (by rw [show (raftOk r) = true from hok]; rfl)) ?_
   refine At.a 5 ?_
   by_cases h1 : r.role = 3
   · refine At.sB 16 _ _ (sayET h1) ?_
     refine At.z 5 ?_
     refine AW.cond true (by kernel_rfl) (fun _ => ?_) (fun h => by cases h)
     refine AW.r ?_
     refine At.a 1 ?_
     refine At.c (impl_stepper_none_T_spec  (⟨r, r, [], []⟩ : Stepper) (by exact hz) hok) Tryz.call88 true [(1140, 0), (1141, 1), (1142, 2), (1143, 3), (1144, 4), (1145, 5), (1146, 6)] [(1460, 7), (1461, 8), (1462, 9), (1463, 10), (1464, 11), (1465, 12)] [] trivial ?_
     refine At.z 6 ?_
     exact AW.ret (rf (k3 (K_impl_RaftStand _ r) (show (r) = ((stands r).1) from by have q : ¬ (raftOk r = true ∧ r.role ≠ 3 ∧ r.hard.term ≠ 1000000000) := (by rintro ⟨_, q1, q2⟩; omega); rw [stands, if_neg q]; (try simp [same, hok])) (show ([]) = ((stands r).2.1) from by have q : ¬ (raftOk r = true ∧ r.role ≠ 3 ∧ r.hard.term ≠ 1000000000) := (by rintro ⟨_, q1, q2⟩; omega); rw [stands, if_neg q]; (try simp [same, hok])) (show ([]) = ((stands r).2.2) from by have q : ¬ (raftOk r = true ∧ r.role ≠ 3 ∧ r.hard.term ≠ 1000000000) := (by rintro ⟨_, q1, q2⟩; omega); rw [stands, if_neg q]; (try simp [same, hok])) (KF.n [(1460, 0), (1461, 1), (1462, 2), (1463, 3), (1464, 4), (1465, 5)])))
   refine At.sB 16 _ _ (sayEF h1) ?_
   refine At.z 5 ?_
   refine AW.cD (r.hard.term ≥ 1000000000) (fun h2 => ?_) (fun h2 => ?_)
   · refine AW.r ?_
     refine At.a 1 ?_
     refine At.c (impl_stepper_none_T_spec  (⟨r, r, [], []⟩ : Stepper) (by exact hz) hok) Tryz.call88 true [(1140, 0), (1141, 1), (1142, 2), (1143, 3), (1144, 4), (1145, 5), (1146, 6)] [(1460, 7), (1461, 8), (1462, 9), (1463, 10), (1464, 11), (1465, 12)] [] trivial ?_
     refine At.z 6 ?_
     exact AW.ret (rf (k3 (K_impl_RaftStand _ r) (show (r) = ((stands r).1) from by have q : ¬ (raftOk r = true ∧ r.role ≠ 3 ∧ r.hard.term ≠ 1000000000) := (by rintro ⟨_, q1, q2⟩; omega); rw [stands, if_neg q]; (try simp [same, hok])) (show ([]) = ((stands r).2.1) from by have q : ¬ (raftOk r = true ∧ r.role ≠ 3 ∧ r.hard.term ≠ 1000000000) := (by rintro ⟨_, q1, q2⟩; omega); rw [stands, if_neg q]; (try simp [same, hok])) (show ([]) = ((stands r).2.2) from by have q : ¬ (raftOk r = true ∧ r.role ≠ 3 ∧ r.hard.term ≠ 1000000000) := (by rintro ⟨_, q1, q2⟩; omega); rw [stands, if_neg q]; (try simp [same, hok])) (KF.n [(1460, 0), (1461, 1), (1462, 2), (1463, 3), (1464, 4), (1465, 5)])))
   refine AW.skip ?_
   refine AW.r ?_
   refine At.a 7 ?_
   refine At.sI 33 (r.hard.term + 1) (by omega) ?_
   refine At.z 5 ?_
   refine AW.r ?_
   refine At.a 4 ?_
   refine At.sI 41 (r.id + 1) (by omega) ?_
   refine At.z 5 ?_
   refine AW.q 10 ?_
   refine AW.seq ?_
   refine AW.seq ?_
   refine AW.weak (Sub.nils [⟨true, 1140, some 7, 5005, 3, 1⟩] (by kernel_rfl)) ?_
   refine AW.gq 3 ?_
   refine AW.cE r.of_ (1 : Int) (fun h3 => ?_) (fun h3 => ?_)
   · refine AW.g ?_
     refine At.a 1 ?_
     by_cases h4 : r.hard.log.length < 80
     · refine At.c (impl_stepper_lead_T_spec  (⟨⟨r.id, r.of_, 2, r.commit, ⟨r.hard.term + 1, r.id + 1, r.hard.log⟩, [], r.next, r.match_⟩, r, [], []⟩ : Stepper) (by unfold SmallR; simp only [List.length_nil]; omega) (by dsimp only; omega) (by dsimp only; omega) (by simp only [List.length_map, List.length_append, List.length_take, List.length_drop, List.length_replicate, List.length_set, List.length_cons, List.length_nil]; omega) (by simp only [List.length_map, List.length_append, List.length_take, List.length_drop, List.length_replicate, List.length_set, List.length_cons, List.length_nil]; omega) h4) Tryz.call96 true [(1140, 0), (1141, 1), (5005, 2), (1143, 3), (1144, 4), (1145, 5), (1146, 6)] [(2160, 7), (2161, 8), (2162, 9), (2163, 10), (2164, 11), (2165, 12)] [] trivial ?_
       refine At.done rfl ?_
       refine AW.r ?_
       refine At.a 1 ?_
       refine At.c (impl_stepper_end_spec  (⟨(leadR (⟨r.id, r.of_, 2, r.commit, ⟨r.hard.term + 1, r.id + 1, r.hard.log⟩, [], r.next, r.match_⟩)), r, ([]) ++ leadRecs (⟨r.id, r.of_, 2, r.commit, ⟨r.hard.term + 1, r.id + 1, r.hard.log⟩, [], r.next, r.match_⟩), ([]) ++ sendAll (leadR (⟨r.id, r.of_, 2, r.commit, ⟨r.hard.term + 1, r.id + 1, r.hard.log⟩, [], r.next, r.match_⟩))⟩ : Stepper) (by dsimp only; simp only [leadRecs]; (split <;> simp))) Tryz.call90 true [(1140, 0), (2160, 1), (2161, 2), (2162, 3), (2163, 4), (2164, 5), (2165, 6)] [(2240, 7)] [] trivial ?_
       refine At.z 6 ?_
       exact AW.ret (rf (k3 (K_impl_RaftStand _ r) (show ((leadR (⟨r.id, r.of_, 2, r.commit, ⟨r.hard.term + 1, r.id + 1, r.hard.log⟩, [], r.next, r.match_⟩))) = ((stands r).1) from by have q : raftOk r = true ∧ r.role ≠ 3 ∧ r.hard.term ≠ 1000000000 := (⟨hok, by omega, by omega⟩); simp only [stands, if_pos q]; first | rfl | (rw [endRecs_ne (by dsimp only; first | omega | (rw [leadR_term]; dsimp only; omega))]; simp [h1, h2, h3, h4, voteRec, leadR_term, leadR_vote, standR, zEnt, zCmd, leadRecs]; done) | (simp [h1, h2, h3, h4, standR, voteRec, zEnt, zCmd, leadRecs]; done) | (simp [h1, h2, h3, h4, standR, voteRec, zEnt, zCmd, leadRecs]; rfl) | (simp [h1, h2, h3, h4, standR, leadR, had, lead0]; done) | (simp [h1, h2, h3, h4, standR, leadR, had, lead0]; rfl)) (show (endRecs (⟨(leadR (⟨r.id, r.of_, 2, r.commit, ⟨r.hard.term + 1, r.id + 1, r.hard.log⟩, [], r.next, r.match_⟩)), r, ([]) ++ leadRecs (⟨r.id, r.of_, 2, r.commit, ⟨r.hard.term + 1, r.id + 1, r.hard.log⟩, [], r.next, r.match_⟩), ([]) ++ sendAll (leadR (⟨r.id, r.of_, 2, r.commit, ⟨r.hard.term + 1, r.id + 1, r.hard.log⟩, [], r.next, r.match_⟩))⟩ : Stepper)) = ((stands r).2.1) from by have q : raftOk r = true ∧ r.role ≠ 3 ∧ r.hard.term ≠ 1000000000 := (⟨hok, by omega, by omega⟩); simp only [stands, if_pos q]; first | rfl | (rw [endRecs_ne (by dsimp only; first | omega | (rw [leadR_term]; dsimp only; omega))]; simp [h1, h2, h3, h4, voteRec, leadR_term, leadR_vote, standR, zEnt, zCmd, leadRecs]; done) | (simp [h1, h2, h3, h4, standR, voteRec, zEnt, zCmd, leadRecs]; done) | (simp [h1, h2, h3, h4, standR, voteRec, zEnt, zCmd, leadRecs]; rfl) | (simp [h1, h2, h3, h4, standR, leadR, had, lead0]; done) | (simp [h1, h2, h3, h4, standR, leadR, had, lead0]; rfl)) (show (([]) ++ sendAll (leadR (⟨r.id, r.of_, 2, r.commit, ⟨r.hard.term + 1, r.id + 1, r.hard.log⟩, [], r.next, r.match_⟩))) = ((stands r).2.2) from by have q : raftOk r = true ∧ r.role ≠ 3 ∧ r.hard.term ≠ 1000000000 := (⟨hok, by omega, by omega⟩); simp only [stands, if_pos q]; first | rfl | (rw [endRecs_ne (by dsimp only; first | omega | (rw [leadR_term]; dsimp only; omega))]; simp [h1, h2, h3, h4, voteRec, leadR_term, leadR_vote, standR, zEnt, zCmd, leadRecs]; done) | (simp [h1, h2, h3, h4, standR, voteRec, zEnt, zCmd, leadRecs]; done) | (simp [h1, h2, h3, h4, standR, voteRec, zEnt, zCmd, leadRecs]; rfl) | (simp [h1, h2, h3, h4, standR, leadR, had, lead0]; done) | (simp [h1, h2, h3, h4, standR, leadR, had, lead0]; rfl)) (KF.n [(2160, 0), (2161, 1), (2162, 2), (2163, 3), (2240, 4), (2165, 5)])))
     refine At.c (impl_stepper_lead_F_spec  (⟨⟨r.id, r.of_, 2, r.commit, ⟨r.hard.term + 1, r.id + 1, r.hard.log⟩, [], r.next, r.match_⟩, r, [], []⟩ : Stepper) (by unfold SmallR; simp only [List.length_nil]; omega) (by dsimp only; omega) (by dsimp only; omega) (by simp only [List.length_map, List.length_append, List.length_take, List.length_drop, List.length_replicate, List.length_set, List.length_cons, List.length_nil]; omega) (by simp only [List.length_map, List.length_append, List.length_take, List.length_drop, List.length_replicate, List.length_set, List.length_cons, List.length_nil]; omega) h4) Tryz.call96 true [(1140, 0), (1141, 1), (5005, 2), (1143, 3), (1144, 4), (1145, 5), (1146, 6)] [(2160, 7), (2161, 8), (2162, 9), (2163, 10)] [] trivial ?_
     refine At.done rfl ?_
     refine AW.r ?_
     refine At.a 1 ?_
     refine At.c (impl_stepper_end_spec  (⟨(leadR (⟨r.id, r.of_, 2, r.commit, ⟨r.hard.term + 1, r.id + 1, r.hard.log⟩, [], r.next, r.match_⟩)), r, ([]) ++ leadRecs (⟨r.id, r.of_, 2, r.commit, ⟨r.hard.term + 1, r.id + 1, r.hard.log⟩, [], r.next, r.match_⟩), ([]) ++ sendAll (leadR (⟨r.id, r.of_, 2, r.commit, ⟨r.hard.term + 1, r.id + 1, r.hard.log⟩, [], r.next, r.match_⟩))⟩ : Stepper) (by dsimp only; simp only [leadRecs]; (split <;> simp))) Tryz.call90 true [(1140, 0), (1141, 1), (2160, 2), (2161, 3), (2162, 4), (1145, 5), (2163, 6)] [(2240, 7)] [] trivial ?_
     refine At.z 6 ?_
     exact AW.ret (rf (k3 (K_impl_RaftStand _ r) (show ((leadR (⟨r.id, r.of_, 2, r.commit, ⟨r.hard.term + 1, r.id + 1, r.hard.log⟩, [], r.next, r.match_⟩))) = ((stands r).1) from by have q : raftOk r = true ∧ r.role ≠ 3 ∧ r.hard.term ≠ 1000000000 := (⟨hok, by omega, by omega⟩); simp only [stands, if_pos q]; first | rfl | (rw [endRecs_ne (by dsimp only; first | omega | (rw [leadR_term]; dsimp only; omega))]; simp [h1, h2, h3, h4, voteRec, leadR_term, leadR_vote, standR, zEnt, zCmd, leadRecs]; done) | (simp [h1, h2, h3, h4, standR, voteRec, zEnt, zCmd, leadRecs]; done) | (simp [h1, h2, h3, h4, standR, voteRec, zEnt, zCmd, leadRecs]; rfl) | (simp [h1, h2, h3, h4, standR, leadR, had, lead0]; done) | (simp [h1, h2, h3, h4, standR, leadR, had, lead0]; rfl)) (show (endRecs (⟨(leadR (⟨r.id, r.of_, 2, r.commit, ⟨r.hard.term + 1, r.id + 1, r.hard.log⟩, [], r.next, r.match_⟩)), r, ([]) ++ leadRecs (⟨r.id, r.of_, 2, r.commit, ⟨r.hard.term + 1, r.id + 1, r.hard.log⟩, [], r.next, r.match_⟩), ([]) ++ sendAll (leadR (⟨r.id, r.of_, 2, r.commit, ⟨r.hard.term + 1, r.id + 1, r.hard.log⟩, [], r.next, r.match_⟩))⟩ : Stepper)) = ((stands r).2.1) from by have q : raftOk r = true ∧ r.role ≠ 3 ∧ r.hard.term ≠ 1000000000 := (⟨hok, by omega, by omega⟩); simp only [stands, if_pos q]; first | rfl | (rw [endRecs_ne (by dsimp only; first | omega | (rw [leadR_term]; dsimp only; omega))]; simp [h1, h2, h3, h4, voteRec, leadR_term, leadR_vote, standR, zEnt, zCmd, leadRecs]; done) | (simp [h1, h2, h3, h4, standR, voteRec, zEnt, zCmd, leadRecs]; done) | (simp [h1, h2, h3, h4, standR, voteRec, zEnt, zCmd, leadRecs]; rfl) | (simp [h1, h2, h3, h4, standR, leadR, had, lead0]; done) | (simp [h1, h2, h3, h4, standR, leadR, had, lead0]; rfl)) (show (([]) ++ sendAll (leadR (⟨r.id, r.of_, 2, r.commit, ⟨r.hard.term + 1, r.id + 1, r.hard.log⟩, [], r.next, r.match_⟩))) = ((stands r).2.2) from by have q : raftOk r = true ∧ r.role ≠ 3 ∧ r.hard.term ≠ 1000000000 := (⟨hok, by omega, by omega⟩); simp only [stands, if_pos q]; first | rfl | (rw [endRecs_ne (by dsimp only; first | omega | (rw [leadR_term]; dsimp only; omega))]; simp [h1, h2, h3, h4, voteRec, leadR_term, leadR_vote, standR, zEnt, zCmd, leadRecs]; done) | (simp [h1, h2, h3, h4, standR, voteRec, zEnt, zCmd, leadRecs]; done) | (simp [h1, h2, h3, h4, standR, voteRec, zEnt, zCmd, leadRecs]; rfl) | (simp [h1, h2, h3, h4, standR, leadR, had, lead0]; done) | (simp [h1, h2, h3, h4, standR, leadR, had, lead0]; rfl)) (KF.n [(1141, 0), (2160, 1), (2161, 2), (2162, 3), (2240, 4), (2163, 5)])))
   refine AW.g ?_
   refine At.a 1 ?_
   refine At.c (impl_stepper_ask_spec  (⟨⟨r.id, r.of_, 2, r.commit, ⟨r.hard.term + 1, r.id + 1, r.hard.log⟩, [], r.next, r.match_⟩, r, [], []⟩ : Stepper) (by unfold SmallR; simp only [List.length_nil]; omega) (by dsimp only; omega) (by simp only [List.length_map, List.length_append, List.length_take, List.length_drop, List.length_replicate, List.length_set, List.length_cons, List.length_nil]; omega)) Tryz.call82 true [(1140, 0), (1141, 1), (5005, 2), (1143, 3), (1144, 4), (1145, 5), (1146, 6)] [(2200, 7)] [] trivial ?_
   refine At.done rfl ?_
   refine AW.r ?_
   refine At.a 1 ?_
   refine At.c (impl_stepper_end_spec  (⟨⟨r.id, r.of_, 2, r.commit, ⟨r.hard.term + 1, r.id + 1, r.hard.log⟩, [], r.next, r.match_⟩, r, [], ([]) ++ asks (⟨r.id, r.of_, 2, r.commit, ⟨r.hard.term + 1, r.id + 1, r.hard.log⟩, [], r.next, r.match_⟩)⟩ : Stepper) (by dsimp only; simp)) Tryz.call90 true [(1140, 0), (1141, 1), (5005, 2), (1143, 3), (1144, 4), (1145, 5), (2200, 6)] [(2240, 7)] [] trivial ?_
   refine At.z 6 ?_
   exact AW.ret (rf (k3 (K_impl_RaftStand _ r) (show ((⟨r.id, r.of_, 2, r.commit, ⟨r.hard.term + 1, r.id + 1, r.hard.log⟩, [], r.next, r.match_⟩ : Raft)) = ((stands r).1) from by have q : raftOk r = true ∧ r.role ≠ 3 ∧ r.hard.term ≠ 1000000000 := (⟨hok, by omega, by omega⟩); simp only [stands, if_pos q]; first | rfl | (rw [endRecs_ne (by dsimp only; first | omega | (rw [leadR_term]; dsimp only; omega))]; simp [h1, h2, h3, voteRec, leadR_term, leadR_vote, standR, zEnt, zCmd, leadRecs]; done) | (simp [h1, h2, h3, standR, voteRec, zEnt, zCmd, leadRecs]; done) | (simp [h1, h2, h3, standR, voteRec, zEnt, zCmd, leadRecs]; rfl) | (simp [h1, h2, h3, standR, leadR, had, lead0]; done) | (simp [h1, h2, h3, standR, leadR, had, lead0]; rfl)) (show (endRecs (⟨⟨r.id, r.of_, 2, r.commit, ⟨r.hard.term + 1, r.id + 1, r.hard.log⟩, [], r.next, r.match_⟩, r, [], ([]) ++ asks (⟨r.id, r.of_, 2, r.commit, ⟨r.hard.term + 1, r.id + 1, r.hard.log⟩, [], r.next, r.match_⟩)⟩ : Stepper)) = ((stands r).2.1) from by have q : raftOk r = true ∧ r.role ≠ 3 ∧ r.hard.term ≠ 1000000000 := (⟨hok, by omega, by omega⟩); simp only [stands, if_pos q]; first | rfl | (rw [endRecs_ne (by dsimp only; first | omega | (rw [leadR_term]; dsimp only; omega))]; simp [h1, h2, h3, voteRec, leadR_term, leadR_vote, standR, zEnt, zCmd, leadRecs]; done) | (simp [h1, h2, h3, standR, voteRec, zEnt, zCmd, leadRecs]; done) | (simp [h1, h2, h3, standR, voteRec, zEnt, zCmd, leadRecs]; rfl) | (simp [h1, h2, h3, standR, leadR, had, lead0]; done) | (simp [h1, h2, h3, standR, leadR, had, lead0]; rfl)) (show (([]) ++ asks (⟨r.id, r.of_, 2, r.commit, ⟨r.hard.term + 1, r.id + 1, r.hard.log⟩, [], r.next, r.match_⟩)) = ((stands r).2.2) from by have q : raftOk r = true ∧ r.role ≠ 3 ∧ r.hard.term ≠ 1000000000 := (⟨hok, by omega, by omega⟩); simp only [stands, if_pos q]; first | rfl | (rw [endRecs_ne (by dsimp only; first | omega | (rw [leadR_term]; dsimp only; omega))]; simp [h1, h2, h3, voteRec, leadR_term, leadR_vote, standR, zEnt, zCmd, leadRecs]; done) | (simp [h1, h2, h3, standR, voteRec, zEnt, zCmd, leadRecs]; done) | (simp [h1, h2, h3, standR, voteRec, zEnt, zCmd, leadRecs]; rfl) | (simp [h1, h2, h3, standR, leadR, had, lead0]; done) | (simp [h1, h2, h3, standR, leadR, had, lead0]; rfl)) (KF.n [(1141, 0), (5005, 1), (1143, 2), (1144, 3), (2240, 4), (2200, 5)])))
 refine AW.q 4 ?_
 refine AW.seq ?_
 refine AW.weak (Sub.nils [⟨true, 102, some 6, 5001, 45, 6⟩, ⟨true, 102, some 7, 5002, 3, 1⟩, ⟨true, 102, some 8, 5003, 3, 1⟩, ⟨true, 102, some 9, 5004, 3, 1⟩] (by kernel_rfl)) ?_
 refine AW.g ?_
 refine At.a 1 ?_
 refine At.c (impl_stepOf_spec  r (by exact hz)) Tryz.call80 true [] [(1140, 0), (1141, 1), (1142, 2), (1143, 3), (1144, 4), (1145, 5), (1146, 6)] [] trivial ?_
 refine At.z 1 ?_
 refine AW.seq ?_
 refine AW.r ?_
 refine At.a 1 ?_
 refine At.c (impl_RaftOk_spec  r (by exact hz)) Tryz.call19 true [] [] [] trivial ?_
 refine At.a 2 ?_
 refine At.sB 11 (!(raftOk r)) true (sayB (by rw [show (raftOk r) = false from (Bool.eq_false_iff.2 hok)]; rfl)) ?_
 refine At.z 10 ?_
 refine AW.cond true (by kernel_rfl) (fun _ => ?_) (fun h => by cases h)
 refine AW.r ?_
 refine At.a 1 ?_
 refine At.c (impl_stepper_none_F_spec  (⟨r, r, [], []⟩ : Stepper) (by exact hz) hok) Tryz.call88 true [(1140, 0), (1141, 1), (1142, 2), (1143, 3), (1144, 4), (1145, 5), (1146, 6)] [(1460, 7), (1461, 8), (1462, 9), (1463, 10), (1464, 11), (1465, 12)] [] trivial ?_
 refine At.z 6 ?_
 exact AW.ret (rf (k3 (K_impl_RaftStand _ r) (show ((⟨0, 0, 0, 0, ⟨0, 0, []⟩, [], [], []⟩ : Raft)) = ((stands r).1) from by simp [stands, same, hok]; try rfl) (show ([]) = ((stands r).2.1) from by simp [stands, same, hok]; try rfl) (show ([]) = ((stands r).2.2) from by simp [stands, same, hok]; try rfl) (KF.n [(1460, 0), (1461, 1), (1462, 2), (1463, 3), (1464, 4), (1465, 5)])))
theorem spec_l10DrawLeader_spec  (code : List UInt8) (hc : code.length ≤ 1048576) : ∃ rho_ : Raft, (SmallR rho_) ∧ FnSpec Tryz.prog 79 [.sl false 1 (code.map encU8)] [] (.agg [.int .i64 rho_.id, .int .i64 rho_.of_, .int .i64 rho_.role, .int .i64 rho_.commit, .int .i64 rho_.hard.term, .int .i64 rho_.hard.vote, .ref 0, .ref 1, .ref 2, .ref 3]) [.arr 45 6 (rho_.hard.log.map encEnt), .arr 3 1 (rho_.yes.map encI), .arr 3 1 (rho_.next.map encI), .arr 3 1 (rho_.match_.map encI)] := by
 refine dv (fun h_ => FnSpec.of 43 Tryz.func79 rfl Tryz.ntmps79 (by simp) (AW.weakK h_)) ?_
 refine dv (AW.q 1 ·) ?_
 refine dv (AW.seq ·) ?_
 refine dv (AW.weak (Sub.nils [⟨true, 102, some 6, 5001, 45, 6⟩, ⟨true, 102, some 7, 5002, 3, 1⟩, ⟨true, 102, some 8, 5003, 3, 1⟩, ⟨true, 102, some 9, 5004, 3, 1⟩] (by kernel_rfl)) ·) ?_
 refine dv (AW.g ·) ?_
 refine dv (At.a 1 ·) ?_
 refine Exists.elim (spec_l1New_spec  code (by omega)) fun r1_ hr1_ => ?_
 have qr1_ := hr1_.1
 try dsimp only at qr1_
 refine dv (At.c (hr1_.2) Tryz.call56 true [] [(1180, 0)] [] trivial ·) ?_
 refine dv (At.z 1 ·) ?_
 refine dv (AW.r ·) ?_
 refine dv (At.a 2 ·) ?_
 refine dv (At.c (spec_l1Long_spec  code 40 90 (by omega) (by omega)) Tryz.call142 true [] [] [] trivial ·) ?_
 refine Exists.elim (spec_l10DrawNet_spec  (⟨code, 0, r1_⟩ : Cur) (min (40 + (code.length : Int) / 4) 90) (by dsimp only; omega) (by omega)) fun r2_ hr2_ => ?_
 have qr2_ := hr2_.1
 try dsimp only at qr2_
 refine dv (At.c (hr2_.2) Tryz.call141 true [(1180, 0)] [(1280, 1), (1281, 2)] [] trivial ·) ?_
 refine Exists.elim qr2_.2.2 fun n hne => ?_
 have hns := hne.2.2.1
 have hnl := hne.2.1
 have hno := hne.1
 refine dv (At.z 5 ·) ?_
 refine dv (AW.r ·) ?_
 refine dv (At.a 4 ·) ?_
 refine dv (At.sL 20 encRaft r2_.2.2.1 ·) ?_
 refine Exists.elim (spec_l1Below_spec  (⟨code, r2_.1, r2_.2.1⟩ : Cur) (r2_.2.2.1.length : Int) (by dsimp only; omega)) fun r3_ hr3_ => ?_
 have qr3_ := hr3_.1
 try dsimp only at qr3_
 refine dv (At.c (hr3_.2) Tryz.call143 true [(1180, 0)] [] [] trivial ·) ?_
 refine dv (At.iRf 142 22 (.tmp 17) (.tmp 21) 1280 (r2_.2.2.1.map encRaft) .i64 r3_.2.2 29 10 (by omega) (by simp only [List.length_map]; omega) ·) ?_
 refine Exists.elim (gE r2_.2.2.1 ((r3_.2.2).toNat) (by omega)) fun e1 he1 => ?_
 have hye1 := hns _ (List.mem_of_getElem? he1)
 have hnne1 := hye1.nums
 have hsme1 := hnne1.2.2.2.2.2
 have hoke1 := hye1.1
 refine dv (At.ldO 29 23 (.tmp 22) 1280 29 10 (r2_.2.2.1.map encRaft) ((r3_.2.2).toNat) [(6, 5005), (7, 5006), (8, 5007), (9, 5008)] true 10 (encRaft e1) (.agg [.int .i64 e1.id, .int .i64 e1.of_, .int .i64 e1.role, .int .i64 e1.commit, .int .i64 e1.hard.term, .int .i64 e1.hard.vote, .ref 5005, .ref 5006, .ref 5007, .ref 5008]) (mapGet he1) ·) ?_
 refine dv (At.z 2 ·) ?_
 refine dv (AW.seq ·) ?_
 refine dv (AW.q 1 ·) ?_
 refine dv (AW.block ·) ?_
 refine DW.loopQ (fun (x : Nat × Nat × Raft) => match x with | (i, j, q) => Go.Sy.mk [.un, .un, .ptr 102 0 0, .ptr 1180 0 0, .ref 1280, .un, .ptr 106 0 0, .int .i64 (i : Int)] [(102, .box 29 [.int .i64 0, .int .i64 0, .int .i64 0, .int .i64 0, .int .i64 0, .int .i64 0, .ref 5001, .ref 5002, .ref 5003, .ref 5004]), (106, .box 29 [.int .i64 q.id, .int .i64 q.of_, .int .i64 q.role, .int .i64 q.commit, .int .i64 q.hard.term, .int .i64 q.hard.vote, .ref 5005, .ref 5006, .ref 5007, .ref 5008]), (1180, .box 141 [.sl false 1 (code.map encU8), .int .i64 r3_.1, .int .i64 r3_.2.1]), (1280, .holes 29 10 ((r2_.2.2.1.map encRaft).set j (.agg [.int .i64 q.id, .int .i64 q.of_, .int .i64 q.role, .int .i64 q.commit, .int .i64 q.hard.term, .int .i64 q.hard.vote, .un, .un, .un, .un])) j [(9, 5008), (8, 5007), (7, 5006), (6, 5005)]), (5001, .arr 45 6 []), (5002, .arr 3 1 []), (5003, .arr 3 1 []), (5004, .arr 3 1 []), (5005, .arr 45 6 (q.hard.log.map encEnt)), (5006, .arr 3 1 (q.yes.map encI)), (5007, .arr 3 1 (q.next.map encI)), (5008, .arr 3 1 (q.match_.map encI))]) (fun (x : Nat × Nat × Raft) => match x with | (i, j, q) => i ≤ (r2_.2.2.1).length ∧ (r2_.2.2.1)[j]? = some q) (fun (x : Nat × Nat × Raft) => match x with | (i, j, q) => (r2_.2.2.1).length - i) (0, ((r3_.2.2).toNat), e1) ⟨by omega, he1⟩ (Sub.o [(102, 102), (106, 106), (1180, 1180), (1280, 1280), (5001, 5001), (5002, 5002), (5003, 5003), (5004, 5004), (5005, 5005), (5006, 5006), (5007, 5007), (5008, 5008)] [false, false, true, true, true, false, true, true]) ?_
 rintro ⟨i, j, q⟩ ⟨hq1, hq2⟩ ih1
 have hokq := (hns _ (List.mem_of_getElem? hq2)).1
 refine dv (AW.seq ·) ?_
 refine dv (AW.r ·) ?_
 refine dv (At.a 3 ·) ?_
 refine dv (At.say 26 (.int .i64 ((((r2_.2.2.1.map encRaft).set j (.agg [.int .i64 q.id, .int .i64 q.of_, .int .i64 q.role, .int .i64 q.commit, .int .i64 q.hard.term, .int .i64 q.hard.vote, .un, .un, .un, .un])).length : Nat) : Int)) (.int .i64 (r2_.2.2.1.length : Int)) (by kernel_rfl) (congrArg (V.int .i64) (by rw [List.length_set, List.length_map])) ·) ?_
 refine dv (At.z 1 ·) ?_
 by_cases h1 : (i : Int) < (r2_.2.2.1.length : Int)
 · refine dv (AW.condT (decide ((i : Int) < (r2_.2.2.1.length : Int))) (by kernel_rfl) (decide_eq_true h1) ·) ?_
   refine dv (AW.skip ·) ?_
   refine dv (AW.seq ·) ?_
   refine dv (AW.block ·) ?_
   refine dv (AW.r ·) ?_
   refine dv (At.a 2 ·) ?_
   refine dv (At.idxH 142 32 (.tmp 30) (.tmp 31) 1280 ((r2_.2.2.1.map encRaft).set j (.agg [.int .i64 q.id, .int .i64 q.of_, .int .i64 q.role, .int .i64 q.commit, .int .i64 q.hard.term, .int .i64 q.hard.vote, .un, .un, .un, .un])) j [(9, 5008), (8, 5007), (7, 5006), (6, 5005)] .i64 ((i : Int)) 29 10 (by omega) (by rw [List.length_set, List.length_map]; omega) ·) ?_
   refine dv (At.a 1 ·) ?_
   refine Exists.elim (gE r2_.2.2.1 i (by omega)) fun e2 he2 => ?_
   have hye2 := hns _ (List.mem_of_getElem? he2)
   have hnne2 := hye2.nums
   have hsme2 := hnne2.2.2.2.2.2
   have hoke2 := hye2.1
   refine Exists.elim (cell_at (f := encRaft) (y' := .agg [.int .i64 q.id, .int .i64 q.of_, .int .i64 q.role, .int .i64 q.commit, .int .i64 q.hard.term, .int .i64 q.hard.vote, .un, .un, .un, .un]) (m := 1) (off := 2) (v := .int .i64 e2.role) he2 hq2 (by kernel_rfl) (fun _ h => h)) fun y3 hy3 => ?_
   refine dv (At.ldHo 3 34 (.tmp 33) 1280 29 10 ((r2_.2.2.1.map encRaft).set j (.agg [.int .i64 q.id, .int .i64 q.of_, .int .i64 q.role, .int .i64 q.commit, .int .i64 q.hard.term, .int .i64 q.hard.vote, .un, .un, .un, .un])) j [(9, 5008), (8, 5007), (7, 5006), (6, 5005)] i 2 false 1 y3 (.int .i64 e2.role) hy3.1 · (hv := hy3.2)) ?_
   refine dv (At.z 1 ·) ?_
   by_cases h2 : e2.role = 3
   · refine dv (AW.condT (e2.role == 3) (by kernel_rfl) (beq_iff_eq.2 h2) ·) ?_
     refine dv (AW.weak (Sub.closeL 1280 j 29 10 ((r2_.2.2.1.map encRaft).set j (.agg [.int .i64 q.id, .int .i64 q.of_, .int .i64 q.role, .int .i64 q.commit, .int .i64 q.hard.term, .int .i64 q.hard.vote, .un, .un, .un, .un])) (r2_.2.2.1.map encRaft) [(9, 5008), (8, 5007), (7, 5006), (6, 5005)] (.agg [.int .i64 q.id, .int .i64 q.of_, .int .i64 q.role, .int .i64 q.commit, .int .i64 q.hard.term, .int .i64 q.hard.vote, .un, .un, .un, .un]) (encRaft q) [(3, 1, (q.match_.map encI)), (3, 1, (q.next.map encI)), (3, 1, (q.yes.map encI)), (45, 6, (q.hard.log.map encEnt))] (by kernel_rfl) (setGet (mapGet hq2)) (by kernel_rfl) (by kernel_rfl) (by intro p hp; simp only [List.mem_cons, List.not_mem_nil, or_false] at hp; rcases hp with rfl | rfl | rfl | rfl; all_goals first | exact flatEnts | exact flatInts | (intro x hx; cases hx)) (by kernel_rfl) (by kernel_rfl) (by rw [List.set_set]; exact set_self (mapGet hq2))) ·) ?_
     refine dv (AW.weak (Sub.openL 1280 i 29 10 (r2_.2.2.1.map encRaft) (encRaft e2) [(6, 5009), (7, 5010), (8, 5011), (9, 5012)] (by kernel_rfl) (mapGet he2) (by kernel_rfl)) ·) ?_
     refine dv (AW.g ·) ?_
     refine dv (At.a 2 ·) ?_
     refine dv (At.idxH 142 38 (.tmp 36) (.tmp 37) 1280 ((r2_.2.2.1.map encRaft).set i (.agg [.int .i64 e2.id, .int .i64 e2.of_, .int .i64 e2.role, .int .i64 e2.commit, .int .i64 e2.hard.term, .int .i64 e2.hard.vote, .un, .un, .un, .un])) i [(9, 5012), (8, 5011), (7, 5010), (6, 5009)] .i64 ((i : Int)) 29 10 (by omega) (by rw [List.length_set, List.length_map]; omega) ·) ?_
     refine dv (At.ldH 29 39 (.tmp 38) 1280 29 10 ((r2_.2.2.1.map encRaft).set i (.agg [.int .i64 e2.id, .int .i64 e2.of_, .int .i64 e2.role, .int .i64 e2.commit, .int .i64 e2.hard.term, .int .i64 e2.hard.vote, .un, .un, .un, .un])) i [(9, 5012), (8, 5011), (7, 5010), (6, 5009)] 0 true 10 (.agg [.int .i64 e2.id, .int .i64 e2.of_, .int .i64 e2.role, .int .i64 e2.commit, .int .i64 e2.hard.term, .int .i64 e2.hard.vote, .un, .un, .un, .un]) (.agg [.int .i64 e2.id, .int .i64 e2.of_, .int .i64 e2.role, .int .i64 e2.commit, .int .i64 e2.hard.term, .int .i64 e2.hard.vote, .ref 5009, .ref 5010, .ref 5011, .ref 5012]) (setGet (mapGet he2)) ·) ?_
     refine dv (At.z 1 ·) ?_
     refine dv (AW.g ·) ?_
     refine dv (At.a 2 ·) ?_
     refine dv (At.sI 29 ((i : Int) + 1) (by omega) ·) ?_
     refine dv (At.z 1 ·) ?_
     exact dw (fun _ h_ => AWL.weak (Sub.o [(102, 102), (106, 106), (1180, 1180), (1280, 1280), (5001, 5001), (5002, 5002), (5003, 5003), (5004, 5004), (5009, 5005), (5010, 5006), (5011, 5007), (5012, 5008)] [false, false, true, true, true, false, true, true]) h_) (ih1 (i + 1, i, e2) (⟨by omega, he2⟩) (by simp only; omega))
   refine dv (AW.condF (e2.role == 3) (by kernel_rfl) (beq_eq_false_iff_ne.2 h2) ·) ?_
   refine dv (AW.skip ·) ?_
   refine dv (AW.g ·) ?_
   refine dv (At.a 2 ·) ?_
   refine dv (At.sI 29 ((i : Int) + 1) (by omega) ·) ?_
   refine dv (At.z 1 ·) ?_
   exact dw (fun _ h_ => AWL.weak (Sub.o [(102, 102), (106, 106), (1180, 1180), (1280, 1280), (5001, 5001), (5002, 5002), (5003, 5003), (5004, 5004), (5005, 5005), (5006, 5006), (5007, 5007), (5008, 5008)] [false, false, true, true, true, false, true, true]) h_) (ih1 (i + 1, j, q) (⟨by omega, hq2⟩) (by simp only; omega))
 refine dv (AW.condF (decide ((i : Int) < (r2_.2.2.1.length : Int))) (by kernel_rfl) (decide_eq_false h1) ·) ?_
 refine dv (AW.exit ·) ?_
 refine dv (AW.r ·) ?_
 refine dv (At.a 2 ·) ?_
 refine Exists.elim (spec_l10Spoil_spec  (⟨code, r3_.1, r3_.2.1⟩ : Cur) q (by dsimp only; omega) (by assumption)) fun r4_ hr4_ => ?_
 have qr4_ := hr4_.1
 try dsimp only at qr4_
 refine dv (At.c (hr4_.2) Tryz.call146 true [(1180, 0), (5005, 1), (5006, 2), (5007, 3), (5008, 4)] [(1840, 5), (1841, 6), (1842, 7), (1843, 8)] [] trivial ·) ?_
 have hsp := qr4_.2.2
 refine dv (At.z 1 ·) ?_
 refine dv (AW.ret ·) ?_
 refine dv (⟨_, Sub.refl _ _, ·⟩) ?_
 exact ⟨(r4_.2.2), hsp, KF.mk (.inr rfl) [(1840, 0), (1841, 1), (1842, 2), (1843, 3)] [.agg [.int .i64 r4_.2.2.id, .int .i64 r4_.2.2.of_, .int .i64 r4_.2.2.role, .int .i64 r4_.2.2.commit, .int .i64 r4_.2.2.hard.term, .int .i64 r4_.2.2.hard.vote, .ref 1840, .ref 1841, .ref 1842, .ref 1843]] (by kernel_rfl) (by kernel_rfl) (by kernel_rfl) (by kernel_rfl) (by kernel_rfl)⟩
theorem spec_DrawRaftPropose_spec  (code : List UInt8) (hc : code.length ≤ 1048576) : ∃ rho_ : Raft × Cmd, (SmallR rho_.1) ∧ FnSpec Tryz.prog 31 [.sl false 1 (code.map encU8)] [] (.tup [.agg [.int .i64 rho_.1.id, .int .i64 rho_.1.of_, .int .i64 rho_.1.role, .int .i64 rho_.1.commit, .int .i64 rho_.1.hard.term, .int .i64 rho_.1.hard.vote, .ref 0, .ref 1, .ref 2, .ref 3], .agg [.int .i64 rho_.2.kind, .int .i64 rho_.2.release, .int .i64 rho_.2.node, .int .i64 rho_.2.size, .str rho_.2.digest]]) [.arr 45 6 (rho_.1.hard.log.map encEnt), .arr 3 1 (rho_.1.yes.map encI), .arr 3 1 (rho_.1.next.map encI), .arr 3 1 (rho_.1.match_.map encI)] := by
 refine dv (fun h_ => FnSpec.of 11 Tryz.func31 rfl Tryz.ntmps31 (by simp) (AW.weakK h_)) ?_
 refine dv (AW.q 2 ·) ?_
 refine dv (AW.seq ·) ?_
 refine dv (AW.weak (Sub.nils [⟨true, 102, some 6, 5001, 45, 6⟩, ⟨true, 102, some 7, 5002, 3, 1⟩, ⟨true, 102, some 8, 5003, 3, 1⟩, ⟨true, 102, some 9, 5004, 3, 1⟩] (by kernel_rfl)) ·) ?_
 refine dv (AW.g ·) ?_
 refine dv (At.a 1 ·) ?_
 refine Exists.elim (spec_l10DrawLeader_spec  code hc) fun r1_ hr1_ => ?_
 have qr1_ := hr1_.1
 try dsimp only at qr1_
 refine dv (At.c (hr1_.2) Tryz.call79 true [] [(1120, 0), (1121, 1), (1122, 2), (1123, 3)] [] trivial ·) ?_
 refine dv (At.z 2 ·) ?_
 refine dv (AW.seq ·) ?_
 refine dv (AW.gD Tryz_mix ·) ?_
 refine dv (At.a 2 ·) ?_
 refine Exists.elim (spec_l1New_spec  code (by omega)) fun r2_ hr2_ => ?_
 have qr2_ := hr2_.1
 try dsimp only at qr2_
 refine dv (At.c (hr2_.2) Tryz.call56 true [] [(1180, 0)] [] trivial ·) ?_
 refine Exists.elim (spec_l5DrawCmd_spec  (⟨code, 0, r2_⟩ : Cur) (by dsimp only; omega)) fun r3_ hr3_ => ?_
 have qr3_ := hr3_.1
 try dsimp only at qr3_
 refine dv (At.c (hr3_.2) Tryz.call100 true [(1180, 0)] [] [] trivial ·) ?_
 refine dv (At.zD 2 ·) ?_
 refine dv (AW.ret ·) ?_
 refine dv (⟨_, Sub.refl _ _, ·⟩) ?_
 exact ⟨(r1_, r3_.2.2), qr1_, KF.mk (.inr rfl) [(1120, 0), (1121, 1), (1122, 2), (1123, 3)] [.agg [.int .i64 r1_.id, .int .i64 r1_.of_, .int .i64 r1_.role, .int .i64 r1_.commit, .int .i64 r1_.hard.term, .int .i64 r1_.hard.vote, .ref 1120, .ref 1121, .ref 1122, .ref 1123], .agg [.int .i64 r3_.2.2.kind, .int .i64 r3_.2.2.release, .int .i64 r3_.2.2.node, .int .i64 r3_.2.2.size, .str r3_.2.2.digest]] (by kernel_rfl) (by kernel_rfl) (by kernel_rfl) (by kernel_rfl) (by kernel_rfl)⟩
def K_impl_RaftPropose (rs : List ResultVar) (r : Raft) (c : Cmd) (w0_ : Raft) (w1_ : List Rec) (w2_ : List Out) (w3_ : Bool) : Exit → Sg → Prop := KF Tryz.prog 0 rs (.tup [.agg [.int .i64 w0_.id, .int .i64 w0_.of_, .int .i64 w0_.role, .int .i64 w0_.commit, .int .i64 w0_.hard.term, .int .i64 w0_.hard.vote, .ref 0, .ref 1, .ref 2, .ref 3], .ref 4, .ref 5, .bool w3_]) [.arr 45 6 (w0_.hard.log.map encEnt), .arr 3 1 (w0_.yes.map encI), .arr 3 1 (w0_.next.map encI), .arr 3 1 (w0_.match_.map encI), .arr 47 10 (w1_.map encRec), .arr 51 17 (w2_.map encOut)]
theorem impl_RaftPropose_spec  (r : Raft) (c : Cmd) (hz : SmallR r) : FnSpec Tryz.prog 32 [(raftA r), .agg [.int .i64 c.kind, .int .i64 c.release, .int .i64 c.node, .int .i64 c.size, .str c.digest]] [] (.tup [.agg [.int .i64 ((propR r c).id), .int .i64 ((propR r c).of_), .int .i64 ((propR r c).role), .int .i64 ((propR r c).commit), .int .i64 ((propR r c).hard.term), .int .i64 ((propR r c).hard.vote), .ref 0, .ref 1, .ref 2, .ref 3], .ref 4, .ref 5, .bool (propOk r c)]) [.arr 45 6 (((propR r c).hard.log).map encEnt), .arr 3 1 (((propR r c).yes).map encI), .arr 3 1 (((propR r c).next).map encI), .arr 3 1 (((propR r c).match_).map encI), .arr 47 10 ((propRecs r c).map encRec), .arr 51 17 ((propOuts r c).map encOut)] := by
 obtain ⟨z1, z2, z3, z4⟩ := id hz
 refine FnSpec.of 64 Tryz.func32 rfl Tryz.ntmps32 (by simp) (AW.weakK ?_)
 by_cases hok : raftOk r = true
 · have hokn := raftOk1_nums (raftOk_1 hok)
   refine AW.q 6 ?_
   refine AW.seq ?_
   refine AW.weak (Sub.nils [⟨true, 104, some 6, 5001, 45, 6⟩, ⟨true, 104, some 7, 5002, 3, 1⟩, ⟨true, 104, some 8, 5003, 3, 1⟩, ⟨true, 104, some 9, 5004, 3, 1⟩] (by kernel_rfl)) ?_
   refine AW.g ?_
   refine At.a 1 ?_
   refine At.c (impl_stepOf_spec  r (by exact hz)) Tryz.call80 true [] [(1320, 0), (1321, 1), (1322, 2), (1323, 3), (1324, 4), (1325, 5), (1326, 6)] [] trivial ?_
   refine At.z 1 ?_
   refine AW.seq ?_
   refine AW.r ?_
   refine At.a 1 ?_
   refine At.c (impl_RaftOk_spec  r (by exact hz)) Tryz.call19 true [] [] [] trivial ?_
   refine At.a 2 ?_
   refine At.sB 20 (!(raftOk r)) false (sayB (by rw [show (raftOk r) = true from hok]; rfl)) ?_
   refine At.a 5 ?_
   by_cases h1 : r.role = 3
   · refine At.sB 25 _ _ (sayUF h1) ?_
     have hnx := raftOk_next hok h1
     refine At.a 1 ?_
     refine At.c (impl_CmdOk_spec  c ) Tryz.call101 true [] [] [] trivial ?_
     refine At.a 3 ?_
     by_cases h2 : (cmdOk c) = true
     · refine At.sB 30 (!(cmdOk c)) false (sayNF (sayB h2)) ?_
       refine At.a 4 ?_
       refine At.sL 34 encEnt r.hard.log ?_
       refine At.z 2 ?_
       refine AW.cD ((r.hard.log.length : Int) ≥ 80) (fun h3 => ?_) (fun h3 => ?_)
       · refine AW.r ?_
         refine At.a 1 ?_
         refine At.c (impl_stepper_none_T_spec  (⟨r, r, [], []⟩ : Stepper) (by exact hz) hok) Tryz.call88 true [(1320, 0), (1321, 1), (1322, 2), (1323, 3), (1324, 4), (1325, 5), (1326, 6)] [(1780, 7), (1781, 8), (1782, 9), (1783, 10), (1784, 11), (1785, 12)] [] trivial ?_
         refine At.z 8 ?_
         refine AW.q 5 ?_
         refine AW.ret ?_
         refine ⟨_, Sub.nils [⟨false, 5, none, 5005, 47, 10⟩, ⟨false, 6, none, 5006, 51, 17⟩] (by kernel_rfl), ?_⟩
         exact k4 (K_impl_RaftPropose _ r c) (show (r) = (propR r c) from by have q : propOk r c = false := (by grind [propOk]); simp [propR, propRecs, propOuts, same, hok, q]) (show ([]) = (propRecs r c) from by have q : propOk r c = false := (by grind [propOk]); simp [propR, propRecs, propOuts, same, hok, q]) (show ([]) = (propOuts r c) from by have q : propOk r c = false := (by grind [propOk]); simp [propR, propRecs, propOuts, same, hok, q]) (show (false) = (propOk r c) from by have q : propOk r c = false := (by grind [propOk]); simp [propR, propRecs, propOuts, same, hok, q]) (KF.n [(1780, 0), (1781, 1), (1782, 2), (1783, 3), (5005, 4), (5006, 5)])
       refine AW.skip ?_
       refine AW.r ?_
       refine At.a 6 ?_
       refine At.c (impl_stepper_put_spec  (⟨r, r, [], []⟩ : Stepper) (⟨r.hard.term, c⟩ : Ent) (by omega) (by simp only [List.length_map, List.length_append, List.length_take, List.length_drop, List.length_replicate, List.length_set, List.length_cons, List.length_nil]; omega)) Tryz.call102 true [(1320, 0), (1321, 1), (1322, 2), (1323, 3), (1324, 4), (1325, 5), (1326, 6)] [(2000, 7), (2001, 8)] [] trivial ?_
       refine At.done rfl ?_
       refine AW.r ?_
       refine At.a 1 ?_
       refine At.c (impl_stepper_had_spec  (⟨⟨r.id, r.of_, r.role, r.commit, ⟨r.hard.term, r.hard.vote, r.hard.log ++ [(⟨r.hard.term, c⟩ : Ent)]⟩, r.yes, r.next, r.match_⟩, r, ([]) ++ [(⟨2, 0, 0, ((r.hard.log ++ [(⟨r.hard.term, c⟩ : Ent)]).length : Int), (⟨r.hard.term, c⟩ : Ent)⟩ : Rec)], []⟩ : Stepper) (by dsimp only; omega)) Tryz.call103 true [(1320, 0), (2000, 1), (1322, 2), (1323, 3), (1324, 4), (2001, 5), (1326, 6)] [] [] trivial ?_
       refine At.done rfl ?_
       refine AW.r ?_
       refine At.a 1 ?_
       refine At.c (impl_stepper_sendAll_spec  (⟨⟨r.id, r.of_, r.role, if r.of_ = 1 then ((r.hard.log ++ [(⟨r.hard.term, c⟩ : Ent)]).length : Int) else r.commit, ⟨r.hard.term, r.hard.vote, r.hard.log ++ [(⟨r.hard.term, c⟩ : Ent)]⟩, r.yes, r.next, r.match_.set (r.id).toNat ((r.hard.log ++ [(⟨r.hard.term, c⟩ : Ent)]).length : Int)⟩, r, ([]) ++ [(⟨2, 0, 0, ((r.hard.log ++ [(⟨r.hard.term, c⟩ : Ent)]).length : Int), (⟨r.hard.term, c⟩ : Ent)⟩ : Rec)], []⟩ : Stepper) (by unfold SmallR; simp only [List.length_append, List.length_set, List.length_cons, List.length_nil]; omega) (by dsimp only; omega) (by dsimp only; omega) (had_next (e := propE r c) hnx.2.1) (by simp only [List.length_map, List.length_append, List.length_take, List.length_drop, List.length_replicate, List.length_set, List.length_cons, List.length_nil]; omega)) Tryz.call81 true [(1320, 0), (2000, 1), (1322, 2), (1323, 3), (1324, 4), (2001, 5), (1326, 6)] [(2080, 7)] [] trivial ?_
       refine At.done rfl ?_
       refine AW.r ?_
       refine At.a 1 ?_
       refine At.c (impl_stepper_end_spec  (⟨⟨r.id, r.of_, r.role, if r.of_ = 1 then ((r.hard.log ++ [(⟨r.hard.term, c⟩ : Ent)]).length : Int) else r.commit, ⟨r.hard.term, r.hard.vote, r.hard.log ++ [(⟨r.hard.term, c⟩ : Ent)]⟩, r.yes, r.next, r.match_.set (r.id).toNat ((r.hard.log ++ [(⟨r.hard.term, c⟩ : Ent)]).length : Int)⟩, r, ([]) ++ [(⟨2, 0, 0, ((r.hard.log ++ [(⟨r.hard.term, c⟩ : Ent)]).length : Int), (⟨r.hard.term, c⟩ : Ent)⟩ : Rec)], ([]) ++ sendAll (⟨r.id, r.of_, r.role, if r.of_ = 1 then ((r.hard.log ++ [(⟨r.hard.term, c⟩ : Ent)]).length : Int) else r.commit, ⟨r.hard.term, r.hard.vote, r.hard.log ++ [(⟨r.hard.term, c⟩ : Ent)]⟩, r.yes, r.next, r.match_.set (r.id).toNat ((r.hard.log ++ [(⟨r.hard.term, c⟩ : Ent)]).length : Int)⟩)⟩ : Stepper) (by simp only [List.length_map, List.length_append, List.length_take, List.length_drop, List.length_replicate, List.length_set, List.length_cons, List.length_nil]; omega)) Tryz.call90 true [(1320, 0), (2000, 1), (1322, 2), (1323, 3), (1324, 4), (2001, 5), (2080, 6)] [(2140, 7)] [] trivial ?_
       refine At.z 8 ?_
       refine AW.q 7 ?_
       exact AW.ret (rf (k4 (K_impl_RaftPropose _ r c) (show ((⟨r.id, r.of_, r.role, if r.of_ = 1 then ((r.hard.log ++ [(⟨r.hard.term, c⟩ : Ent)]).length : Int) else r.commit, ⟨r.hard.term, r.hard.vote, r.hard.log ++ [(⟨r.hard.term, c⟩ : Ent)]⟩, r.yes, r.next, r.match_.set (r.id).toNat ((r.hard.log ++ [(⟨r.hard.term, c⟩ : Ent)]).length : Int)⟩ : Raft)) = (propR r c) from by have q : propOk r c = true := (by grind [propOk]); first | exact q.symm | (simp only [propR, propRecs, propOuts, if_pos q]; done) | (simp only [propR, propRecs, propOuts, if_pos q]; first | rfl | (simp [endRecs, had, put, propE, putRec, h1, h2, h3]; done) | simp [endRecs, had, put, propE, putRec])) (show (endRecs (⟨⟨r.id, r.of_, r.role, if r.of_ = 1 then ((r.hard.log ++ [(⟨r.hard.term, c⟩ : Ent)]).length : Int) else r.commit, ⟨r.hard.term, r.hard.vote, r.hard.log ++ [(⟨r.hard.term, c⟩ : Ent)]⟩, r.yes, r.next, r.match_.set (r.id).toNat ((r.hard.log ++ [(⟨r.hard.term, c⟩ : Ent)]).length : Int)⟩, r, ([]) ++ [(⟨2, 0, 0, ((r.hard.log ++ [(⟨r.hard.term, c⟩ : Ent)]).length : Int), (⟨r.hard.term, c⟩ : Ent)⟩ : Rec)], ([]) ++ sendAll (⟨r.id, r.of_, r.role, if r.of_ = 1 then ((r.hard.log ++ [(⟨r.hard.term, c⟩ : Ent)]).length : Int) else r.commit, ⟨r.hard.term, r.hard.vote, r.hard.log ++ [(⟨r.hard.term, c⟩ : Ent)]⟩, r.yes, r.next, r.match_.set (r.id).toNat ((r.hard.log ++ [(⟨r.hard.term, c⟩ : Ent)]).length : Int)⟩)⟩ : Stepper)) = (propRecs r c) from by have q : propOk r c = true := (by grind [propOk]); first | exact q.symm | (simp only [propR, propRecs, propOuts, if_pos q]; done) | (simp only [propR, propRecs, propOuts, if_pos q]; first | rfl | (simp [endRecs, had, put, propE, putRec, h1, h2, h3]; done) | simp [endRecs, had, put, propE, putRec])) (show (([]) ++ sendAll (⟨r.id, r.of_, r.role, if r.of_ = 1 then ((r.hard.log ++ [(⟨r.hard.term, c⟩ : Ent)]).length : Int) else r.commit, ⟨r.hard.term, r.hard.vote, r.hard.log ++ [(⟨r.hard.term, c⟩ : Ent)]⟩, r.yes, r.next, r.match_.set (r.id).toNat ((r.hard.log ++ [(⟨r.hard.term, c⟩ : Ent)]).length : Int)⟩)) = (propOuts r c) from by have q : propOk r c = true := (by grind [propOk]); first | exact q.symm | (simp only [propR, propRecs, propOuts, if_pos q]; done) | (simp only [propR, propRecs, propOuts, if_pos q]; first | rfl | (simp [endRecs, had, put, propE, putRec, h1, h2, h3]; done) | simp [endRecs, had, put, propE, putRec])) (show (true) = (propOk r c) from by have q : propOk r c = true := (by grind [propOk]); first | exact q.symm | (simp only [propR, propRecs, propOuts, if_pos q]; done) | (simp only [propR, propRecs, propOuts, if_pos q]; first | rfl | (simp [endRecs, had, put, propE, putRec, h1, h2, h3]; done) | simp [endRecs, had, put, propE, putRec])) (KF.n [(2000, 0), (1322, 1), (1323, 2), (1324, 3), (2140, 4), (2080, 5)])))
     refine At.sB 30 (!(cmdOk c)) true (sayNT (sayB (Bool.eq_false_iff.2 h2))) ?_
     replace h2 := Bool.eq_false_iff.2 h2
     refine At.z 6 ?_
     refine AW.cond true (by kernel_rfl) (fun _ => ?_) (fun h => by cases h)
     refine AW.r ?_
     refine At.a 1 ?_
     refine At.c (impl_stepper_none_T_spec  (⟨r, r, [], []⟩ : Stepper) (by exact hz) hok) Tryz.call88 true [(1320, 0), (1321, 1), (1322, 2), (1323, 3), (1324, 4), (1325, 5), (1326, 6)] [(1780, 7), (1781, 8), (1782, 9), (1783, 10), (1784, 11), (1785, 12)] [] trivial ?_
     refine At.z 8 ?_
     refine AW.q 5 ?_
     refine AW.ret ?_
     refine ⟨_, Sub.nils [⟨false, 5, none, 5007, 47, 10⟩, ⟨false, 6, none, 5008, 51, 17⟩] (by kernel_rfl), ?_⟩
     exact k4 (K_impl_RaftPropose _ r c) (show (r) = (propR r c) from by have q : propOk r c = false := (by grind [propOk]); simp [propR, propRecs, propOuts, same, hok, q]) (show ([]) = (propRecs r c) from by have q : propOk r c = false := (by grind [propOk]); simp [propR, propRecs, propOuts, same, hok, q]) (show ([]) = (propOuts r c) from by have q : propOk r c = false := (by grind [propOk]); simp [propR, propRecs, propOuts, same, hok, q]) (show (false) = (propOk r c) from by have q : propOk r c = false := (by grind [propOk]); simp [propR, propRecs, propOuts, same, hok, q]) (KF.n [(1780, 0), (1781, 1), (1782, 2), (1783, 3), (5007, 4), (5008, 5)])
   refine At.sB 25 _ _ (sayUT h1) ?_
   refine At.z 11 ?_
   refine AW.cond true (by kernel_rfl) (fun _ => ?_) (fun h => by cases h)
   refine AW.r ?_
   refine At.a 1 ?_
   refine At.c (impl_stepper_none_T_spec  (⟨r, r, [], []⟩ : Stepper) (by exact hz) hok) Tryz.call88 true [(1320, 0), (1321, 1), (1322, 2), (1323, 3), (1324, 4), (1325, 5), (1326, 6)] [(1780, 7), (1781, 8), (1782, 9), (1783, 10), (1784, 11), (1785, 12)] [] trivial ?_
   refine At.z 8 ?_
   refine AW.q 5 ?_
   refine AW.ret ?_
   refine ⟨_, Sub.nils [⟨false, 5, none, 5009, 47, 10⟩, ⟨false, 6, none, 5010, 51, 17⟩] (by kernel_rfl), ?_⟩
   exact k4 (K_impl_RaftPropose _ r c) (show (r) = (propR r c) from by have q : propOk r c = false := (by grind [propOk]); simp [propR, propRecs, propOuts, same, hok, q]) (show ([]) = (propRecs r c) from by have q : propOk r c = false := (by grind [propOk]); simp [propR, propRecs, propOuts, same, hok, q]) (show ([]) = (propOuts r c) from by have q : propOk r c = false := (by grind [propOk]); simp [propR, propRecs, propOuts, same, hok, q]) (show (false) = (propOk r c) from by have q : propOk r c = false := (by grind [propOk]); simp [propR, propRecs, propOuts, same, hok, q]) (KF.n [(1780, 0), (1781, 1), (1782, 2), (1783, 3), (5009, 4), (5010, 5)])
 refine AW.q 6 ?_
 refine AW.seq ?_
 refine AW.weak (Sub.nils [⟨true, 104, some 6, 5001, 45, 6⟩, ⟨true, 104, some 7, 5002, 3, 1⟩, ⟨true, 104, some 8, 5003, 3, 1⟩, ⟨true, 104, some 9, 5004, 3, 1⟩] (by kernel_rfl)) ?_
 refine AW.g ?_
 refine At.a 1 ?_
 refine At.c (impl_stepOf_spec  r (by exact hz)) Tryz.call80 true [] [(1320, 0), (1321, 1), (1322, 2), (1323, 3), (1324, 4), (1325, 5), (1326, 6)] [] trivial ?_
 refine At.z 1 ?_
 refine AW.seq ?_
 refine AW.r ?_
 refine At.a 1 ?_
 refine At.c (impl_RaftOk_spec  r (by exact hz)) Tryz.call19 true [] [] [] trivial ?_
 refine At.a 2 ?_
 refine At.sB 20 (!(raftOk r)) true (sayB (by rw [show (raftOk r) = false from (Bool.eq_false_iff.2 hok)]; rfl)) ?_
 refine At.z 16 ?_
 refine AW.cond true (by kernel_rfl) (fun _ => ?_) (fun h => by cases h)
 refine AW.r ?_
 refine At.a 1 ?_
 refine At.c (impl_stepper_none_F_spec  (⟨r, r, [], []⟩ : Stepper) (by exact hz) hok) Tryz.call88 true [(1320, 0), (1321, 1), (1322, 2), (1323, 3), (1324, 4), (1325, 5), (1326, 6)] [(1780, 7), (1781, 8), (1782, 9), (1783, 10), (1784, 11), (1785, 12)] [] trivial ?_
 refine At.z 8 ?_
 refine AW.q 5 ?_
 refine AW.ret ?_
 refine ⟨_, Sub.nils [⟨false, 5, none, 5005, 47, 10⟩, ⟨false, 6, none, 5006, 51, 17⟩] (by kernel_rfl), ?_⟩
 exact k4 (K_impl_RaftPropose _ r c) (show ((⟨0, 0, 0, 0, ⟨0, 0, []⟩, [], [], []⟩ : Raft)) = (propR r c) from by simp [propR, propRecs, propOuts, propOk, same, hok]; try rfl) (show ([]) = (propRecs r c) from by simp [propR, propRecs, propOuts, propOk, same, hok]; try rfl) (show ([]) = (propOuts r c) from by simp [propR, propRecs, propOuts, propOk, same, hok]; try rfl) (show (false) = (propOk r c) from by simp [propR, propRecs, propOuts, propOk, same, hok]; try rfl) (KF.n [(1780, 0), (1781, 1), (1782, 2), (1783, 3), (5005, 4), (5006, 5)])
theorem laws_FnStands_spec  (code : List UInt8) (hc : code.length ≤ 9223372036854775807) : FnSpec Tryz.prog 5 [.sl false 1 (code.map encU8)] [] (.bool true) [] := by
 refine FnSpec.of 158 Tryz.func5 rfl Tryz.ntmps5 (by simp) (AW.weakK ?_)
 refine AW.q 1 ?_
 refine AW.seq ?_
 refine AW.r ?_
 refine At.a 1 ?_
 refine At.c (laws_big_spec  code hc) Tryz.call11 true [] [] [] trivial ?_
 refine At.done rfl ?_
 refine AW.cD ((code.length : Int) > 1048576) (fun h1 => ?_) (fun h1 => ?_)
 · refine AW.q 1 ?_
   exact AW.ret (rf (KF.n []))
 refine AW.skip ?_
 refine AW.r ?_
 refine At.a 1 ?_
 refine Exists.elim (spec_DrawRaftStand_spec  code (by omega)) fun r1_ hr1_ => ?_
 have qr1_ := hr1_.1
 try dsimp only at qr1_
 refine At.c (hr1_.2) Tryz.call28 true [] [(1480, 0), (1481, 1), (1482, 2), (1483, 3)] [] trivial ?_
 refine At.z 2 ?_
 refine AW.r ?_
 refine At.a 1 ?_
 refine At.c (impl_RaftStand_spec  r1_ (by exact qr1_)) Tryz.call29 false [] [(1540, 0), (1541, 1), (1542, 2), (1543, 3), (1544, 4), (1545, 5)] [(1480, 6, (r1_.hard.log.map encEnt)), (1481, 1, (r1_.yes.map encI)), (1482, 1, (r1_.next.map encI)), (1483, 1, (r1_.match_.map encI))] ⟨rfl, ⟨45, (r1_.hard.log.map encEnt), by kernel_rfl, FrzIs.same (allP_encEnt _)⟩, rfl, ⟨3, (r1_.yes.map encI), by kernel_rfl, FrzIs.same (allP_encI _)⟩, rfl, ⟨3, (r1_.next.map encI), by kernel_rfl, FrzIs.same (allP_encI _)⟩, rfl, ⟨3, (r1_.match_.map encI), by kernel_rfl, FrzIs.same (allP_encI _)⟩, trivial⟩ ?_
 refine At.z 8 ?_
 refine AW.r ?_
 refine At.a 1 ?_
 refine At.c (spec_RaftStand_spec  r1_ (by exact qr1_)) Tryz.call30 false [] [(1660, 0), (1661, 1), (1662, 2), (1663, 3), (1664, 4), (1665, 5)] [(1480, 6, (r1_.hard.log.map encEnt)), (1481, 1, (r1_.yes.map encI)), (1482, 1, (r1_.next.map encI)), (1483, 1, (r1_.match_.map encI))] ⟨rfl, ⟨45, (r1_.hard.log.map encEnt), by kernel_rfl, FrzIs.same (allP_encEnt _)⟩, rfl, ⟨3, (r1_.yes.map encI), by kernel_rfl, FrzIs.same (allP_encI _)⟩, rfl, ⟨3, (r1_.next.map encI), by kernel_rfl, FrzIs.same (allP_encI _)⟩, rfl, ⟨3, (r1_.match_.map encI), by kernel_rfl, FrzIs.same (allP_encI _)⟩, trivial⟩ ?_
 refine At.z 8 ?_
 refine AW.seq ?_
 refine AW.r ?_
 refine At.a 2 ?_
 refine At.sL 38 encRec ((stands r1_).2.1) ?_
 refine At.a 2 ?_
 refine At.sL 40 encRec ((stands r1_).2.1) ?_
 refine At.a 2 ?_
 refine At.sB 42 ((((stands r1_).2.1).length : Int) != (((stands r1_).2.1).length : Int)) false (sayB (bne_self_eq_false _)) ?_
 refine At.a 2 ?_
 refine At.sL 44 encOut ((stands r1_).2.2) ?_
 refine At.a 2 ?_
 refine At.sL 46 encOut ((stands r1_).2.2) ?_
 refine At.z 2 ?_
 refine AW.condF ((((stands r1_).2.2).length : Int) != (((stands r1_).2.2).length : Int)) (by kernel_rfl) (bne_self_eq_false _) ?_
 refine AW.skip ?_
 refine AW.seq ?_
 refine AW.r ?_
 refine At.a 2 ?_
 refine At.sL 50 encRec ((stands r1_).2.1) ?_
 refine At.a 2 ?_
 by_cases h2 : (((stands r1_).2.1).length : Int) > 0
 · refine At.sB 52 _ _ (sayT h2) ?_
   have hsl := stand_law h2
   refine At.a 7 ?_
   refine At.sI 59 (r1_.hard.term + 1) (by omega) ?_
   refine At.a 2 ?_
   refine At.sB 61 ((((stands r1_).1).hard.term) != (r1_.hard.term + 1)) false (sayB (by rw [bne_eq_false_iff_eq]; exact hsl.1.1)) ?_
   refine At.a 6 ?_
   refine At.sI 67 (r1_.id + 1) (by omega) ?_
   refine At.a 3 ?_
   refine At.sB 70 ((((stands r1_).1).hard.vote) != (r1_.id + 1)) false (sayB (by rw [bne_eq_false_iff_eq]; exact hsl.1.2.1)) ?_
   refine At.a 2 ?_
   refine At.sL 72 encOut ((stands r1_).2.2) ?_
   refine At.a 3 ?_
   refine At.sI 75 (r1_.of_ - 1) (by omega) ?_
   refine At.a 3 ?_
   refine At.sB 78 ((((stands r1_).2.2).length : Int) != (r1_.of_ - 1)) false (sayB (by rw [bne_eq_false_iff_eq]; exact hsl.1.2.2.1)) ?_
   refine At.a 1 ?_
   refine At.c (impl_RaftOk_spec  ((stands r1_).1) (by exact stands_small qr1_)) Tryz.call19 false [] [] [(1540, 6, ((((stands r1_).1).hard.log).map encEnt)), (1541, 1, ((((stands r1_).1).yes).map encI)), (1542, 1, ((((stands r1_).1).next).map encI)), (1543, 1, ((((stands r1_).1).match_).map encI))] ⟨rfl, ⟨45, ((((stands r1_).1).hard.log).map encEnt), by kernel_rfl, FrzIs.same (allP_encEnt _)⟩, rfl, ⟨3, ((((stands r1_).1).yes).map encI), by kernel_rfl, FrzIs.same (allP_encI _)⟩, rfl, ⟨3, ((((stands r1_).1).next).map encI), by kernel_rfl, FrzIs.same (allP_encI _)⟩, rfl, ⟨3, ((((stands r1_).1).match_).map encI), by kernel_rfl, FrzIs.same (allP_encI _)⟩, trivial⟩ ?_
   refine At.z 3 ?_
   refine AW.condF (!(raftOk ((stands r1_).1))) (by kernel_rfl) (by rw [show (raftOk ((stands r1_).1)) = true from hsl.1.2.2.2]; rfl) ?_
   refine AW.skip ?_
   refine AW.r ?_
   refine At.a 1 ?_
   refine Exists.elim (spec_DrawRaftPropose_spec  code (by omega)) fun r2_ hr2_ => ?_
   have qr2_ := hr2_.1
   try dsimp only at qr2_
   refine At.c (hr2_.2) Tryz.call31 true [] [(2720, 0), (2721, 1), (2722, 2), (2723, 3)] [] trivial ?_
   refine At.z 7 ?_
   refine AW.r ?_
   refine At.a 2 ?_
   refine At.c (impl_RaftPropose_spec  r2_.1 r2_.2 (by exact qr2_)) Tryz.call32 false [] [(2840, 0), (2841, 1), (2842, 2), (2843, 3), (2844, 4), (2845, 5)] [(2720, 6, (r2_.1.hard.log.map encEnt)), (2721, 1, (r2_.1.yes.map encI)), (2722, 1, (r2_.1.next.map encI)), (2723, 1, (r2_.1.match_.map encI))] ⟨rfl, ⟨45, (r2_.1.hard.log.map encEnt), by kernel_rfl, FrzIs.same (allP_encEnt _)⟩, rfl, ⟨3, (r2_.1.yes.map encI), by kernel_rfl, FrzIs.same (allP_encI _)⟩, rfl, ⟨3, (r2_.1.next.map encI), by kernel_rfl, FrzIs.same (allP_encI _)⟩, rfl, ⟨3, (r2_.1.match_.map encI), by kernel_rfl, FrzIs.same (allP_encI _)⟩, trivial⟩ ?_
   refine At.z 10 ?_
   refine AW.r ?_
   refine At.a 2 ?_
   refine At.c (spec_RaftPropose_spec  r2_.1 r2_.2 (by exact qr2_)) Tryz.call33 false [] [(3000, 0), (3001, 1), (3002, 2), (3003, 3), (3004, 4), (3005, 5)] [(2720, 6, (r2_.1.hard.log.map encEnt)), (2721, 1, (r2_.1.yes.map encI)), (2722, 1, (r2_.1.next.map encI)), (2723, 1, (r2_.1.match_.map encI))] ⟨rfl, ⟨45, (r2_.1.hard.log.map encEnt), by kernel_rfl, FrzIs.same (allP_encEnt _)⟩, rfl, ⟨3, (r2_.1.yes.map encI), by kernel_rfl, FrzIs.same (allP_encI _)⟩, rfl, ⟨3, (r2_.1.next.map encI), by kernel_rfl, FrzIs.same (allP_encI _)⟩, rfl, ⟨3, (r2_.1.match_.map encI), by kernel_rfl, FrzIs.same (allP_encI _)⟩, trivial⟩ ?_
   refine At.z 10 ?_
   refine AW.seq ?_
   refine AW.r ?_
   refine At.a 2 ?_
   refine At.eqB (t := 4) (u := 4) (d := 107) (op := .neq) (x := .tmp 105) (y := .tmp 106) (a := (propOk r2_.1 r2_.2)) (b := (propOk r2_.1 r2_.2)) (by kernel_rfl) (by kernel_rfl) (by kernel_rfl) (by kernel_rfl) (by kernel_rfl) (.bool (!((propOk r2_.1 r2_.2) == (propOk r2_.1 r2_.2)))) (.inr ⟨rfl, rfl⟩) ?_
   refine At.done rfl ?_
   refine AW.condF (!((propOk r2_.1 r2_.2) == (propOk r2_.1 r2_.2))) (by kernel_rfl) (by rw [show ((propOk r2_.1 r2_.2) == (propOk r2_.1 r2_.2)) = true from (beq_self_eq_true _)]; rfl) ?_
   refine AW.skip ?_
   refine AW.seq ?_
   refine AW.q 2 ?_
   refine AW.cNB (propOk r2_.1 r2_.2) (fun h3 => ?_) (fun h3 => ?_)
   · have hpn := prop_no h3
     refine AW.r ?_
     refine At.a 2 ?_
     refine At.sL 111 encRec (propRecs r2_.1 r2_.2) ?_
     refine At.a 2 ?_
     refine At.sB 113 (((propRecs r2_.1 r2_.2).length : Int) == 0) true (sayB (beq_iff_eq.2 hpn.1)) ?_
     refine At.a 2 ?_
     refine At.sL 115 encOut (propOuts r2_.1 r2_.2) ?_
     refine At.z 3 ?_
     refine AW.ret ?_
     refine ⟨_, Sub.refl _ _, ?_⟩
     refine KF.conv (fun w => .bool w) (fun w => []) (show (((propOuts r2_.1 r2_.2).length : Int) == 0) = (true) from by exact beq_iff_eq.2 hpn.2) ?_
     exact KF.n []
   have hpo := h3
   have hpl := prop_law h3
   have hln : ((propR r2_.1 r2_.2).hard.log.length : Int) = (r2_.1.hard.log.length : Int) + 1 := by rw [hpl.1, List.length_append]; rfl
   have hpb := hpl.2.2.2.2
   refine AW.skip ?_
   refine AW.r ?_
   refine At.a 4 ?_
   refine At.sL 121 encEnt ((propR r2_.1 r2_.2).hard.log) ?_
   refine At.z 1 ?_
   refine AW.seq ?_
   refine AW.gD Tryz_mix ?_
   refine At.a 5 ?_
   refine At.sL 126 encEnt r2_.1.hard.log ?_
   refine At.a 1 ?_
   refine At.sI 127 ((r2_.1.hard.log.length : Int) + 1) (by omega) ?_
   refine At.a 2 ?_
   refine At.sB 129 ((((propR r2_.1 r2_.2).hard.log).length : Int) == ((r2_.1.hard.log.length : Int) + 1)) true (sayB (beq_iff_eq.2 hln)) ?_
   refine At.a 5 ?_
   refine At.sI 134 ((((propR r2_.1 r2_.2).hard.log).length : Int) - 1) (by omega) ?_
   refine At.iRf 24 135 (.tmp 132) (.tmp 134) 2840 (((propR r2_.1 r2_.2).hard.log).map encEnt) .i64 ((((propR r2_.1 r2_.2).hard.log).length : Int) - 1) 45 6 (by omega) (by simp only [List.length_map]; omega) ?_
   refine At.a 1 ?_
   refine Exists.elim (gE ((propR r2_.1 r2_.2).hard.log) (((((propR r2_.1 r2_.2).hard.log).length : Int) - 1).toNat) (by omega)) fun e1 he1 => ?_
   refine At.lEl 31 137 (.tmp 136) 2840 45 6 (((propR r2_.1 r2_.2).hard.log).map encEnt) (((((propR r2_.1 r2_.2).hard.log).length : Int) - 1).toNat) 1 true 5 (encEnt e1) (.agg [.int .i64 e1.cmd.kind, .int .i64 e1.cmd.release, .int .i64 e1.cmd.node, .int .i64 e1.cmd.size, .str e1.cmd.digest]) (mapGet he1) ?_
   refine At.a 1 ?_
   refine At.eqA (t := 31) (u := 31) (d := 139) (op := .eql) (x := .tmp 137) (y := .tmp 138) (X := [.int .i64 e1.cmd.kind, .int .i64 e1.cmd.release, .int .i64 e1.cmd.node, .int .i64 e1.cmd.size, .str e1.cmd.digest]) (Y := [.int .i64 r2_.2.kind, .int .i64 r2_.2.release, .int .i64 r2_.2.node, .int .i64 r2_.2.size, .str r2_.2.digest]) (cmdEq e1.cmd r2_.2) (by kernel_rfl) (by kernel_rfl) (by kernel_rfl) (by kernel_rfl) (by kernel_rfl) (.bool (cmdEq e1.cmd r2_.2)) (.inl ⟨rfl, rfl⟩) ?_
   refine At.a 2 ?_
   refine At.sB 141 (cmdEq e1.cmd r2_.2) true (sayB (prop_last hpo rfl he1)) ?_
   refine At.a 2 ?_
   refine At.sL 143 encRec (propRecs r2_.1 r2_.2) ?_
   refine At.a 3 ?_
   refine At.sB 146 (((propRecs r2_.1 r2_.2).length : Int) == 1) true (sayB (beq_iff_eq.2 hpl.2.1)) ?_
   refine At.a 2 ?_
   refine At.sL 148 encOut (propOuts r2_.1 r2_.2) ?_
   refine At.a 3 ?_
   refine At.sI 151 (r2_.1.of_ - 1) (by omega) ?_
   refine At.a 3 ?_
   refine At.sB 154 (((propOuts r2_.1 r2_.2).length : Int) == (r2_.1.of_ - 1)) true (sayB (beq_iff_eq.2 hpl.2.2.1)) ?_
   refine At.a 1 ?_
   refine At.c (impl_RaftOk_spec  (propR r2_.1 r2_.2) (by exact propR_small _ qr2_)) Tryz.call19 false [] [] [(2840, 6, (((propR r2_.1 r2_.2).hard.log).map encEnt)), (2841, 1, (((propR r2_.1 r2_.2).yes).map encI)), (2842, 1, (((propR r2_.1 r2_.2).next).map encI)), (2843, 1, (((propR r2_.1 r2_.2).match_).map encI))] ⟨rfl, ⟨45, (((propR r2_.1 r2_.2).hard.log).map encEnt), by kernel_rfl, FrzIs.same (allP_encEnt _)⟩, rfl, ⟨3, (((propR r2_.1 r2_.2).yes).map encI), by kernel_rfl, FrzIs.same (allP_encI _)⟩, rfl, ⟨3, (((propR r2_.1 r2_.2).next).map encI), by kernel_rfl, FrzIs.same (allP_encI _)⟩, rfl, ⟨3, (((propR r2_.1 r2_.2).match_).map encI), by kernel_rfl, FrzIs.same (allP_encI _)⟩, trivial⟩ ?_
   refine At.zD 2 ?_
   refine AW.ret ?_
   refine ⟨_, Sub.refl _ _, ?_⟩
   refine KF.conv (fun w => .bool w) (fun w => []) (show (raftOk (propR r2_.1 r2_.2)) = (true) from by exact hpl.2.2.2.1) ?_
   exact KF.n []
 refine At.sB 52 _ _ (sayF h2) ?_
 refine At.z 31 ?_
 refine AW.cond false (by kernel_rfl) (fun h => by cases h) (fun _ => ?_)
 refine AW.skip ?_
 refine AW.r ?_
 refine At.a 1 ?_
 refine Exists.elim (spec_DrawRaftPropose_spec  code (by omega)) fun r2_ hr2_ => ?_
 have qr2_ := hr2_.1
 try dsimp only at qr2_
 refine At.c (hr2_.2) Tryz.call31 true [] [(2720, 0), (2721, 1), (2722, 2), (2723, 3)] [] trivial ?_
 refine At.z 7 ?_
 refine AW.r ?_
 refine At.a 2 ?_
 refine At.c (impl_RaftPropose_spec  r2_.1 r2_.2 (by exact qr2_)) Tryz.call32 false [] [(2840, 0), (2841, 1), (2842, 2), (2843, 3), (2844, 4), (2845, 5)] [(2720, 6, (r2_.1.hard.log.map encEnt)), (2721, 1, (r2_.1.yes.map encI)), (2722, 1, (r2_.1.next.map encI)), (2723, 1, (r2_.1.match_.map encI))] ⟨rfl, ⟨45, (r2_.1.hard.log.map encEnt), by kernel_rfl, FrzIs.same (allP_encEnt _)⟩, rfl, ⟨3, (r2_.1.yes.map encI), by kernel_rfl, FrzIs.same (allP_encI _)⟩, rfl, ⟨3, (r2_.1.next.map encI), by kernel_rfl, FrzIs.same (allP_encI _)⟩, rfl, ⟨3, (r2_.1.match_.map encI), by kernel_rfl, FrzIs.same (allP_encI _)⟩, trivial⟩ ?_
 refine At.z 10 ?_
 refine AW.r ?_
 refine At.a 2 ?_
 refine At.c (spec_RaftPropose_spec  r2_.1 r2_.2 (by exact qr2_)) Tryz.call33 false [] [(3000, 0), (3001, 1), (3002, 2), (3003, 3), (3004, 4), (3005, 5)] [(2720, 6, (r2_.1.hard.log.map encEnt)), (2721, 1, (r2_.1.yes.map encI)), (2722, 1, (r2_.1.next.map encI)), (2723, 1, (r2_.1.match_.map encI))] ⟨rfl, ⟨45, (r2_.1.hard.log.map encEnt), by kernel_rfl, FrzIs.same (allP_encEnt _)⟩, rfl, ⟨3, (r2_.1.yes.map encI), by kernel_rfl, FrzIs.same (allP_encI _)⟩, rfl, ⟨3, (r2_.1.next.map encI), by kernel_rfl, FrzIs.same (allP_encI _)⟩, rfl, ⟨3, (r2_.1.match_.map encI), by kernel_rfl, FrzIs.same (allP_encI _)⟩, trivial⟩ ?_
 refine At.z 10 ?_
 refine AW.seq ?_
 refine AW.r ?_
 refine At.a 2 ?_
 refine At.eqB (t := 4) (u := 4) (d := 107) (op := .neq) (x := .tmp 105) (y := .tmp 106) (a := (propOk r2_.1 r2_.2)) (b := (propOk r2_.1 r2_.2)) (by kernel_rfl) (by kernel_rfl) (by kernel_rfl) (by kernel_rfl) (by kernel_rfl) (.bool (!((propOk r2_.1 r2_.2) == (propOk r2_.1 r2_.2)))) (.inr ⟨rfl, rfl⟩) ?_
 refine At.done rfl ?_
 refine AW.condF (!((propOk r2_.1 r2_.2) == (propOk r2_.1 r2_.2))) (by kernel_rfl) (by rw [show ((propOk r2_.1 r2_.2) == (propOk r2_.1 r2_.2)) = true from (beq_self_eq_true _)]; rfl) ?_
 refine AW.skip ?_
 refine AW.seq ?_
 refine AW.q 2 ?_
 refine AW.cNB (propOk r2_.1 r2_.2) (fun h4 => ?_) (fun h4 => ?_)
 · have hpn := prop_no h4
   refine AW.r ?_
   refine At.a 2 ?_
   refine At.sL 111 encRec (propRecs r2_.1 r2_.2) ?_
   refine At.a 2 ?_
   refine At.sB 113 (((propRecs r2_.1 r2_.2).length : Int) == 0) true (sayB (beq_iff_eq.2 hpn.1)) ?_
   refine At.a 2 ?_
   refine At.sL 115 encOut (propOuts r2_.1 r2_.2) ?_
   refine At.z 3 ?_
   refine AW.ret ?_
   refine ⟨_, Sub.refl _ _, ?_⟩
   refine KF.conv (fun w => .bool w) (fun w => []) (show (((propOuts r2_.1 r2_.2).length : Int) == 0) = (true) from by exact beq_iff_eq.2 hpn.2) ?_
   exact KF.n []
 have hpo := h4
 have hpl := prop_law h4
 have hln : ((propR r2_.1 r2_.2).hard.log.length : Int) = (r2_.1.hard.log.length : Int) + 1 := by rw [hpl.1, List.length_append]; rfl
 have hpb := hpl.2.2.2.2
 refine AW.skip ?_
 refine AW.r ?_
 refine At.a 4 ?_
 refine At.sL 121 encEnt ((propR r2_.1 r2_.2).hard.log) ?_
 refine At.z 1 ?_
 refine AW.seq ?_
 refine AW.gD Tryz_mix ?_
 refine At.a 5 ?_
 refine At.sL 126 encEnt r2_.1.hard.log ?_
 refine At.a 1 ?_
 refine At.sI 127 ((r2_.1.hard.log.length : Int) + 1) (by omega) ?_
 refine At.a 2 ?_
 refine At.sB 129 ((((propR r2_.1 r2_.2).hard.log).length : Int) == ((r2_.1.hard.log.length : Int) + 1)) true (sayB (beq_iff_eq.2 hln)) ?_
 refine At.a 5 ?_
 refine At.sI 134 ((((propR r2_.1 r2_.2).hard.log).length : Int) - 1) (by omega) ?_
 refine At.iRf 24 135 (.tmp 132) (.tmp 134) 2840 (((propR r2_.1 r2_.2).hard.log).map encEnt) .i64 ((((propR r2_.1 r2_.2).hard.log).length : Int) - 1) 45 6 (by omega) (by simp only [List.length_map]; omega) ?_
 refine At.a 1 ?_
 refine Exists.elim (gE ((propR r2_.1 r2_.2).hard.log) (((((propR r2_.1 r2_.2).hard.log).length : Int) - 1).toNat) (by omega)) fun e2 he2 => ?_
 refine At.lEl 31 137 (.tmp 136) 2840 45 6 (((propR r2_.1 r2_.2).hard.log).map encEnt) (((((propR r2_.1 r2_.2).hard.log).length : Int) - 1).toNat) 1 true 5 (encEnt e2) (.agg [.int .i64 e2.cmd.kind, .int .i64 e2.cmd.release, .int .i64 e2.cmd.node, .int .i64 e2.cmd.size, .str e2.cmd.digest]) (mapGet he2) ?_
 refine At.a 1 ?_
 refine At.eqA (t := 31) (u := 31) (d := 139) (op := .eql) (x := .tmp 137) (y := .tmp 138) (X := [.int .i64 e2.cmd.kind, .int .i64 e2.cmd.release, .int .i64 e2.cmd.node, .int .i64 e2.cmd.size, .str e2.cmd.digest]) (Y := [.int .i64 r2_.2.kind, .int .i64 r2_.2.release, .int .i64 r2_.2.node, .int .i64 r2_.2.size, .str r2_.2.digest]) (cmdEq e2.cmd r2_.2) (by kernel_rfl) (by kernel_rfl) (by kernel_rfl) (by kernel_rfl) (by kernel_rfl) (.bool (cmdEq e2.cmd r2_.2)) (.inl ⟨rfl, rfl⟩) ?_
 refine At.a 2 ?_
 refine At.sB 141 (cmdEq e2.cmd r2_.2) true (sayB (prop_last hpo rfl he2)) ?_
 refine At.a 2 ?_
 refine At.sL 143 encRec (propRecs r2_.1 r2_.2) ?_
 refine At.a 3 ?_
 refine At.sB 146 (((propRecs r2_.1 r2_.2).length : Int) == 1) true (sayB (beq_iff_eq.2 hpl.2.1)) ?_
 refine At.a 2 ?_
 refine At.sL 148 encOut (propOuts r2_.1 r2_.2) ?_
 refine At.a 3 ?_
 refine At.sI 151 (r2_.1.of_ - 1) (by omega) ?_
 refine At.a 3 ?_
 refine At.sB 154 (((propOuts r2_.1 r2_.2).length : Int) == (r2_.1.of_ - 1)) true (sayB (beq_iff_eq.2 hpl.2.2.1)) ?_
 refine At.a 1 ?_
 refine At.c (impl_RaftOk_spec  (propR r2_.1 r2_.2) (by exact propR_small _ qr2_)) Tryz.call19 false [] [] [(2840, 6, (((propR r2_.1 r2_.2).hard.log).map encEnt)), (2841, 1, (((propR r2_.1 r2_.2).yes).map encI)), (2842, 1, (((propR r2_.1 r2_.2).next).map encI)), (2843, 1, (((propR r2_.1 r2_.2).match_).map encI))] ⟨rfl, ⟨45, (((propR r2_.1 r2_.2).hard.log).map encEnt), by kernel_rfl, FrzIs.same (allP_encEnt _)⟩, rfl, ⟨3, (((propR r2_.1 r2_.2).yes).map encI), by kernel_rfl, FrzIs.same (allP_encI _)⟩, rfl, ⟨3, (((propR r2_.1 r2_.2).next).map encI), by kernel_rfl, FrzIs.same (allP_encI _)⟩, rfl, ⟨3, (((propR r2_.1 r2_.2).match_).map encI), by kernel_rfl, FrzIs.same (allP_encI _)⟩, trivial⟩ ?_
 refine At.zD 2 ?_
 refine AW.ret ?_
 refine ⟨_, Sub.refl _ _, ?_⟩
 refine KF.conv (fun w => .bool w) (fun w => []) (show (raftOk (propR r2_.1 r2_.2)) = (true) from by exact hpl.2.2.2.1) ?_
 exact KF.n []
end Go.Proofs.YtlmadhahghiedaaGreat
