/- The contracts of the functions that FnOneVote reaches (each: what it answers, said over values), printed by a program of this session (wip/sy/g/gen.py). -/
import Derived.Test.YtlmadhahghiedaaGreatFFnOneVote6
set_option linter.unusedVariables false
set_option linter.unusedSimpArgs false
set_option maxRecDepth 100000
set_option maxHeartbeats 4000000
namespace Go.Proofs.YtlmadhahghiedaaGreat
open Go Go.Sy Go.Proofs
theorem impl_MsgFits_spec  (m : Msg) (hl : m.entries.length ≤ 1048576) : FnSpec Tryz.prog 22 [(msgA m)] [] (.bool (msgFits m)) [] := by
 have hfs := fieldsL_small m.kind
 refine FnSpec.of 30 Tryz.func22 rfl Tryz.ntmps22 (by simp) (AW.weakK ?_)
 refine AW.q 2 ?_
 refine AW.r ?_
 refine At.a 2 ?_
 refine At.c (impl_fieldsOf_spec  m.kind ) Tryz.call76 true [] [] [] trivial ?_
 refine At.z 1 ?_
 refine AW.q 3 ?_
 refine AW.seq ?_
 refine AW.q 3 ?_
 refine AW.block ?_
 refine AW.loopW (fun (x : Nat × Msg) => match x with | (k, q) => Go.Sy.mk [.un, .ptr 101 0 0, .un, .str (fieldsL m.kind), .ptr 104 0 0, .un, .un, .un, .un, .un, .un, .int .i64 ((fieldsL m.kind).size : Int), .int .i64 (k : Int)] [(101, .box 33 [.int .i64 m.kind, .int .i64 m.from_, .int .i64 m.term, .int .i64 m.at_, .int .i64 m.atTerm, .int .i64 m.commit, .bool m.yes, .int .i64 m.release, .int .i64 m.part, .str m.bytes, .int .i64 m.cmd.kind, .int .i64 m.cmd.release, .int .i64 m.cmd.node, .int .i64 m.cmd.size, .str m.cmd.digest, .sl false 6 (m.entries.map encEnt)]), (104, .box 33 [.int .i64 q.kind, .int .i64 q.from_, .int .i64 q.term, .int .i64 q.at_, .int .i64 q.atTerm, .int .i64 q.commit, .bool q.yes, .int .i64 q.release, .int .i64 q.part, .str q.bytes, .int .i64 q.cmd.kind, .int .i64 q.cmd.release, .int .i64 q.cmd.node, .int .i64 q.cmd.size, .str q.cmd.digest, .sl false 6 (q.entries.map encEnt)])]) (fun (x : Nat × Msg) => match x with | (k, q) => k ≤ (fieldsL m.kind).size ∧ q.entries.length ≤ 1048576 ∧ runTake m.kind (fieldsL m.kind).data.toList m = runTake m.kind ((fieldsL m.kind).data.toList.drop k) q) (fun (x : Nat × Msg) => match x with | (k, q) => (fieldsL m.kind).size - k) (0, m) ⟨by omega, hl, by rw [List.drop_zero]⟩ (Sub.o [(101, 101), (104, 104)] [false, true, false, true, true, false, false, false, false, false, false, true, true]) ?_
 rintro ⟨k, q⟩ ⟨hk, hq, hR⟩
 refine AW.q 1 ?_
 refine AW.seq ?_
 refine AW.cD ((k : Int) < ((fieldsL m.kind).size : Int)) (fun h1 => ?_) (fun h1 => ?_)
 · refine AW.skip ?_
   refine AW.seq ?_
   refine AW.block ?_
   refine AW.q 2 ?_
   refine AW.r ?_
   refine At.a 2 ?_
   refine Exists.elim (show ∃ e, (fieldsL m.kind).data[k]? = some e from ⟨_, Array.getElem?_eq_getElem (by show _ < (fieldsL m.kind).size; omega)⟩) fun e1 he1 => ?_
   have hl1 : (fieldsL m.kind).data.toList[k]? = some e1 := by simpa using he1
   refine At.idxStr (t := 9) (d := 17) (x := .tmp 15) (y := .tmp 16) (s := fieldsL m.kind) (kd := .i64) (i := (k : Int)) e1 (by kernel_rfl) (by kernel_rfl) (by kernel_rfl) (by kernel_rfl) (by omega) he1 ?_
   refine At.c (impl_Msg_take_spec  q e1 (by omega)) Tryz.call77 true [(104, 0)] [] [] trivial ?_
   refine At.z 1 ?_
   refine AW.cNB (takeOk q e1.toNat) (fun h2 => ?_) (fun h2 => ?_)
   · refine AW.q 1 ?_
     refine AW.ret ?_
     refine ⟨_, Sub.refl _ _, ?_⟩
     refine KF.conv (fun w => .bool w) (fun w => []) (show (false) = (msgFits m) from by rw [fits_run, hR, dropCons hl1, runTake]; simp [h1, h2]) ?_
     exact KF.n []
   refine AW.skip ?_
   refine AW.g ?_
   refine At.a 1 ?_
   refine At.sI 20 ((k : Int) + 1) (by omega) ?_
   refine At.z 1 ?_
   exact ⟨(k + 1, (takeM q e1.toNat)), ⟨by omega, takeM_small hq _, by rw [hR, dropCons hl1, runTake]; simp only [*, Bool.true_and]⟩, (by simp only; omega), Sub.o [(101, 101), (104, 104)] [false, true, false, true, true, false, false, false, false, false, false, true, true]⟩
 refine AW.exit ?_
 refine AW.r ?_
 refine At.a 3 ?_
 by_cases h3 : (fieldsL m.kind).toList = (⟨#[]⟩ : ByteArray).toList
 · refine At.sB 23 (!((fieldsL m.kind).toList == (⟨#[]⟩ : ByteArray).toList)) false (sayNF (sayET h3)) ?_
   refine At.z 7 ?_
   refine AW.ret ?_
   refine ⟨_, Sub.refl _ _, ?_⟩
   refine KF.conv (fun w => .bool w) (fun w => []) (show (false) = (msgFits m) from by rw [fits_run, show ((fieldsL m.kind).toList == []) = true from beq_iff_eq.2 (by rw [← noBytes]; assumption)]; rfl) ?_
   exact KF.n []
 refine At.sB 23 (!((fieldsL m.kind).toList == (⟨#[]⟩ : ByteArray).toList)) true (sayNT (sayEF h3)) ?_
 refine At.a 4 ?_
 refine At.c (FnSpec.nz (As := [.agg [.int .i64 q.kind, .int .i64 q.from_, .int .i64 q.term, .int .i64 q.at_, .int .i64 q.atTerm, .int .i64 q.commit, .bool q.yes, .int .i64 q.release, .int .i64 q.part, .str q.bytes, .int .i64 q.cmd.kind, .int .i64 q.cmd.release, .int .i64 q.cmd.node, .int .i64 q.cmd.size, .str q.cmd.digest, .sl false 6 (q.entries.map encEnt)], .agg [.int .i64 m.kind, .int .i64 0, .int .i64 0, .int .i64 0, .int .i64 0, .int .i64 0, .bool false, .int .i64 0, .int .i64 0, .str (⟨#[]⟩ : ByteArray), .int .i64 0, .int .i64 0, .int .i64 0, .int .i64 0, .str (⟨#[]⟩ : ByteArray), .nil]]) 6 (impl_MsgSame_spec  q (⟨m.kind, 0, 0, 0, 0, 0, false, 0, 0, (⟨#[]⟩ : ByteArray), ⟨0, 0, 0, 0, (⟨#[]⟩ : ByteArray)⟩, []⟩ : Msg) (by omega) (by simp only [List.length_map, List.length_append, List.length_take, List.length_drop, List.length_replicate, List.length_set, List.length_cons, List.length_nil]; omega))) Tryz.call78 true [] [] [] trivial ?_
 refine At.z 2 ?_
 refine AW.ret ?_
 refine ⟨_, Sub.refl _ _, ?_⟩
 refine KF.conv (fun w => .bool w) (fun w => []) (show (msgEq q (⟨m.kind, 0, 0, 0, 0, 0, false, 0, 0, (⟨#[]⟩ : ByteArray), ⟨0, 0, 0, 0, (⟨#[]⟩ : ByteArray)⟩, []⟩ : Msg)) = (msgFits m) from by rw [fits_run, hR, List.drop_of_length_le (by rw [Array.length_toList]; show (fieldsL m.kind).size ≤ _; omega), runTake, beq_eq_false_iff_ne.2 (by rw [← noBytes]; assumption)]; rfl) ?_
 exact KF.n []
def K_impl_stepper_mayHear (rs : List ResultVar) (s : Stepper) (m : Msg) (kind : Int) (w0_ : Bool) : Exit → Sg → Prop := KF Tryz.prog 7 rs (.bool w0_) [.box 102 [.int .i64 s.r.id, .int .i64 s.r.of_, .int .i64 s.r.role, .int .i64 s.r.commit, .int .i64 s.r.hard.term, .int .i64 s.r.hard.vote, .ref 1, .ref 2, .ref 3, .ref 4, .int .i64 s.was.id, .int .i64 s.was.of_, .int .i64 s.was.role, .int .i64 s.was.commit, .int .i64 s.was.hard.term, .int .i64 s.was.hard.vote, .sl false 6 (s.was.hard.log.map encEnt), .sl false 1 (s.was.yes.map encI), .sl false 1 (s.was.next.map encI), .sl false 1 (s.was.match_.map encI), .ref 5, .ref 6], .arr 45 6 (s.r.hard.log.map encEnt), .arr 3 1 (s.r.yes.map encI), .arr 3 1 (s.r.next.map encI), .arr 3 1 (s.r.match_.map encI), .arr 47 10 (s.recs.map encRec), .arr 51 17 (s.outs.map encOut)]
theorem impl_stepper_mayHear_spec  (s : Stepper) (m : Msg) (kind : Int) (hz : SmallR s.was) (hm : m.entries.length ≤ 1048576) : FnSpec Tryz.prog 85 [.ptr 0 0 0, (msgA m), .int .i64 kind] [.box 102 [.int .i64 s.r.id, .int .i64 s.r.of_, .int .i64 s.r.role, .int .i64 s.r.commit, .int .i64 s.r.hard.term, .int .i64 s.r.hard.vote, .ref 1, .ref 2, .ref 3, .ref 4, .int .i64 s.was.id, .int .i64 s.was.of_, .int .i64 s.was.role, .int .i64 s.was.commit, .int .i64 s.was.hard.term, .int .i64 s.was.hard.vote, .sl false 6 (s.was.hard.log.map encEnt), .sl false 1 (s.was.yes.map encI), .sl false 1 (s.was.next.map encI), .sl false 1 (s.was.match_.map encI), .ref 5, .ref 6], .arr 45 6 (s.r.hard.log.map encEnt), .arr 3 1 (s.r.yes.map encI), .arr 3 1 (s.r.next.map encI), .arr 3 1 (s.r.match_.map encI), .arr 47 10 (s.recs.map encRec), .arr 51 17 (s.outs.map encOut)] (.bool (hears s.was m kind)) [.box 102 [.int .i64 s.r.id, .int .i64 s.r.of_, .int .i64 s.r.role, .int .i64 s.r.commit, .int .i64 s.r.hard.term, .int .i64 s.r.hard.vote, .ref 1, .ref 2, .ref 3, .ref 4, .int .i64 s.was.id, .int .i64 s.was.of_, .int .i64 s.was.role, .int .i64 s.was.commit, .int .i64 s.was.hard.term, .int .i64 s.was.hard.vote, .sl false 6 (s.was.hard.log.map encEnt), .sl false 1 (s.was.yes.map encI), .sl false 1 (s.was.next.map encI), .sl false 1 (s.was.match_.map encI), .ref 5, .ref 6], .arr 45 6 (s.r.hard.log.map encEnt), .arr 3 1 (s.r.yes.map encI), .arr 3 1 (s.r.next.map encI), .arr 3 1 (s.r.match_.map encI), .arr 47 10 (s.recs.map encRec), .arr 51 17 (s.outs.map encOut)] := by
 refine FnSpec.of 42 Tryz.func85 rfl Tryz.ntmps85 (by simp) (AW.weakK ?_)
 refine AW.q 2 ?_
 refine AW.seq ?_
 refine AW.gD Tryz_mix ?_
 refine At.a 4 ?_
 refine At.c (impl_RaftOk_spec  s.was hz) Tryz.call19 true [] [] [] trivial ?_
 refine At.a 1 ?_
 by_cases h1 : (raftOk s.was) = true
 · refine At.sB 12 (raftOk s.was) true (sayB h1) ?_
   have h1n := raftOk1_nums (raftOk_1 h1)
   refine At.a 1 ?_
   refine At.c (impl_MsgFits_spec  m hm) Tryz.call22 true [] [] [] trivial ?_
   refine At.a 2 ?_
   by_cases h2 : (msgFits m) = true
   · refine At.sB 16 (msgFits m) true (sayB h2) ?_
     refine At.a 6 ?_
     by_cases h3 : m.kind = kind
     · refine At.sB 22 _ _ (sayET h3) ?_
       refine At.a 10 ?_
       by_cases h4 : m.from_ < s.was.of_
       · refine At.sB 32 _ _ (sayT h4) ?_
         refine At.zD 10 ?_
         exact AW.ret (rf (k1 (K_impl_stepper_mayHear _ s m kind) (show (m.from_ != s.was.id) = (hears s.was m kind) from by grind [hears]) (KF.n [(0, 0), (1, 1), (2, 2), (3, 3), (4, 4), (5, 5), (6, 6)])))
       refine At.sB 32 _ _ (sayF h4) ?_
       refine At.zD 10 ?_
       exact AW.ret (rf (k1 (K_impl_stepper_mayHear _ s m kind) (show (false) = (hears s.was m kind) from by grind [hears]) (KF.n [(0, 0), (1, 1), (2, 2), (3, 3), (4, 4), (5, 5), (6, 6)])))
     refine At.sB 22 _ _ (sayEF h3) ?_
     refine At.zD 20 ?_
     exact AW.ret (rf (k1 (K_impl_stepper_mayHear _ s m kind) (show (false) = (hears s.was m kind) from by grind [hears]) (KF.n [(0, 0), (1, 1), (2, 2), (3, 3), (4, 4), (5, 5), (6, 6)])))
   refine At.sB 16 (msgFits m) false (sayB (Bool.eq_false_iff.2 h2)) ?_
   replace h2 := Bool.eq_false_iff.2 h2
   refine At.zD 26 ?_
   exact AW.ret (rf (k1 (K_impl_stepper_mayHear _ s m kind) (show (false) = (hears s.was m kind) from by grind [hears]) (KF.n [(0, 0), (1, 1), (2, 2), (3, 3), (4, 4), (5, 5), (6, 6)])))
 refine At.sB 12 (raftOk s.was) false (sayB (Bool.eq_false_iff.2 h1)) ?_
 replace h1 := Bool.eq_false_iff.2 h1
 refine At.zD 30 ?_
 exact AW.ret (rf (k1 (K_impl_stepper_mayHear _ s m kind) (show (false) = (hears s.was m kind) from by grind [hears]) (KF.n [(0, 0), (1, 1), (2, 2), (3, 3), (4, 4), (5, 5), (6, 6)])))
def K_impl_stepper_none (rs : List ResultVar) (s : Stepper) (w0_ : Raft) : Exit → Sg → Prop := KF Tryz.prog 7 rs (.tup [.agg [.int .i64 w0_.id, .int .i64 w0_.of_, .int .i64 w0_.role, .int .i64 w0_.commit, .int .i64 w0_.hard.term, .int .i64 w0_.hard.vote, .ref 7, .ref 8, .ref 9, .ref 10], .ref 11, .ref 12]) [.box 102 [.int .i64 s.r.id, .int .i64 s.r.of_, .int .i64 s.r.role, .int .i64 s.r.commit, .int .i64 s.r.hard.term, .int .i64 s.r.hard.vote, .ref 1, .ref 2, .ref 3, .ref 4, .int .i64 s.was.id, .int .i64 s.was.of_, .int .i64 s.was.role, .int .i64 s.was.commit, .int .i64 s.was.hard.term, .int .i64 s.was.hard.vote, .sl false 6 (s.was.hard.log.map encEnt), .sl false 1 (s.was.yes.map encI), .sl false 1 (s.was.next.map encI), .sl false 1 (s.was.match_.map encI), .ref 5, .ref 6], .arr 45 6 (s.r.hard.log.map encEnt), .arr 3 1 (s.r.yes.map encI), .arr 3 1 (s.r.next.map encI), .arr 3 1 (s.r.match_.map encI), .arr 47 10 (s.recs.map encRec), .arr 51 17 (s.outs.map encOut), .arr 45 6 (w0_.hard.log.map encEnt), .arr 3 1 (w0_.yes.map encI), .arr 3 1 (w0_.next.map encI), .arr 3 1 (w0_.match_.map encI), .arr 47 10 [], .arr 51 17 []]
theorem impl_stepper_none_spec  (s : Stepper) (hz : SmallR s.was) : FnSpec Tryz.prog 88 [.ptr 0 0 0] [.box 102 [.int .i64 s.r.id, .int .i64 s.r.of_, .int .i64 s.r.role, .int .i64 s.r.commit, .int .i64 s.r.hard.term, .int .i64 s.r.hard.vote, .ref 1, .ref 2, .ref 3, .ref 4, .int .i64 s.was.id, .int .i64 s.was.of_, .int .i64 s.was.role, .int .i64 s.was.commit, .int .i64 s.was.hard.term, .int .i64 s.was.hard.vote, .sl false 6 (s.was.hard.log.map encEnt), .sl false 1 (s.was.yes.map encI), .sl false 1 (s.was.next.map encI), .sl false 1 (s.was.match_.map encI), .ref 5, .ref 6], .arr 45 6 (s.r.hard.log.map encEnt), .arr 3 1 (s.r.yes.map encI), .arr 3 1 (s.r.next.map encI), .arr 3 1 (s.r.match_.map encI), .arr 47 10 (s.recs.map encRec), .arr 51 17 (s.outs.map encOut)] (.tup [.agg [.int .i64 ((same s.was).id), .int .i64 ((same s.was).of_), .int .i64 ((same s.was).role), .int .i64 ((same s.was).commit), .int .i64 ((same s.was).hard.term), .int .i64 ((same s.was).hard.vote), .ref 7, .ref 8, .ref 9, .ref 10], .ref 11, .ref 12]) [.box 102 [.int .i64 s.r.id, .int .i64 s.r.of_, .int .i64 s.r.role, .int .i64 s.r.commit, .int .i64 s.r.hard.term, .int .i64 s.r.hard.vote, .ref 1, .ref 2, .ref 3, .ref 4, .int .i64 s.was.id, .int .i64 s.was.of_, .int .i64 s.was.role, .int .i64 s.was.commit, .int .i64 s.was.hard.term, .int .i64 s.was.hard.vote, .sl false 6 (s.was.hard.log.map encEnt), .sl false 1 (s.was.yes.map encI), .sl false 1 (s.was.next.map encI), .sl false 1 (s.was.match_.map encI), .ref 5, .ref 6], .arr 45 6 (s.r.hard.log.map encEnt), .arr 3 1 (s.r.yes.map encI), .arr 3 1 (s.r.next.map encI), .arr 3 1 (s.r.match_.map encI), .arr 47 10 (s.recs.map encRec), .arr 51 17 (s.outs.map encOut), .arr 45 6 (((same s.was).hard.log).map encEnt), .arr 3 1 (((same s.was).yes).map encI), .arr 3 1 (((same s.was).next).map encI), .arr 3 1 (((same s.was).match_).map encI), .arr 47 10 [], .arr 51 17 []] := by
 obtain ⟨z1, z2, z3, z4⟩ := id hz
 refine FnSpec.of 17 Tryz.func88 rfl Tryz.ntmps88 (by simp) (AW.weakK ?_)
 refine AW.q 3 ?_
 refine AW.seq ?_
 refine AW.seq ?_
 refine AW.weak (Sub.nils [⟨true, 102, some 6, 5001, 45, 6⟩, ⟨true, 102, some 7, 5002, 3, 1⟩, ⟨true, 102, some 8, 5003, 3, 1⟩, ⟨true, 102, some 9, 5004, 3, 1⟩] (by kernel_rfl)) ?_
 refine AW.g ?_
 refine At.a 4 ?_
 refine At.c (impl_RaftOk_spec  s.was hz) Tryz.call19 true [] [] [] trivial ?_
 refine At.z 1 ?_
 refine AW.cNB (raftOk s.was) (fun h1 => ?_) (fun h1 => ?_)
 · refine AW.q 4 ?_
   refine AW.ret ?_
   refine ⟨_, Sub.nils [⟨true, 102, some 6, 5005, 45, 6⟩, ⟨true, 102, some 7, 5006, 3, 1⟩, ⟨true, 102, some 8, 5007, 3, 1⟩, ⟨true, 102, some 9, 5008, 3, 1⟩, ⟨false, 3, none, 5009, 47, 10⟩, ⟨false, 4, none, 5010, 51, 17⟩] (by kernel_rfl), ?_⟩
   exact k1 (K_impl_stepper_none _ s) (show ((⟨0, 0, 0, 0, ⟨0, 0, []⟩, [], [], []⟩ : Raft)) = (same s.was) from by simp only [same, h1, if_true] <;> rfl) (KF.n [(0, 0), (1, 1), (2, 2), (3, 3), (4, 4), (5, 5), (6, 6), (5005, 7), (5006, 8), (5007, 9), (5008, 10), (5009, 11), (5010, 12)])
 have h1n := raftOk1_nums (raftOk_1 h1)
 refine AW.skip ?_
 refine AW.r ?_
 refine At.a 4 ?_
 refine At.c (impl_copyRaft_spec  s.was hz) Tryz.call157 true [] [(1320, 0), (1321, 1), (1322, 2), (1323, 3)] [] trivial ?_
 refine At.z 3 ?_
 refine AW.ret ?_
 refine ⟨_, Sub.nils [⟨false, 3, none, 5011, 47, 10⟩, ⟨false, 4, none, 5012, 51, 17⟩] (by kernel_rfl), ?_⟩
 exact k1 (K_impl_stepper_none _ s) (show (s.was) = (same s.was) from by simp only [same, h1, if_true] <;> rfl) (KF.n [(0, 0), (1, 1), (2, 2), (3, 3), (4, 4), (5, 5), (6, 6), (1320, 7), (1321, 8), (1322, 9), (1323, 10), (5011, 11), (5012, 12)])
theorem impl_stepper_none_T_spec  (s : Stepper) (hz : SmallR s.was) (hok : raftOk s.was = true) : FnSpec Tryz.prog 88 [.ptr 0 0 0] [.box 102 [.int .i64 s.r.id, .int .i64 s.r.of_, .int .i64 s.r.role, .int .i64 s.r.commit, .int .i64 s.r.hard.term, .int .i64 s.r.hard.vote, .ref 1, .ref 2, .ref 3, .ref 4, .int .i64 s.was.id, .int .i64 s.was.of_, .int .i64 s.was.role, .int .i64 s.was.commit, .int .i64 s.was.hard.term, .int .i64 s.was.hard.vote, .sl false 6 (s.was.hard.log.map encEnt), .sl false 1 (s.was.yes.map encI), .sl false 1 (s.was.next.map encI), .sl false 1 (s.was.match_.map encI), .ref 5, .ref 6], .arr 45 6 (s.r.hard.log.map encEnt), .arr 3 1 (s.r.yes.map encI), .arr 3 1 (s.r.next.map encI), .arr 3 1 (s.r.match_.map encI), .arr 47 10 (s.recs.map encRec), .arr 51 17 (s.outs.map encOut)] (.tup [.agg [.int .i64 s.was.id, .int .i64 s.was.of_, .int .i64 s.was.role, .int .i64 s.was.commit, .int .i64 s.was.hard.term, .int .i64 s.was.hard.vote, .ref 7, .ref 8, .ref 9, .ref 10], .ref 11, .ref 12]) [.box 102 [.int .i64 s.r.id, .int .i64 s.r.of_, .int .i64 s.r.role, .int .i64 s.r.commit, .int .i64 s.r.hard.term, .int .i64 s.r.hard.vote, .ref 1, .ref 2, .ref 3, .ref 4, .int .i64 s.was.id, .int .i64 s.was.of_, .int .i64 s.was.role, .int .i64 s.was.commit, .int .i64 s.was.hard.term, .int .i64 s.was.hard.vote, .sl false 6 (s.was.hard.log.map encEnt), .sl false 1 (s.was.yes.map encI), .sl false 1 (s.was.next.map encI), .sl false 1 (s.was.match_.map encI), .ref 5, .ref 6], .arr 45 6 (s.r.hard.log.map encEnt), .arr 3 1 (s.r.yes.map encI), .arr 3 1 (s.r.next.map encI), .arr 3 1 (s.r.match_.map encI), .arr 47 10 (s.recs.map encRec), .arr 51 17 (s.outs.map encOut), .arr 45 6 (s.was.hard.log.map encEnt), .arr 3 1 (s.was.yes.map encI), .arr 3 1 (s.was.next.map encI), .arr 3 1 (s.was.match_.map encI), .arr 47 10 [], .arr 51 17 []] := by have := impl_stepper_none_spec s hz; rw [show same s.was = s.was from if_pos hok] at this; exact this
theorem impl_stepper_none_F_spec  (s : Stepper) (hz : SmallR s.was) (hok : ¬ raftOk s.was = true) : FnSpec Tryz.prog 88 [.ptr 0 0 0] [.box 102 [.int .i64 s.r.id, .int .i64 s.r.of_, .int .i64 s.r.role, .int .i64 s.r.commit, .int .i64 s.r.hard.term, .int .i64 s.r.hard.vote, .ref 1, .ref 2, .ref 3, .ref 4, .int .i64 s.was.id, .int .i64 s.was.of_, .int .i64 s.was.role, .int .i64 s.was.commit, .int .i64 s.was.hard.term, .int .i64 s.was.hard.vote, .sl false 6 (s.was.hard.log.map encEnt), .sl false 1 (s.was.yes.map encI), .sl false 1 (s.was.next.map encI), .sl false 1 (s.was.match_.map encI), .ref 5, .ref 6], .arr 45 6 (s.r.hard.log.map encEnt), .arr 3 1 (s.r.yes.map encI), .arr 3 1 (s.r.next.map encI), .arr 3 1 (s.r.match_.map encI), .arr 47 10 (s.recs.map encRec), .arr 51 17 (s.outs.map encOut)] (.tup [.agg [.int .i64 0, .int .i64 0, .int .i64 0, .int .i64 0, .int .i64 0, .int .i64 0, .ref 7, .ref 8, .ref 9, .ref 10], .ref 11, .ref 12]) [.box 102 [.int .i64 s.r.id, .int .i64 s.r.of_, .int .i64 s.r.role, .int .i64 s.r.commit, .int .i64 s.r.hard.term, .int .i64 s.r.hard.vote, .ref 1, .ref 2, .ref 3, .ref 4, .int .i64 s.was.id, .int .i64 s.was.of_, .int .i64 s.was.role, .int .i64 s.was.commit, .int .i64 s.was.hard.term, .int .i64 s.was.hard.vote, .sl false 6 (s.was.hard.log.map encEnt), .sl false 1 (s.was.yes.map encI), .sl false 1 (s.was.next.map encI), .sl false 1 (s.was.match_.map encI), .ref 5, .ref 6], .arr 45 6 (s.r.hard.log.map encEnt), .arr 3 1 (s.r.yes.map encI), .arr 3 1 (s.r.next.map encI), .arr 3 1 (s.r.match_.map encI), .arr 47 10 (s.recs.map encRec), .arr 51 17 (s.outs.map encOut), .arr 45 6 [], .arr 3 1 [], .arr 3 1 [], .arr 3 1 [], .arr 47 10 [], .arr 51 17 []] := by have := impl_stepper_none_spec s hz; rw [show same s.was = zRaft from if_neg hok] at this; exact this
theorem impl_stepper_follow_spec  (s : Stepper) : FnSpec Tryz.prog 92 [.ptr 0 0 0] [.box 102 [.int .i64 s.r.id, .int .i64 s.r.of_, .int .i64 s.r.role, .int .i64 s.r.commit, .int .i64 s.r.hard.term, .int .i64 s.r.hard.vote, .ref 1, .ref 2, .ref 3, .ref 4, .int .i64 s.was.id, .int .i64 s.was.of_, .int .i64 s.was.role, .int .i64 s.was.commit, .int .i64 s.was.hard.term, .int .i64 s.was.hard.vote, .sl false 6 (s.was.hard.log.map encEnt), .sl false 1 (s.was.yes.map encI), .sl false 1 (s.was.next.map encI), .sl false 1 (s.was.match_.map encI), .ref 5, .ref 6], .arr 45 6 (s.r.hard.log.map encEnt), .arr 3 1 (s.r.yes.map encI), .arr 3 1 (s.r.next.map encI), .arr 3 1 (s.r.match_.map encI), .arr 47 10 (s.recs.map encRec), .arr 51 17 (s.outs.map encOut)] (.tup []) [.box 102 [.int .i64 s.r.id, .int .i64 s.r.of_, .int .i64 1, .int .i64 s.r.commit, .int .i64 s.r.hard.term, .int .i64 s.r.hard.vote, .ref 1, .ref 7, .ref 8, .ref 9, .int .i64 s.was.id, .int .i64 s.was.of_, .int .i64 s.was.role, .int .i64 s.was.commit, .int .i64 s.was.hard.term, .int .i64 s.was.hard.vote, .sl false 6 (s.was.hard.log.map encEnt), .sl false 1 (s.was.yes.map encI), .sl false 1 (s.was.next.map encI), .sl false 1 (s.was.match_.map encI), .ref 5, .ref 6], .arr 45 6 (s.r.hard.log.map encEnt), .dead, .dead, .dead, .arr 47 10 (s.recs.map encRec), .arr 51 17 (s.outs.map encOut), .arr 3 1 [], .arr 3 1 [], .arr 3 1 []] := by
 refine FnSpec.of 18 Tryz.func92 rfl Tryz.ntmps92 (by simp) (AW.weakK ?_)
 refine AW.gq 20 ?_
 refine ⟨_, (Sub.trans (Sub.trans (Sub.trans (Sub.nils [⟨true, 0, some 7, 5001, 3, 1⟩, ⟨true, 0, some 8, 5002, 3, 1⟩, ⟨true, 0, some 9, 5003, 3, 1⟩] (by kernel_rfl)) (Sub.mv 2 8002 (by kernel_rfl) (by decide))) (Sub.mv 3 8003 (by kernel_rfl) (by decide))) (Sub.mv 4 8004 (by kernel_rfl) (by decide))), ?_⟩
 refine KF.conv (fun w => .tup []) (fun w => [.box 102 [.int .i64 w.r.id, .int .i64 w.r.of_, .int .i64 w.r.role, .int .i64 w.r.commit, .int .i64 w.r.hard.term, .int .i64 w.r.hard.vote, .ref 1, .ref 7, .ref 8, .ref 9, .int .i64 w.was.id, .int .i64 w.was.of_, .int .i64 w.was.role, .int .i64 w.was.commit, .int .i64 w.was.hard.term, .int .i64 w.was.hard.vote, .sl false 6 (w.was.hard.log.map encEnt), .sl false 1 (w.was.yes.map encI), .sl false 1 (w.was.next.map encI), .sl false 1 (w.was.match_.map encI), .ref 5, .ref 6], .arr 45 6 (w.r.hard.log.map encEnt), .dead, .dead, .dead, .arr 47 10 (w.recs.map encRec), .arr 51 17 (w.outs.map encOut), .arr 3 1 (w.r.yes.map encI), .arr 3 1 (w.r.next.map encI), .arr 3 1 (w.r.match_.map encI)]) (show ((⟨⟨s.r.id, s.r.of_, 1, s.r.commit, ⟨s.r.hard.term, s.r.hard.vote, s.r.hard.log⟩, [], [], []⟩, s.was, s.recs, s.outs⟩ : Stepper)) = (({ s with r := ({ s.r with role := 1, yes := [], next := [], match_ := [] } : Raft) } : Stepper)) from by simp_all) ?_
 exact KF.n [(0, 0), (1, 1), (2, 2), (3, 3), (4, 4), (5, 5), (6, 6), (5001, 7), (5002, 8), (5003, 9)]
theorem impl_stepper_followTerm_T_spec  (s : Stepper) (t_ : Int) (ht : t_ ≤ s.r.hard.term) : FnSpec Tryz.prog 91 [.ptr 0 0 0, .int .i64 t_] [.box 102 [.int .i64 s.r.id, .int .i64 s.r.of_, .int .i64 s.r.role, .int .i64 s.r.commit, .int .i64 s.r.hard.term, .int .i64 s.r.hard.vote, .ref 1, .ref 2, .ref 3, .ref 4, .int .i64 s.was.id, .int .i64 s.was.of_, .int .i64 s.was.role, .int .i64 s.was.commit, .int .i64 s.was.hard.term, .int .i64 s.was.hard.vote, .sl false 6 (s.was.hard.log.map encEnt), .sl false 1 (s.was.yes.map encI), .sl false 1 (s.was.next.map encI), .sl false 1 (s.was.match_.map encI), .ref 5, .ref 6], .arr 45 6 (s.r.hard.log.map encEnt), .arr 3 1 (s.r.yes.map encI), .arr 3 1 (s.r.next.map encI), .arr 3 1 (s.r.match_.map encI), .arr 47 10 (s.recs.map encRec), .arr 51 17 (s.outs.map encOut)] (.bool false) [.box 102 [.int .i64 s.r.id, .int .i64 s.r.of_, .int .i64 s.r.role, .int .i64 s.r.commit, .int .i64 s.r.hard.term, .int .i64 s.r.hard.vote, .ref 1, .ref 2, .ref 3, .ref 4, .int .i64 s.was.id, .int .i64 s.was.of_, .int .i64 s.was.role, .int .i64 s.was.commit, .int .i64 s.was.hard.term, .int .i64 s.was.hard.vote, .sl false 6 (s.was.hard.log.map encEnt), .sl false 1 (s.was.yes.map encI), .sl false 1 (s.was.next.map encI), .sl false 1 (s.was.match_.map encI), .ref 5, .ref 6], .arr 45 6 (s.r.hard.log.map encEnt), .arr 3 1 (s.r.yes.map encI), .arr 3 1 (s.r.next.map encI), .arr 3 1 (s.r.match_.map encI), .arr 47 10 (s.recs.map encRec), .arr 51 17 (s.outs.map encOut)] := by
 refine FnSpec.of 26 Tryz.func91 rfl Tryz.ntmps91 (by simp) (AW.weakK ?_)
 refine AW.q 1 ?_
 refine AW.seq ?_
 refine AW.q 8 ?_
 refine AW.condT (decide (t_ ≤ s.r.hard.term)) (by kernel_rfl) (decide_eq_true ht) ?_
 refine AW.q 1 ?_
 exact AW.ret (rf (KF.n [(0, 0), (1, 1), (2, 2), (3, 3), (4, 4), (5, 5), (6, 6)]))
theorem impl_stepper_followTerm_F_spec  (s : Stepper) (t_ : Int) (ht : ¬ t_ ≤ s.r.hard.term) : FnSpec Tryz.prog 91 [.ptr 0 0 0, .int .i64 t_] [.box 102 [.int .i64 s.r.id, .int .i64 s.r.of_, .int .i64 s.r.role, .int .i64 s.r.commit, .int .i64 s.r.hard.term, .int .i64 s.r.hard.vote, .ref 1, .ref 2, .ref 3, .ref 4, .int .i64 s.was.id, .int .i64 s.was.of_, .int .i64 s.was.role, .int .i64 s.was.commit, .int .i64 s.was.hard.term, .int .i64 s.was.hard.vote, .sl false 6 (s.was.hard.log.map encEnt), .sl false 1 (s.was.yes.map encI), .sl false 1 (s.was.next.map encI), .sl false 1 (s.was.match_.map encI), .ref 5, .ref 6], .arr 45 6 (s.r.hard.log.map encEnt), .arr 3 1 (s.r.yes.map encI), .arr 3 1 (s.r.next.map encI), .arr 3 1 (s.r.match_.map encI), .arr 47 10 (s.recs.map encRec), .arr 51 17 (s.outs.map encOut)] (.bool true) [.box 102 [.int .i64 s.r.id, .int .i64 s.r.of_, .int .i64 1, .int .i64 s.r.commit, .int .i64 t_, .int .i64 0, .ref 1, .ref 7, .ref 8, .ref 9, .int .i64 s.was.id, .int .i64 s.was.of_, .int .i64 s.was.role, .int .i64 s.was.commit, .int .i64 s.was.hard.term, .int .i64 s.was.hard.vote, .sl false 6 (s.was.hard.log.map encEnt), .sl false 1 (s.was.yes.map encI), .sl false 1 (s.was.next.map encI), .sl false 1 (s.was.match_.map encI), .ref 5, .ref 6], .arr 45 6 (s.r.hard.log.map encEnt), .dead, .dead, .dead, .arr 47 10 (s.recs.map encRec), .arr 51 17 (s.outs.map encOut), .arr 3 1 [], .arr 3 1 [], .arr 3 1 []] := by
 refine FnSpec.of 26 Tryz.func91 rfl Tryz.ntmps91 (by simp) (AW.weakK ?_)
 refine AW.q 1 ?_
 refine AW.seq ?_
 refine AW.q 8 ?_
 refine AW.condF (decide (t_ ≤ s.r.hard.term)) (by kernel_rfl) (decide_eq_false ht) ?_
 refine AW.skip ?_
 refine AW.r ?_
 refine At.a 1 ?_
 refine At.c (impl_stepper_follow_spec  s ) Tryz.call92 true [(0, 0), (1, 1), (2, 2), (3, 3), (4, 4), (5, 5), (6, 6)] [(1280, 7), (1281, 8), (1282, 9)] [] trivial ?_
 refine At.done rfl ?_
 refine AW.q 13 ?_
 refine AW.q 1 ?_
 refine AW.ret ?_
 refine ⟨_, Sub.refl _ _, ?_⟩
 refine KF.conv (fun w => .bool true) (fun w => [.box 102 [.int .i64 w.r.id, .int .i64 w.r.of_, .int .i64 w.r.role, .int .i64 w.r.commit, .int .i64 w.r.hard.term, .int .i64 w.r.hard.vote, .ref 1, .ref 7, .ref 8, .ref 9, .int .i64 w.was.id, .int .i64 w.was.of_, .int .i64 w.was.role, .int .i64 w.was.commit, .int .i64 w.was.hard.term, .int .i64 w.was.hard.vote, .sl false 6 (w.was.hard.log.map encEnt), .sl false 1 (w.was.yes.map encI), .sl false 1 (w.was.next.map encI), .sl false 1 (w.was.match_.map encI), .ref 5, .ref 6], .arr 45 6 (w.r.hard.log.map encEnt), .dead, .dead, .dead, .arr 47 10 (w.recs.map encRec), .arr 51 17 (w.outs.map encOut), .arr 3 1 (w.r.yes.map encI), .arr 3 1 (w.r.next.map encI), .arr 3 1 (w.r.match_.map encI)]) (show ((⟨⟨s.r.id, s.r.of_, 1, s.r.commit, ⟨t_, 0, s.r.hard.log⟩, [], [], []⟩, s.was, s.recs, s.outs⟩ : Stepper)) = (({ s with r := ({ s.r with role := 1, yes := [], next := [], match_ := [], hard := { s.r.hard with term := t_, vote := 0 } } : Raft) } : Stepper)) from by simp_all) ?_
 exact KF.n [(0, 0), (1, 1), (2, 2), (3, 3), (4, 4), (5, 5), (6, 6), (1280, 7), (1281, 8), (1282, 9)]
theorem impl_stepper_message_spec  (s : Stepper) (kind : Int) : FnSpec Tryz.prog 114 [.ptr 0 0 0, .int .i64 kind] [.box 102 [.int .i64 s.r.id, .int .i64 s.r.of_, .int .i64 s.r.role, .int .i64 s.r.commit, .int .i64 s.r.hard.term, .int .i64 s.r.hard.vote, .ref 1, .ref 2, .ref 3, .ref 4, .int .i64 s.was.id, .int .i64 s.was.of_, .int .i64 s.was.role, .int .i64 s.was.commit, .int .i64 s.was.hard.term, .int .i64 s.was.hard.vote, .sl false 6 (s.was.hard.log.map encEnt), .sl false 1 (s.was.yes.map encI), .sl false 1 (s.was.next.map encI), .sl false 1 (s.was.match_.map encI), .ref 5, .ref 6], .arr 45 6 (s.r.hard.log.map encEnt), .arr 3 1 (s.r.yes.map encI), .arr 3 1 (s.r.next.map encI), .arr 3 1 (s.r.match_.map encI), .arr 47 10 (s.recs.map encRec), .arr 51 17 (s.outs.map encOut)] (.agg [.int .i64 kind, .int .i64 s.r.id, .int .i64 s.r.hard.term, .int .i64 0, .int .i64 0, .int .i64 0, .bool false, .int .i64 0, .int .i64 0, .str (⟨#[]⟩), .int .i64 0, .int .i64 0, .int .i64 0, .int .i64 0, .str (⟨#[]⟩), .ref 7]) [.box 102 [.int .i64 s.r.id, .int .i64 s.r.of_, .int .i64 s.r.role, .int .i64 s.r.commit, .int .i64 s.r.hard.term, .int .i64 s.r.hard.vote, .ref 1, .ref 2, .ref 3, .ref 4, .int .i64 s.was.id, .int .i64 s.was.of_, .int .i64 s.was.role, .int .i64 s.was.commit, .int .i64 s.was.hard.term, .int .i64 s.was.hard.vote, .sl false 6 (s.was.hard.log.map encEnt), .sl false 1 (s.was.yes.map encI), .sl false 1 (s.was.next.map encI), .sl false 1 (s.was.match_.map encI), .ref 5, .ref 6], .arr 45 6 (s.r.hard.log.map encEnt), .arr 3 1 (s.r.yes.map encI), .arr 3 1 (s.r.next.map encI), .arr 3 1 (s.r.match_.map encI), .arr 47 10 (s.recs.map encRec), .arr 51 17 (s.outs.map encOut), .arr 45 6 []] := by
 refine FnSpec.of 18 Tryz.func114 rfl Tryz.ntmps114 (by simp) (AW.weakK ?_)
 refine AW.q 1 ?_
 refine AW.seq ?_
 refine AW.weak (Sub.nils [⟨true, 104, some 15, 5001, 45, 6⟩] (by kernel_rfl)) ?_
 refine AW.gD Tryz_mix ?_
 refine At.zD 14 ?_
 refine AW.ret ?_
 refine ⟨_, Sub.nils [⟨true, 104, some 15, 5002, 45, 6⟩] (by kernel_rfl), ?_⟩
 refine KF.conv (fun w => .agg [.int .i64 w.kind, .int .i64 w.from_, .int .i64 w.term, .int .i64 w.at_, .int .i64 w.atTerm, .int .i64 w.commit, .bool w.yes, .int .i64 w.release, .int .i64 w.part, .str w.bytes, .int .i64 w.cmd.kind, .int .i64 w.cmd.release, .int .i64 w.cmd.node, .int .i64 w.cmd.size, .str w.cmd.digest, .ref 7]) (fun w => [.box 102 [.int .i64 s.r.id, .int .i64 s.r.of_, .int .i64 s.r.role, .int .i64 s.r.commit, .int .i64 s.r.hard.term, .int .i64 s.r.hard.vote, .ref 1, .ref 2, .ref 3, .ref 4, .int .i64 s.was.id, .int .i64 s.was.of_, .int .i64 s.was.role, .int .i64 s.was.commit, .int .i64 s.was.hard.term, .int .i64 s.was.hard.vote, .sl false 6 (s.was.hard.log.map encEnt), .sl false 1 (s.was.yes.map encI), .sl false 1 (s.was.next.map encI), .sl false 1 (s.was.match_.map encI), .ref 5, .ref 6], .arr 45 6 (s.r.hard.log.map encEnt), .arr 3 1 (s.r.yes.map encI), .arr 3 1 (s.r.next.map encI), .arr 3 1 (s.r.match_.map encI), .arr 47 10 (s.recs.map encRec), .arr 51 17 (s.outs.map encOut), .arr 45 6 (w.entries.map encEnt)]) (show ((⟨kind, s.r.id, s.r.hard.term, 0, 0, 0, false, 0, 0, (⟨#[]⟩ : ByteArray), ⟨0, 0, 0, 0, (⟨#[]⟩ : ByteArray)⟩, []⟩ : Msg)) = ((⟨kind, s.r.id, s.r.hard.term, 0, 0, 0, false, 0, 0, ⟨#[]⟩, ⟨0, 0, 0, 0, ⟨#[]⟩⟩, []⟩ : Msg)) from rfl) ?_
 exact KF.n [(0, 0), (1, 1), (2, 2), (3, 3), (4, 4), (5, 5), (6, 6), (5002, 7)]
def K_impl_stepper_end (rs : List ResultVar) (s : Stepper) (w0_ : List Rec) : Exit → Sg → Prop := KF Tryz.prog 7 rs (.tup [.agg [.int .i64 s.r.id, .int .i64 s.r.of_, .int .i64 s.r.role, .int .i64 s.r.commit, .int .i64 s.r.hard.term, .int .i64 s.r.hard.vote, .ref 1, .ref 2, .ref 3, .ref 4], .ref 7, .ref 6]) [.box 102 [.int .i64 s.r.id, .int .i64 s.r.of_, .int .i64 s.r.role, .int .i64 s.r.commit, .int .i64 s.r.hard.term, .int .i64 s.r.hard.vote, .ref 1, .ref 2, .ref 3, .ref 4, .int .i64 s.was.id, .int .i64 s.was.of_, .int .i64 s.was.role, .int .i64 s.was.commit, .int .i64 s.was.hard.term, .int .i64 s.was.hard.vote, .sl false 6 (s.was.hard.log.map encEnt), .sl false 1 (s.was.yes.map encI), .sl false 1 (s.was.next.map encI), .sl false 1 (s.was.match_.map encI), .un, .ref 6], .arr 45 6 (s.r.hard.log.map encEnt), .arr 3 1 (s.r.yes.map encI), .arr 3 1 (s.r.next.map encI), .arr 3 1 (s.r.match_.map encI), .dead, .arr 51 17 (s.outs.map encOut), .arr 47 10 (w0_.map encRec)]
theorem impl_stepper_end_spec  (s : Stepper) (hr : s.recs.length ≤ 1048576) : FnSpec Tryz.prog 90 [.ptr 0 0 0] [.box 102 [.int .i64 s.r.id, .int .i64 s.r.of_, .int .i64 s.r.role, .int .i64 s.r.commit, .int .i64 s.r.hard.term, .int .i64 s.r.hard.vote, .ref 1, .ref 2, .ref 3, .ref 4, .int .i64 s.was.id, .int .i64 s.was.of_, .int .i64 s.was.role, .int .i64 s.was.commit, .int .i64 s.was.hard.term, .int .i64 s.was.hard.vote, .sl false 6 (s.was.hard.log.map encEnt), .sl false 1 (s.was.yes.map encI), .sl false 1 (s.was.next.map encI), .sl false 1 (s.was.match_.map encI), .ref 5, .ref 6], .arr 45 6 (s.r.hard.log.map encEnt), .arr 3 1 (s.r.yes.map encI), .arr 3 1 (s.r.next.map encI), .arr 3 1 (s.r.match_.map encI), .arr 47 10 (s.recs.map encRec), .arr 51 17 (s.outs.map encOut)] (.tup [.agg [.int .i64 s.r.id, .int .i64 s.r.of_, .int .i64 s.r.role, .int .i64 s.r.commit, .int .i64 s.r.hard.term, .int .i64 s.r.hard.vote, .ref 1, .ref 2, .ref 3, .ref 4], .ref 7, .ref 6]) [.box 102 [.int .i64 s.r.id, .int .i64 s.r.of_, .int .i64 s.r.role, .int .i64 s.r.commit, .int .i64 s.r.hard.term, .int .i64 s.r.hard.vote, .ref 1, .ref 2, .ref 3, .ref 4, .int .i64 s.was.id, .int .i64 s.was.of_, .int .i64 s.was.role, .int .i64 s.was.commit, .int .i64 s.was.hard.term, .int .i64 s.was.hard.vote, .sl false 6 (s.was.hard.log.map encEnt), .sl false 1 (s.was.yes.map encI), .sl false 1 (s.was.next.map encI), .sl false 1 (s.was.match_.map encI), .un, .ref 6], .arr 45 6 (s.r.hard.log.map encEnt), .arr 3 1 (s.r.yes.map encI), .arr 3 1 (s.r.next.map encI), .arr 3 1 (s.r.match_.map encI), .dead, .arr 51 17 (s.outs.map encOut), .arr 47 10 ((endRecs s).map encRec)] := by
 refine FnSpec.of 60 Tryz.func90 rfl Tryz.ntmps90 (by simp) (AW.weakK ?_)
 refine AW.q 3 ?_
 refine AW.seq ?_
 refine AW.weak (Sub.nils [⟨true, 102, some 6, 5001, 45, 6⟩, ⟨true, 102, some 7, 5002, 3, 1⟩, ⟨true, 102, some 8, 5003, 3, 1⟩, ⟨true, 102, some 9, 5004, 3, 1⟩] (by kernel_rfl)) ?_
 refine AW.gD Tryz_mix ?_
 refine At.zD 14 ?_
 refine AW.seq ?_
 refine AW.r ?_
 refine At.a 6 ?_
 by_cases h1 : s.r.hard.term = s.was.hard.term
 · refine At.sB 22 _ _ (sayET h1) ?_
   refine At.z 6 ?_
   refine AW.cE s.r.hard.vote s.was.hard.vote (fun h2 => ?_) (fun h2 => ?_)
   · refine AW.seq ?_
     refine AW.gD Tryz_mix ?_
     refine At.zD 15 ?_
     refine AW.ret ?_
     refine ⟨_, (Sub.trans (Sub.trans (Sub.refl _ _) (Sub.mv 5 8005 (by kernel_rfl) (by decide))) (Sub.un1 0 20 102 [.int .i64 s.r.id, .int .i64 s.r.of_, .int .i64 s.r.role, .int .i64 s.r.commit, .int .i64 s.r.hard.term, .int .i64 s.r.hard.vote, .ref 1, .ref 2, .ref 3, .ref 4, .int .i64 s.was.id, .int .i64 s.was.of_, .int .i64 s.was.role, .int .i64 s.was.commit, .int .i64 s.was.hard.term, .int .i64 s.was.hard.vote, .sl false 6 (s.was.hard.log.map encEnt), .sl false 1 (s.was.yes.map encI), .sl false 1 (s.was.next.map encI), .sl false 1 (s.was.match_.map encI), .ref 8005, .ref 6] (by kernel_rfl))), ?_⟩
     exact k1 (K_impl_stepper_end _ s) (show (s.recs) = (endRecs s) from by simp [endRecs, voteRec, h1, h2]; try rfl) (KF.n [(0, 0), (1, 1), (2, 2), (3, 3), (4, 4), (5, 5), (6, 6), (8005, 7)])
   refine AW.skip ?_
   refine AW.seq ?_
   refine AW.gD Tryz_mix ?_
   refine At.a 9 ?_
   refine At.ll 50 47 10 150 (45, 6) (([(⟨1, s.r.hard.term, s.r.hard.vote, 0, ⟨0, ⟨0, 0, 0, 0, (⟨#[]⟩ : ByteArray)⟩⟩⟩ : Rec)]).map encRec) ?_
   refine At.a 4 ?_
   refine At.apC 55 47 10 88 155 150 5 encRec ([(⟨1, s.r.hard.term, s.r.hard.vote, 0, ⟨0, ⟨0, 0, 0, 0, (⟨#[]⟩ : ByteArray)⟩⟩⟩ : Rec)]) s.recs (by simp only [List.length_map, List.length_append, List.length_take, List.length_drop, List.length_replicate, List.length_set, List.length_cons, List.length_nil]; omega) (allP_encRec _) ?_
   refine At.zD 7 ?_
   refine AW.ret ?_
   refine ⟨_, (Sub.trans (Sub.trans (Sub.refl _ _) (Sub.mv 5 8005 (by kernel_rfl) (by decide))) (Sub.un1 0 20 102 [.int .i64 s.r.id, .int .i64 s.r.of_, .int .i64 s.r.role, .int .i64 s.r.commit, .int .i64 s.r.hard.term, .int .i64 s.r.hard.vote, .ref 1, .ref 2, .ref 3, .ref 4, .int .i64 s.was.id, .int .i64 s.was.of_, .int .i64 s.was.role, .int .i64 s.was.commit, .int .i64 s.was.hard.term, .int .i64 s.was.hard.vote, .sl false 6 (s.was.hard.log.map encEnt), .sl false 1 (s.was.yes.map encI), .sl false 1 (s.was.next.map encI), .sl false 1 (s.was.match_.map encI), .ref 8005, .ref 6] (by kernel_rfl))), ?_⟩
   exact k1 (K_impl_stepper_end _ s) (show (([(⟨1, s.r.hard.term, s.r.hard.vote, 0, ⟨0, ⟨0, 0, 0, 0, (⟨#[]⟩ : ByteArray)⟩⟩⟩ : Rec)]) ++ s.recs) = (endRecs s) from by simp [endRecs, voteRec, h1, h2]; try rfl) (KF.n [(0, 0), (1, 1), (2, 2), (3, 3), (4, 4), (5, 5), (6, 6), (155, 7)])
 refine At.sB 22 _ _ (sayEF h1) ?_
 refine At.z 6 ?_
 refine AW.cond false (by kernel_rfl) (fun h => by cases h) (fun _ => ?_)
 refine AW.skip ?_
 refine AW.seq ?_
 refine AW.gD Tryz_mix ?_
 refine At.a 9 ?_
 refine At.ll 50 47 10 150 (45, 6) (([(⟨1, s.r.hard.term, s.r.hard.vote, 0, ⟨0, ⟨0, 0, 0, 0, (⟨#[]⟩ : ByteArray)⟩⟩⟩ : Rec)]).map encRec) ?_
 refine At.a 4 ?_
 refine At.apC 55 47 10 88 155 150 5 encRec ([(⟨1, s.r.hard.term, s.r.hard.vote, 0, ⟨0, ⟨0, 0, 0, 0, (⟨#[]⟩ : ByteArray)⟩⟩⟩ : Rec)]) s.recs (by simp only [List.length_map, List.length_append, List.length_take, List.length_drop, List.length_replicate, List.length_set, List.length_cons, List.length_nil]; omega) (allP_encRec _) ?_
 refine At.zD 7 ?_
 refine AW.ret ?_
 refine ⟨_, (Sub.trans (Sub.trans (Sub.refl _ _) (Sub.mv 5 8005 (by kernel_rfl) (by decide))) (Sub.un1 0 20 102 [.int .i64 s.r.id, .int .i64 s.r.of_, .int .i64 s.r.role, .int .i64 s.r.commit, .int .i64 s.r.hard.term, .int .i64 s.r.hard.vote, .ref 1, .ref 2, .ref 3, .ref 4, .int .i64 s.was.id, .int .i64 s.was.of_, .int .i64 s.was.role, .int .i64 s.was.commit, .int .i64 s.was.hard.term, .int .i64 s.was.hard.vote, .sl false 6 (s.was.hard.log.map encEnt), .sl false 1 (s.was.yes.map encI), .sl false 1 (s.was.next.map encI), .sl false 1 (s.was.match_.map encI), .ref 8005, .ref 6] (by kernel_rfl))), ?_⟩
 exact k1 (K_impl_stepper_end _ s) (show (([(⟨1, s.r.hard.term, s.r.hard.vote, 0, ⟨0, ⟨0, 0, 0, 0, (⟨#[]⟩ : ByteArray)⟩⟩⟩ : Rec)]) ++ s.recs) = (endRecs s) from by simp [endRecs, voteRec, h1]; try rfl) (KF.n [(0, 0), (1, 1), (2, 2), (3, 3), (4, 4), (5, 5), (6, 6), (155, 7)])
def K_impl_OnAsk (rs : List ResultVar) (r : Raft) (m : Msg) (w0_ : Raft) (w1_ : List Rec) (w2_ : List Out) : Exit → Sg → Prop := KF Tryz.prog 0 rs (.tup [.agg [.int .i64 w0_.id, .int .i64 w0_.of_, .int .i64 w0_.role, .int .i64 w0_.commit, .int .i64 w0_.hard.term, .int .i64 w0_.hard.vote, .ref 0, .ref 1, .ref 2, .ref 3], .ref 4, .ref 5]) [.arr 45 6 (w0_.hard.log.map encEnt), .arr 3 1 (w0_.yes.map encI), .arr 3 1 (w0_.next.map encI), .arr 3 1 (w0_.match_.map encI), .arr 47 10 (w1_.map encRec), .arr 51 17 (w2_.map encOut)]
theorem impl_OnAsk_spec  (r : Raft) (m : Msg) (hz : SmallR r) (hm : m.entries.length ≤ 1048576) : FnSpec Tryz.prog 36 [(raftA r), (msgA m)] [] (.tup [.agg [.int .i64 ((askR r m).id), .int .i64 ((askR r m).of_), .int .i64 ((askR r m).role), .int .i64 ((askR r m).commit), .int .i64 ((askR r m).hard.term), .int .i64 ((askR r m).hard.vote), .ref 0, .ref 1, .ref 2, .ref 3], .ref 4, .ref 5]) [.arr 45 6 (((askR r m).hard.log).map encEnt), .arr 3 1 (((askR r m).yes).map encI), .arr 3 1 (((askR r m).next).map encI), .arr 3 1 (((askR r m).match_).map encI), .arr 47 10 ((askRecs r m).map encRec), .arr 51 17 ((askOuts r m).map encOut)] := by
 obtain ⟨z1, z2, z3, z4⟩ := id hz
 refine FnSpec.of 113 Tryz.func36 rfl Tryz.ntmps36 (by simp) (AW.weakK ?_)
 by_cases hok : raftOk r = true
 · have hokn := raftOk1_nums (raftOk_1 hok)
   refine AW.q 5 ?_
   refine AW.seq ?_
   refine AW.weak (Sub.nils [⟨true, 104, some 6, 5001, 45, 6⟩, ⟨true, 104, some 7, 5002, 3, 1⟩, ⟨true, 104, some 8, 5003, 3, 1⟩, ⟨true, 104, some 9, 5004, 3, 1⟩] (by kernel_rfl)) ?_
   refine AW.g ?_
   refine At.a 1 ?_
   refine At.c (impl_stepOf_spec  r hz) Tryz.call80 true [] [(1280, 0), (1281, 1), (1282, 2), (1283, 3), (1284, 4), (1285, 5), (1286, 6)] [] trivial ?_
   refine At.z 1 ?_
   refine AW.seq ?_
   refine AW.r ?_
   refine At.a 2 ?_
   refine At.c (impl_stepper_mayHear_spec  (⟨r, r, [], []⟩ : Stepper) m 1 hz hm) Tryz.call85 true [(1280, 0), (1281, 1), (1282, 2), (1283, 3), (1284, 4), (1285, 5), (1286, 6)] [] [] trivial ?_
   refine At.z 1 ?_
   refine AW.cNB (hears r m 1) (fun h1 => ?_) (fun h1 => ?_)
   · refine AW.r ?_
     refine At.a 1 ?_
     refine At.c (impl_stepper_none_T_spec  (⟨r, r, [], []⟩ : Stepper) hz hok) Tryz.call88 true [(1280, 0), (1281, 1), (1282, 2), (1283, 3), (1284, 4), (1285, 5), (1286, 6)] [(1400, 7), (1401, 8), (1402, 9), (1403, 10), (1404, 11), (1405, 12)] [] trivial ?_
     refine At.z 6 ?_
     exact AW.ret (rf (k3 (K_impl_OnAsk _ r m) (show (r) = (askR r m) from by grind [askR, askRecs, askOuts, ask1, ask0, askYes, folT, same, voteRec, zEnt, zCmd, endRecs, chgB]) (show ([]) = (askRecs r m) from by grind [askR, askRecs, askOuts, ask1, ask0, askYes, folT, same, voteRec, zEnt, zCmd, endRecs, chgB]) (show ([]) = (askOuts r m) from by grind [askR, askRecs, askOuts, ask1, ask0, askYes, folT, same, voteRec, zEnt, zCmd, endRecs, chgB]) (KF.n [(1400, 0), (1401, 1), (1402, 2), (1403, 3), (1404, 4), (1405, 5)])))
   have hhr := hears_ok h1
   refine AW.skip ?_
   refine AW.r ?_
   refine At.a 3 ?_
   by_cases h2 : m.term ≤ r.hard.term
   · refine At.c (impl_stepper_followTerm_T_spec  (⟨r, r, [], []⟩ : Stepper) m.term h2) Tryz.call91 true [(1280, 0), (1281, 1), (1282, 2), (1283, 3), (1284, 4), (1285, 5), (1286, 6)] [] [] trivial ?_
     refine At.done rfl ?_
     refine AW.q 5 ?_
     refine AW.seq ?_
     refine AW.gD Tryz_mix ?_
     refine At.a 4 ?_
     refine At.c (impl_lastTerm_spec  r.hard.log (by omega)) Tryz.call113 false [] [] [(1281, 6, (r.hard.log.map encEnt))] ⟨rfl, ⟨45, (r.hard.log.map encEnt), by kernel_rfl, FrzIs.same (allP_encEnt _)⟩, trivial⟩ ?_
     refine At.a 5 ?_
     refine At.sL 41 encEnt r.hard.log ?_
     refine At.zD 2 ?_
     refine AW.seq ?_
     refine AW.cut [(102, 102), (103, 103), (104, 104), (1280, 1280), (1281, 1281), (1282, 1282), (1283, 1283), (1284, 1284), (1285, 1285), (1286, 1286), (5001, 5001), (5002, 5002), (5003, 5003), (5004, 5004)] [false, false, false, true, true, false, false, true, true] 11 (yesB r.hard.term r.hard.vote r.hard.log m) ?_ ?_
     · refine AW.gD Tryz_mix ?_
       refine At.a 8 ?_
       by_cases h3 : m.term = r.hard.term
       · refine At.sB 49 _ _ (sayET h3) ?_
         refine At.a 6 ?_
         by_cases h4 : r.hard.vote = 0
         · refine At.sB 55 _ _ (sayET h4) ?_
           refine At.a 16 ?_
           by_cases h5 : m.atTerm > (lastT r.hard.log)
           · refine At.sB 71 _ _ (sayT h5) ?_
             refine At.a 13 ?_
             refine At.sB 11 true (yesB r.hard.term r.hard.vote r.hard.log m) (congrArg V.bool (by grind [yesB, freshB])) ?_
             refine At.done rfl ⟨by kernel_rfl, rfl, ?_⟩
             exact Sub.cut [(102, 102), (103, 103), (104, 104), (1280, 1280), (1281, 1281), (1282, 1282), (1283, 1283), (1284, 1284), (1285, 1285), (1286, 1286), (5001, 5001), (5002, 5002), (5003, 5003), (5004, 5004)] [false, false, false, true, true, false, false, true, true] 11 _ (by kernel_rfl) (by kernel_rfl) (by kernel_rfl) (by kernel_rfl)
           refine At.sB 71 _ _ (sayF h5) ?_
           refine At.a 5 ?_
           by_cases h6 : m.atTerm = lastT r.hard.log
           · refine At.sB 76 _ _ (sayET h6) ?_
             refine At.a 8 ?_
             refine At.sB 11 (decide (m.at_ ≥ (r.hard.log.length : Int))) (yesB r.hard.term r.hard.vote r.hard.log m) (congrArg V.bool (by grind [yesB, freshB])) ?_
             refine At.done rfl ⟨by kernel_rfl, rfl, ?_⟩
             exact Sub.cut [(102, 102), (103, 103), (104, 104), (1280, 1280), (1281, 1281), (1282, 1282), (1283, 1283), (1284, 1284), (1285, 1285), (1286, 1286), (5001, 5001), (5002, 5002), (5003, 5003), (5004, 5004)] [false, false, false, true, true, false, false, true, true] 11 _ (by kernel_rfl) (by kernel_rfl) (by kernel_rfl) (by kernel_rfl)
           refine At.sB 76 _ _ (sayEF h6) ?_
           refine At.a 8 ?_
           refine At.sB 11 false (yesB r.hard.term r.hard.vote r.hard.log m) (congrArg V.bool (by grind [yesB, freshB])) ?_
           refine At.done rfl ⟨by kernel_rfl, rfl, ?_⟩
           exact Sub.cut [(102, 102), (103, 103), (104, 104), (1280, 1280), (1281, 1281), (1282, 1282), (1283, 1283), (1284, 1284), (1285, 1285), (1286, 1286), (5001, 5001), (5002, 5002), (5003, 5003), (5004, 5004)] [false, false, false, true, true, false, false, true, true] 11 _ (by kernel_rfl) (by kernel_rfl) (by kernel_rfl) (by kernel_rfl)
         refine At.sB 55 _ _ (sayEF h4) ?_
         refine At.a 7 ?_
         refine At.sI 62 (m.from_ + 1) (by omega) ?_
         refine At.a 4 ?_
         by_cases h7 : r.hard.vote = m.from_ + 1
         · refine At.sB 66 _ _ (sayET h7) ?_
           refine At.a 5 ?_
           by_cases h8 : m.atTerm > (lastT r.hard.log)
           · refine At.sB 71 _ _ (sayT h8) ?_
             refine At.a 13 ?_
             refine At.sB 11 true (yesB r.hard.term r.hard.vote r.hard.log m) (congrArg V.bool (by grind [yesB, freshB])) ?_
             refine At.done rfl ⟨by kernel_rfl, rfl, ?_⟩
             exact Sub.cut [(102, 102), (103, 103), (104, 104), (1280, 1280), (1281, 1281), (1282, 1282), (1283, 1283), (1284, 1284), (1285, 1285), (1286, 1286), (5001, 5001), (5002, 5002), (5003, 5003), (5004, 5004)] [false, false, false, true, true, false, false, true, true] 11 _ (by kernel_rfl) (by kernel_rfl) (by kernel_rfl) (by kernel_rfl)
           refine At.sB 71 _ _ (sayF h8) ?_
           refine At.a 5 ?_
           by_cases h9 : m.atTerm = lastT r.hard.log
           · refine At.sB 76 _ _ (sayET h9) ?_
             refine At.a 8 ?_
             refine At.sB 11 (decide (m.at_ ≥ (r.hard.log.length : Int))) (yesB r.hard.term r.hard.vote r.hard.log m) (congrArg V.bool (by grind [yesB, freshB])) ?_
             refine At.done rfl ⟨by kernel_rfl, rfl, ?_⟩
             exact Sub.cut [(102, 102), (103, 103), (104, 104), (1280, 1280), (1281, 1281), (1282, 1282), (1283, 1283), (1284, 1284), (1285, 1285), (1286, 1286), (5001, 5001), (5002, 5002), (5003, 5003), (5004, 5004)] [false, false, false, true, true, false, false, true, true] 11 _ (by kernel_rfl) (by kernel_rfl) (by kernel_rfl) (by kernel_rfl)
           refine At.sB 76 _ _ (sayEF h9) ?_
           refine At.a 8 ?_
           refine At.sB 11 false (yesB r.hard.term r.hard.vote r.hard.log m) (congrArg V.bool (by grind [yesB, freshB])) ?_
           refine At.done rfl ⟨by kernel_rfl, rfl, ?_⟩
           exact Sub.cut [(102, 102), (103, 103), (104, 104), (1280, 1280), (1281, 1281), (1282, 1282), (1283, 1283), (1284, 1284), (1285, 1285), (1286, 1286), (5001, 5001), (5002, 5002), (5003, 5003), (5004, 5004)] [false, false, false, true, true, false, false, true, true] 11 _ (by kernel_rfl) (by kernel_rfl) (by kernel_rfl) (by kernel_rfl)
         refine At.sB 66 _ _ (sayEF h7) ?_
         refine At.a 18 ?_
         refine At.sB 11 false (yesB r.hard.term r.hard.vote r.hard.log m) (congrArg V.bool (by grind [yesB, freshB])) ?_
         refine At.done rfl ⟨by kernel_rfl, rfl, ?_⟩
         exact Sub.cut [(102, 102), (103, 103), (104, 104), (1280, 1280), (1281, 1281), (1282, 1282), (1283, 1283), (1284, 1284), (1285, 1285), (1286, 1286), (5001, 5001), (5002, 5002), (5003, 5003), (5004, 5004)] [false, false, false, true, true, false, false, true, true] 11 _ (by kernel_rfl) (by kernel_rfl) (by kernel_rfl) (by kernel_rfl)
       refine At.sB 49 _ _ (sayEF h3) ?_
       refine At.a 35 ?_
       refine At.sB 11 false (yesB r.hard.term r.hard.vote r.hard.log m) (congrArg V.bool (by grind [yesB, freshB])) ?_
       refine At.done rfl ⟨by kernel_rfl, rfl, ?_⟩
       exact Sub.cut [(102, 102), (103, 103), (104, 104), (1280, 1280), (1281, 1281), (1282, 1282), (1283, 1283), (1284, 1284), (1285, 1285), (1286, 1286), (5001, 5001), (5002, 5002), (5003, 5003), (5004, 5004)] [false, false, false, true, true, false, false, true, true] 11 _ (by kernel_rfl) (by kernel_rfl) (by kernel_rfl) (by kernel_rfl)
     refine AW.seq ?_
     refine AW.q 1 ?_
     refine AW.cB (yesB r.hard.term r.hard.vote r.hard.log m) (fun h10 => ?_) (fun h10 => ?_)
     · refine AW.g ?_
       refine At.a 4 ?_
       refine At.sI 88 (m.from_ + 1) (by omega) ?_
       refine At.z 3 ?_
       refine AW.r ?_
       refine At.a 1 ?_
       refine At.c (impl_stepper_message_spec  (⟨⟨r.id, r.of_, r.role, r.commit, ⟨r.hard.term, m.from_ + 1, r.hard.log⟩, r.yes, r.next, r.match_⟩, r, [], []⟩ : Stepper) 2 ) Tryz.call114 true [(1280, 0), (1281, 1), (1282, 2), (1283, 3), (1284, 4), (1285, 5), (1286, 6)] [(2840, 7)] [] trivial ?_
       refine At.z 2 ?_
       refine AW.q 3 ?_
       refine AW.seq ?_
       refine AW.gD Tryz_mix ?_
       refine At.a 9 ?_
       refine At.lk 104 51 17 204 (45, 6) [2840] (([(⟨m.from_, ⟨2, r.id, r.hard.term, 0, 0, 0, yesB r.hard.term r.hard.vote r.hard.log m, 0, 0, ⟨#[]⟩, ⟨0, 0, 0, 0, ⟨#[]⟩⟩, []⟩⟩ : Out)]).map encOut) [(45, 6, [])] (by intro p hp; simp only [List.mem_cons, List.not_mem_nil, or_false] at hp; subst hp; all_goals first | exact flatEnts | exact flatInts | (intro x hx; cases hx)) ?_
       refine At.apK 105 51 17 168 205 1286 204 encOut ([] : List Out) ([(⟨m.from_, ⟨2, r.id, r.hard.term, 0, 0, 0, yesB r.hard.term r.hard.vote r.hard.log m, 0, 0, ⟨#[]⟩, ⟨0, 0, 0, 0, ⟨#[]⟩⟩, []⟩⟩ : Out)]) (by simp only [List.length_map, List.length_append, List.length_take, List.length_drop, List.length_replicate, List.length_set, List.length_cons, List.length_nil]; omega) ?_
       refine At.zD 3 ?_
       refine AW.r ?_
       refine At.a 1 ?_
       refine At.c (impl_stepper_end_spec  (⟨⟨r.id, r.of_, r.role, r.commit, ⟨r.hard.term, m.from_ + 1, r.hard.log⟩, r.yes, r.next, r.match_⟩, r, [], [(⟨m.from_, ⟨2, r.id, r.hard.term, 0, 0, 0, yesB r.hard.term r.hard.vote r.hard.log m, 0, 0, ⟨#[]⟩, ⟨0, 0, 0, 0, ⟨#[]⟩⟩, []⟩⟩ : Out)]⟩ : Stepper) (by simp only [List.length_map, List.length_append, List.length_take, List.length_drop, List.length_replicate, List.length_set, List.length_cons, List.length_nil]; omega)) Tryz.call90 true [(1280, 0), (1281, 1), (1282, 2), (1283, 3), (1284, 4), (1285, 5), (205, 6)] [(3180, 7)] [] trivial ?_
       refine At.z 6 ?_
       exact AW.ret (rf (k3 (K_impl_OnAsk _ r m) (show ((⟨r.id, r.of_, r.role, r.commit, ⟨r.hard.term, m.from_ + 1, r.hard.log⟩, r.yes, r.next, r.match_⟩ : Raft)) = (askR r m) from by grind [askR, askRecs, askOuts, ask1, ask0, askYes, folT, same, voteRec, zEnt, zCmd, endRecs, chgB]) (show (endRecs (⟨⟨r.id, r.of_, r.role, r.commit, ⟨r.hard.term, m.from_ + 1, r.hard.log⟩, r.yes, r.next, r.match_⟩, r, [], [(⟨m.from_, ⟨2, r.id, r.hard.term, 0, 0, 0, yesB r.hard.term r.hard.vote r.hard.log m, 0, 0, ⟨#[]⟩, ⟨0, 0, 0, 0, ⟨#[]⟩⟩, []⟩⟩ : Out)]⟩ : Stepper)) = (askRecs r m) from by grind [askR, askRecs, askOuts, ask1, ask0, askYes, folT, same, voteRec, zEnt, zCmd, endRecs, chgB]) (show ([(⟨m.from_, ⟨2, r.id, r.hard.term, 0, 0, 0, yesB r.hard.term r.hard.vote r.hard.log m, 0, 0, ⟨#[]⟩, ⟨0, 0, 0, 0, ⟨#[]⟩⟩, []⟩⟩ : Out)]) = (askOuts r m) from by grind [askR, askRecs, askOuts, ask1, ask0, askYes, folT, same, voteRec, zEnt, zCmd, endRecs, chgB]) (KF.n [(1281, 0), (1282, 1), (1283, 2), (1284, 3), (3180, 4), (205, 5)])))
     refine AW.skip ?_
     refine AW.r ?_
     refine At.a 1 ?_
     refine At.c (impl_stepper_message_spec  (⟨r, r, [], []⟩ : Stepper) 2 ) Tryz.call114 true [(1280, 0), (1281, 1), (1282, 2), (1283, 3), (1284, 4), (1285, 5), (1286, 6)] [(2840, 7)] [] trivial ?_
     refine At.z 2 ?_
     refine AW.q 3 ?_
     refine AW.seq ?_
     refine AW.gD Tryz_mix ?_
     refine At.a 9 ?_
     refine At.lk 104 51 17 204 (45, 6) [2840] (([(⟨m.from_, ⟨2, r.id, r.hard.term, 0, 0, 0, yesB r.hard.term r.hard.vote r.hard.log m, 0, 0, ⟨#[]⟩, ⟨0, 0, 0, 0, ⟨#[]⟩⟩, []⟩⟩ : Out)]).map encOut) [(45, 6, [])] (by intro p hp; simp only [List.mem_cons, List.not_mem_nil, or_false] at hp; subst hp; all_goals first | exact flatEnts | exact flatInts | (intro x hx; cases hx)) ?_
     refine At.apK 105 51 17 168 205 1286 204 encOut ([] : List Out) ([(⟨m.from_, ⟨2, r.id, r.hard.term, 0, 0, 0, yesB r.hard.term r.hard.vote r.hard.log m, 0, 0, ⟨#[]⟩, ⟨0, 0, 0, 0, ⟨#[]⟩⟩, []⟩⟩ : Out)]) (by simp only [List.length_map, List.length_append, List.length_take, List.length_drop, List.length_replicate, List.length_set, List.length_cons, List.length_nil]; omega) ?_
     refine At.zD 3 ?_
     refine AW.r ?_
     refine At.a 1 ?_
     refine At.c (impl_stepper_end_spec  (⟨r, r, [], [(⟨m.from_, ⟨2, r.id, r.hard.term, 0, 0, 0, yesB r.hard.term r.hard.vote r.hard.log m, 0, 0, ⟨#[]⟩, ⟨0, 0, 0, 0, ⟨#[]⟩⟩, []⟩⟩ : Out)]⟩ : Stepper) (by simp only [List.length_map, List.length_append, List.length_take, List.length_drop, List.length_replicate, List.length_set, List.length_cons, List.length_nil]; omega)) Tryz.call90 true [(1280, 0), (1281, 1), (1282, 2), (1283, 3), (1284, 4), (1285, 5), (205, 6)] [(3180, 7)] [] trivial ?_
     refine At.z 6 ?_
     exact AW.ret (rf (k3 (K_impl_OnAsk _ r m) (show (r) = (askR r m) from by grind [askR, askRecs, askOuts, ask1, ask0, askYes, folT, same, voteRec, zEnt, zCmd, endRecs, chgB]) (show (endRecs (⟨r, r, [], [(⟨m.from_, ⟨2, r.id, r.hard.term, 0, 0, 0, yesB r.hard.term r.hard.vote r.hard.log m, 0, 0, ⟨#[]⟩, ⟨0, 0, 0, 0, ⟨#[]⟩⟩, []⟩⟩ : Out)]⟩ : Stepper)) = (askRecs r m) from by grind [askR, askRecs, askOuts, ask1, ask0, askYes, folT, same, voteRec, zEnt, zCmd, endRecs, chgB]) (show ([(⟨m.from_, ⟨2, r.id, r.hard.term, 0, 0, 0, yesB r.hard.term r.hard.vote r.hard.log m, 0, 0, ⟨#[]⟩, ⟨0, 0, 0, 0, ⟨#[]⟩⟩, []⟩⟩ : Out)]) = (askOuts r m) from by grind [askR, askRecs, askOuts, ask1, ask0, askYes, folT, same, voteRec, zEnt, zCmd, endRecs, chgB]) (KF.n [(1281, 0), (1282, 1), (1283, 2), (1284, 3), (3180, 4), (205, 5)])))
   refine At.c (impl_stepper_followTerm_F_spec  (⟨r, r, [], []⟩ : Stepper) m.term h2) Tryz.call91 true [(1280, 0), (1281, 1), (1282, 2), (1283, 3), (1284, 4), (1285, 5), (1286, 6)] [(1540, 7), (1541, 8), (1542, 9)] [] trivial ?_
   refine At.done rfl ?_
   refine AW.q 5 ?_
   refine AW.seq ?_
   refine AW.gD Tryz_mix ?_
   refine At.a 4 ?_
   refine At.c (impl_lastTerm_spec  r.hard.log (by omega)) Tryz.call113 false [] [] [(1281, 6, (r.hard.log.map encEnt))] ⟨rfl, ⟨45, (r.hard.log.map encEnt), by kernel_rfl, FrzIs.same (allP_encEnt _)⟩, trivial⟩ ?_
   refine At.a 5 ?_
   refine At.sL 41 encEnt r.hard.log ?_
   refine At.zD 2 ?_
   refine AW.seq ?_
   refine AW.cut [(102, 102), (103, 103), (104, 104), (1280, 1280), (1281, 1281), (1285, 1285), (1286, 1286), (1540, 1540), (1541, 1541), (1542, 1542), (5001, 5001), (5002, 5002), (5003, 5003), (5004, 5004)] [false, false, false, true, true, false, false, true, true] 11 (yesB m.term 0 r.hard.log m) ?_ ?_
   · refine AW.gD Tryz_mix ?_
     refine At.a 8 ?_
     by_cases h11 : m.term = m.term
     · refine At.sB 49 _ _ (sayET h11) ?_
       refine At.a 6 ?_
       by_cases h12 : 0 = 0
       · refine At.sB 55 _ _ (sayET h12) ?_
         refine At.a 16 ?_
         by_cases h13 : m.atTerm > (lastT r.hard.log)
         · refine At.sB 71 _ _ (sayT h13) ?_
           refine At.a 13 ?_
           refine At.sB 11 true (yesB m.term 0 r.hard.log m) (congrArg V.bool (by grind [yesB, freshB])) ?_
           refine At.done rfl ⟨by kernel_rfl, rfl, ?_⟩
           exact Sub.cut [(102, 102), (103, 103), (104, 104), (1280, 1280), (1281, 1281), (1285, 1285), (1286, 1286), (1540, 1540), (1541, 1541), (1542, 1542), (5001, 5001), (5002, 5002), (5003, 5003), (5004, 5004)] [false, false, false, true, true, false, false, true, true] 11 _ (by kernel_rfl) (by kernel_rfl) (by kernel_rfl) (by kernel_rfl)
         refine At.sB 71 _ _ (sayF h13) ?_
         refine At.a 5 ?_
         by_cases h14 : m.atTerm = lastT r.hard.log
         · refine At.sB 76 _ _ (sayET h14) ?_
           refine At.a 8 ?_
           refine At.sB 11 (decide (m.at_ ≥ (r.hard.log.length : Int))) (yesB m.term 0 r.hard.log m) (congrArg V.bool (by grind [yesB, freshB])) ?_
           refine At.done rfl ⟨by kernel_rfl, rfl, ?_⟩
           exact Sub.cut [(102, 102), (103, 103), (104, 104), (1280, 1280), (1281, 1281), (1285, 1285), (1286, 1286), (1540, 1540), (1541, 1541), (1542, 1542), (5001, 5001), (5002, 5002), (5003, 5003), (5004, 5004)] [false, false, false, true, true, false, false, true, true] 11 _ (by kernel_rfl) (by kernel_rfl) (by kernel_rfl) (by kernel_rfl)
         refine At.sB 76 _ _ (sayEF h14) ?_
         refine At.a 8 ?_
         refine At.sB 11 false (yesB m.term 0 r.hard.log m) (congrArg V.bool (by grind [yesB, freshB])) ?_
         refine At.done rfl ⟨by kernel_rfl, rfl, ?_⟩
         exact Sub.cut [(102, 102), (103, 103), (104, 104), (1280, 1280), (1281, 1281), (1285, 1285), (1286, 1286), (1540, 1540), (1541, 1541), (1542, 1542), (5001, 5001), (5002, 5002), (5003, 5003), (5004, 5004)] [false, false, false, true, true, false, false, true, true] 11 _ (by kernel_rfl) (by kernel_rfl) (by kernel_rfl) (by kernel_rfl)
       refine At.sB 55 _ _ (sayEF h12) ?_
       refine At.a 7 ?_
       refine At.sI 62 (m.from_ + 1) (by omega) ?_
       refine At.a 4 ?_
       by_cases h15 : 0 = m.from_ + 1
       · refine At.sB 66 _ _ (sayET h15) ?_
         refine At.a 5 ?_
         by_cases h16 : m.atTerm > (lastT r.hard.log)
         · refine At.sB 71 _ _ (sayT h16) ?_
           refine At.a 13 ?_
           refine At.sB 11 true (yesB m.term 0 r.hard.log m) (congrArg V.bool (by grind [yesB, freshB])) ?_
           refine At.done rfl ⟨by kernel_rfl, rfl, ?_⟩
           exact Sub.cut [(102, 102), (103, 103), (104, 104), (1280, 1280), (1281, 1281), (1285, 1285), (1286, 1286), (1540, 1540), (1541, 1541), (1542, 1542), (5001, 5001), (5002, 5002), (5003, 5003), (5004, 5004)] [false, false, false, true, true, false, false, true, true] 11 _ (by kernel_rfl) (by kernel_rfl) (by kernel_rfl) (by kernel_rfl)
         refine At.sB 71 _ _ (sayF h16) ?_
         refine At.a 5 ?_
         by_cases h17 : m.atTerm = lastT r.hard.log
         · refine At.sB 76 _ _ (sayET h17) ?_
           refine At.a 8 ?_
           refine At.sB 11 (decide (m.at_ ≥ (r.hard.log.length : Int))) (yesB m.term 0 r.hard.log m) (congrArg V.bool (by grind [yesB, freshB])) ?_
           refine At.done rfl ⟨by kernel_rfl, rfl, ?_⟩
           exact Sub.cut [(102, 102), (103, 103), (104, 104), (1280, 1280), (1281, 1281), (1285, 1285), (1286, 1286), (1540, 1540), (1541, 1541), (1542, 1542), (5001, 5001), (5002, 5002), (5003, 5003), (5004, 5004)] [false, false, false, true, true, false, false, true, true] 11 _ (by kernel_rfl) (by kernel_rfl) (by kernel_rfl) (by kernel_rfl)
         refine At.sB 76 _ _ (sayEF h17) ?_
         refine At.a 8 ?_
         refine At.sB 11 false (yesB m.term 0 r.hard.log m) (congrArg V.bool (by grind [yesB, freshB])) ?_
         refine At.done rfl ⟨by kernel_rfl, rfl, ?_⟩
         exact Sub.cut [(102, 102), (103, 103), (104, 104), (1280, 1280), (1281, 1281), (1285, 1285), (1286, 1286), (1540, 1540), (1541, 1541), (1542, 1542), (5001, 5001), (5002, 5002), (5003, 5003), (5004, 5004)] [false, false, false, true, true, false, false, true, true] 11 _ (by kernel_rfl) (by kernel_rfl) (by kernel_rfl) (by kernel_rfl)
       refine At.sB 66 _ _ (sayEF h15) ?_
       refine At.a 18 ?_
       refine At.sB 11 false (yesB m.term 0 r.hard.log m) (congrArg V.bool (by grind [yesB, freshB])) ?_
       refine At.done rfl ⟨by kernel_rfl, rfl, ?_⟩
       exact Sub.cut [(102, 102), (103, 103), (104, 104), (1280, 1280), (1281, 1281), (1285, 1285), (1286, 1286), (1540, 1540), (1541, 1541), (1542, 1542), (5001, 5001), (5002, 5002), (5003, 5003), (5004, 5004)] [false, false, false, true, true, false, false, true, true] 11 _ (by kernel_rfl) (by kernel_rfl) (by kernel_rfl) (by kernel_rfl)
     refine At.sB 49 _ _ (sayEF h11) ?_
     refine At.a 35 ?_
     refine At.sB 11 false (yesB m.term 0 r.hard.log m) (congrArg V.bool (by grind [yesB, freshB])) ?_
     refine At.done rfl ⟨by kernel_rfl, rfl, ?_⟩
     exact Sub.cut [(102, 102), (103, 103), (104, 104), (1280, 1280), (1281, 1281), (1285, 1285), (1286, 1286), (1540, 1540), (1541, 1541), (1542, 1542), (5001, 5001), (5002, 5002), (5003, 5003), (5004, 5004)] [false, false, false, true, true, false, false, true, true] 11 _ (by kernel_rfl) (by kernel_rfl) (by kernel_rfl) (by kernel_rfl)
   refine AW.seq ?_
   refine AW.q 1 ?_
   refine AW.cB (yesB m.term 0 r.hard.log m) (fun h18 => ?_) (fun h18 => ?_)
   · refine AW.g ?_
     refine At.a 4 ?_
     refine At.sI 88 (m.from_ + 1) (by omega) ?_
     refine At.z 3 ?_
     refine AW.r ?_
     refine At.a 1 ?_
     refine At.c (impl_stepper_message_spec  (⟨⟨r.id, r.of_, 1, r.commit, ⟨m.term, m.from_ + 1, r.hard.log⟩, [], [], []⟩, r, [], []⟩ : Stepper) 2 ) Tryz.call114 true [(1280, 0), (1281, 1), (1540, 2), (1541, 3), (1542, 4), (1285, 5), (1286, 6)] [(2840, 7)] [] trivial ?_
     refine At.z 2 ?_
     refine AW.q 3 ?_
     refine AW.seq ?_
     refine AW.gD Tryz_mix ?_
     refine At.a 9 ?_
     refine At.lk 104 51 17 204 (45, 6) [2840] (([(⟨m.from_, ⟨2, r.id, m.term, 0, 0, 0, yesB m.term 0 r.hard.log m, 0, 0, ⟨#[]⟩, ⟨0, 0, 0, 0, ⟨#[]⟩⟩, []⟩⟩ : Out)]).map encOut) [(45, 6, [])] (by intro p hp; simp only [List.mem_cons, List.not_mem_nil, or_false] at hp; subst hp; all_goals first | exact flatEnts | exact flatInts | (intro x hx; cases hx)) ?_
     refine At.apK 105 51 17 168 205 1286 204 encOut ([] : List Out) ([(⟨m.from_, ⟨2, r.id, m.term, 0, 0, 0, yesB m.term 0 r.hard.log m, 0, 0, ⟨#[]⟩, ⟨0, 0, 0, 0, ⟨#[]⟩⟩, []⟩⟩ : Out)]) (by simp only [List.length_map, List.length_append, List.length_take, List.length_drop, List.length_replicate, List.length_set, List.length_cons, List.length_nil]; omega) ?_
     refine At.zD 3 ?_
     refine AW.r ?_
     refine At.a 1 ?_
     refine At.c (impl_stepper_end_spec  (⟨⟨r.id, r.of_, 1, r.commit, ⟨m.term, m.from_ + 1, r.hard.log⟩, [], [], []⟩, r, [], [(⟨m.from_, ⟨2, r.id, m.term, 0, 0, 0, yesB m.term 0 r.hard.log m, 0, 0, ⟨#[]⟩, ⟨0, 0, 0, 0, ⟨#[]⟩⟩, []⟩⟩ : Out)]⟩ : Stepper) (by simp only [List.length_map, List.length_append, List.length_take, List.length_drop, List.length_replicate, List.length_set, List.length_cons, List.length_nil]; omega)) Tryz.call90 true [(1280, 0), (1281, 1), (1540, 2), (1541, 3), (1542, 4), (1285, 5), (205, 6)] [(3180, 7)] [] trivial ?_
     refine At.z 6 ?_
     exact AW.ret (rf (k3 (K_impl_OnAsk _ r m) (show ((⟨r.id, r.of_, 1, r.commit, ⟨m.term, m.from_ + 1, r.hard.log⟩, [], [], []⟩ : Raft)) = (askR r m) from by grind [askR, askRecs, askOuts, ask1, ask0, askYes, folT, same, voteRec, zEnt, zCmd, endRecs, chgB]) (show (endRecs (⟨⟨r.id, r.of_, 1, r.commit, ⟨m.term, m.from_ + 1, r.hard.log⟩, [], [], []⟩, r, [], [(⟨m.from_, ⟨2, r.id, m.term, 0, 0, 0, yesB m.term 0 r.hard.log m, 0, 0, ⟨#[]⟩, ⟨0, 0, 0, 0, ⟨#[]⟩⟩, []⟩⟩ : Out)]⟩ : Stepper)) = (askRecs r m) from by grind [askR, askRecs, askOuts, ask1, ask0, askYes, folT, same, voteRec, zEnt, zCmd, endRecs, chgB]) (show ([(⟨m.from_, ⟨2, r.id, m.term, 0, 0, 0, yesB m.term 0 r.hard.log m, 0, 0, ⟨#[]⟩, ⟨0, 0, 0, 0, ⟨#[]⟩⟩, []⟩⟩ : Out)]) = (askOuts r m) from by grind [askR, askRecs, askOuts, ask1, ask0, askYes, folT, same, voteRec, zEnt, zCmd, endRecs, chgB]) (KF.n [(1281, 0), (1540, 1), (1541, 2), (1542, 3), (3180, 4), (205, 5)])))
   refine AW.skip ?_
   refine AW.r ?_
   refine At.a 1 ?_
   refine At.c (impl_stepper_message_spec  (⟨⟨r.id, r.of_, 1, r.commit, ⟨m.term, 0, r.hard.log⟩, [], [], []⟩, r, [], []⟩ : Stepper) 2 ) Tryz.call114 true [(1280, 0), (1281, 1), (1540, 2), (1541, 3), (1542, 4), (1285, 5), (1286, 6)] [(2840, 7)] [] trivial ?_
   refine At.z 2 ?_
   refine AW.q 3 ?_
   refine AW.seq ?_
   refine AW.gD Tryz_mix ?_
   refine At.a 9 ?_
   refine At.lk 104 51 17 204 (45, 6) [2840] (([(⟨m.from_, ⟨2, r.id, m.term, 0, 0, 0, yesB m.term 0 r.hard.log m, 0, 0, ⟨#[]⟩, ⟨0, 0, 0, 0, ⟨#[]⟩⟩, []⟩⟩ : Out)]).map encOut) [(45, 6, [])] (by intro p hp; simp only [List.mem_cons, List.not_mem_nil, or_false] at hp; subst hp; all_goals first | exact flatEnts | exact flatInts | (intro x hx; cases hx)) ?_
   refine At.apK 105 51 17 168 205 1286 204 encOut ([] : List Out) ([(⟨m.from_, ⟨2, r.id, m.term, 0, 0, 0, yesB m.term 0 r.hard.log m, 0, 0, ⟨#[]⟩, ⟨0, 0, 0, 0, ⟨#[]⟩⟩, []⟩⟩ : Out)]) (by simp only [List.length_map, List.length_append, List.length_take, List.length_drop, List.length_replicate, List.length_set, List.length_cons, List.length_nil]; omega) ?_
   refine At.zD 3 ?_
   refine AW.r ?_
   refine At.a 1 ?_
   refine At.c (impl_stepper_end_spec  (⟨⟨r.id, r.of_, 1, r.commit, ⟨m.term, 0, r.hard.log⟩, [], [], []⟩, r, [], [(⟨m.from_, ⟨2, r.id, m.term, 0, 0, 0, yesB m.term 0 r.hard.log m, 0, 0, ⟨#[]⟩, ⟨0, 0, 0, 0, ⟨#[]⟩⟩, []⟩⟩ : Out)]⟩ : Stepper) (by simp only [List.length_map, List.length_append, List.length_take, List.length_drop, List.length_replicate, List.length_set, List.length_cons, List.length_nil]; omega)) Tryz.call90 true [(1280, 0), (1281, 1), (1540, 2), (1541, 3), (1542, 4), (1285, 5), (205, 6)] [(3180, 7)] [] trivial ?_
   refine At.z 6 ?_
   exact AW.ret (rf (k3 (K_impl_OnAsk _ r m) (show ((⟨r.id, r.of_, 1, r.commit, ⟨m.term, 0, r.hard.log⟩, [], [], []⟩ : Raft)) = (askR r m) from by grind [askR, askRecs, askOuts, ask1, ask0, askYes, folT, same, voteRec, zEnt, zCmd, endRecs, chgB]) (show (endRecs (⟨⟨r.id, r.of_, 1, r.commit, ⟨m.term, 0, r.hard.log⟩, [], [], []⟩, r, [], [(⟨m.from_, ⟨2, r.id, m.term, 0, 0, 0, yesB m.term 0 r.hard.log m, 0, 0, ⟨#[]⟩, ⟨0, 0, 0, 0, ⟨#[]⟩⟩, []⟩⟩ : Out)]⟩ : Stepper)) = (askRecs r m) from by grind [askR, askRecs, askOuts, ask1, ask0, askYes, folT, same, voteRec, zEnt, zCmd, endRecs, chgB]) (show ([(⟨m.from_, ⟨2, r.id, m.term, 0, 0, 0, yesB m.term 0 r.hard.log m, 0, 0, ⟨#[]⟩, ⟨0, 0, 0, 0, ⟨#[]⟩⟩, []⟩⟩ : Out)]) = (askOuts r m) from by grind [askR, askRecs, askOuts, ask1, ask0, askYes, folT, same, voteRec, zEnt, zCmd, endRecs, chgB]) (KF.n [(1281, 0), (1540, 1), (1541, 2), (1542, 3), (3180, 4), (205, 5)])))
 refine AW.q 5 ?_
 refine AW.seq ?_
 refine AW.weak (Sub.nils [⟨true, 104, some 6, 5001, 45, 6⟩, ⟨true, 104, some 7, 5002, 3, 1⟩, ⟨true, 104, some 8, 5003, 3, 1⟩, ⟨true, 104, some 9, 5004, 3, 1⟩] (by kernel_rfl)) ?_
 refine AW.g ?_
 refine At.a 1 ?_
 refine At.c (impl_stepOf_spec  r hz) Tryz.call80 true [] [(1280, 0), (1281, 1), (1282, 2), (1283, 3), (1284, 4), (1285, 5), (1286, 6)] [] trivial ?_
 refine At.z 1 ?_
 refine AW.seq ?_
 refine AW.r ?_
 refine At.a 2 ?_
 refine At.c (impl_stepper_mayHear_spec  (⟨r, r, [], []⟩ : Stepper) m 1 hz hm) Tryz.call85 true [(1280, 0), (1281, 1), (1282, 2), (1283, 3), (1284, 4), (1285, 5), (1286, 6)] [] [] trivial ?_
 refine At.z 1 ?_
 refine AW.condT (!(hears r m 1)) (by kernel_rfl) (by rw [show (hears r m 1) = false from (hears_no hok)]; rfl) ?_
 refine AW.r ?_
 refine At.a 1 ?_
 refine At.c (impl_stepper_none_F_spec  (⟨r, r, [], []⟩ : Stepper) hz hok) Tryz.call88 true [(1280, 0), (1281, 1), (1282, 2), (1283, 3), (1284, 4), (1285, 5), (1286, 6)] [(1400, 7), (1401, 8), (1402, 9), (1403, 10), (1404, 11), (1405, 12)] [] trivial ?_
 refine At.z 6 ?_
 exact AW.ret (rf (k3 (K_impl_OnAsk _ r m) (show ((⟨0, 0, 0, 0, ⟨0, 0, []⟩, [], [], []⟩ : Raft)) = (askR r m) from by simp [askR, askRecs, askOuts, same, hok, hears_no hok]; try rfl) (show ([]) = (askRecs r m) from by simp [askR, askRecs, askOuts, same, hok, hears_no hok]; try rfl) (show ([]) = (askOuts r m) from by simp [askR, askRecs, askOuts, same, hok, hears_no hok]; try rfl) (KF.n [(1400, 0), (1401, 1), (1402, 2), (1403, 3), (1404, 4), (1405, 5)])))
theorem impl_termAt_spec  (l : List Ent) (at_ : Int) (hl : l.length ≤ 1048576) (ha : 0 ≤ at_ ∧ at_ ≤ l.length) : FnSpec Tryz.prog 158 [.sl false 6 (l.map encEnt), .int .i64 at_] [] (.int .i64 (termAt l at_)) [] := by
 refine FnSpec.of 13 Tryz.func158 rfl Tryz.ntmps158 (by simp) (AW.weakK ?_)
 refine AW.q 1 ?_
 refine AW.seq ?_
 refine AW.q 2 ?_
 refine AW.cE at_ (0 : Int) (fun h1 => ?_) (fun h1 => ?_)
 · refine AW.q 1 ?_
   refine AW.ret ?_
   refine ⟨_, Sub.refl _ _, ?_⟩
   refine KF.conv (fun w => .int .i64 w) (fun w => []) (show (0) = (termAt l at_) from by unfold termAt; first | (rw [if_pos (by omega)]; done) | (rw [if_neg (by omega), he1]; rfl)) ?_
   exact KF.n []
 refine AW.skip ?_
 refine AW.r ?_
 refine At.a 3 ?_
 refine At.sI 9 (at_ - 1) (by omega) ?_
 refine At.iSl 24 10 (.tmp 7) (.tmp 9) false 6 (l.map encEnt) .i64 (at_ - 1) 45 (by omega) (by simp only [List.length_map]; omega) ?_
 refine At.a 1 ?_
 refine Exists.elim (gE l ((at_ - 1).toNat) (by omega)) fun e1 he1 => ?_
 refine At.lVp 3 12 (.tmp 11) false 6 (l.map encEnt) ((at_ - 1).toNat) 0 false 1 (encEnt e1) (.int .i64 e1.term) (mapGet he1) ?_
 refine At.z 1 ?_
 refine AW.ret ?_
 refine ⟨_, Sub.refl _ _, ?_⟩
 refine KF.conv (fun w => .int .i64 w) (fun w => []) (show (e1.term) = (termAt l at_) from by unfold termAt; first | (rw [if_pos (by omega)]; done) | (rw [if_neg (by omega), he1]; rfl)) ?_
 exact KF.n []
theorem impl_stepper_send_spec  (s : Stepper) (i : Int) (hz : SmallR s.r) (hi : 0 ≤ i ∧ i < s.r.next.length) (hn : NextOk s.r) (ho : s.outs.length ≤ 2000) : FnSpec Tryz.prog 106 [.ptr 0 0 0, .int .i64 i] [.box 102 [.int .i64 s.r.id, .int .i64 s.r.of_, .int .i64 s.r.role, .int .i64 s.r.commit, .int .i64 s.r.hard.term, .int .i64 s.r.hard.vote, .ref 1, .ref 2, .ref 3, .ref 4, .int .i64 s.was.id, .int .i64 s.was.of_, .int .i64 s.was.role, .int .i64 s.was.commit, .int .i64 s.was.hard.term, .int .i64 s.was.hard.vote, .sl false 6 (s.was.hard.log.map encEnt), .sl false 1 (s.was.yes.map encI), .sl false 1 (s.was.next.map encI), .sl false 1 (s.was.match_.map encI), .ref 5, .ref 6], .arr 45 6 (s.r.hard.log.map encEnt), .arr 3 1 (s.r.yes.map encI), .arr 3 1 (s.r.next.map encI), .arr 3 1 (s.r.match_.map encI), .arr 47 10 (s.recs.map encRec), .arr 51 17 (s.outs.map encOut)] (.tup []) [.box 102 [.int .i64 s.r.id, .int .i64 s.r.of_, .int .i64 s.r.role, .int .i64 s.r.commit, .int .i64 s.r.hard.term, .int .i64 s.r.hard.vote, .ref 1, .ref 2, .ref 3, .ref 4, .int .i64 s.was.id, .int .i64 s.was.of_, .int .i64 s.was.role, .int .i64 s.was.commit, .int .i64 s.was.hard.term, .int .i64 s.was.hard.vote, .sl false 6 (s.was.hard.log.map encEnt), .sl false 1 (s.was.yes.map encI), .sl false 1 (s.was.next.map encI), .sl false 1 (s.was.match_.map encI), .ref 5, .ref 7], .arr 45 6 (s.r.hard.log.map encEnt), .arr 3 1 (s.r.yes.map encI), .arr 3 1 (s.r.next.map encI), .arr 3 1 (s.r.match_.map encI), .arr 47 10 (s.recs.map encRec), .dead, .arr 51 17 ((s.outs ++ [sendOf s.r i]).map encOut)] := by
 obtain ⟨z1, z2, z3, z4⟩ := id hz
 refine FnSpec.of 59 Tryz.func106 rfl Tryz.ntmps106 (by simp) (AW.weakK ?_)
 refine AW.q 7 ?_
 refine AW.r ?_
 refine At.a 1 ?_
 refine At.c (impl_stepper_message_spec  s 3 ) Tryz.call114 true [(0, 0), (1, 1), (2, 2), (3, 3), (4, 4), (5, 5), (6, 6)] [(1260, 7)] [] trivial ?_
 refine At.z 2 ?_
 refine AW.r ?_
 refine At.a 6 ?_
 refine At.iRf 27 20 (.tmp 18) (.tmp 19) 3 (s.r.next.map encI) .i64 i 3 1 (by omega) (by simp only [List.length_map]; omega) ?_
 refine Exists.elim (gE s.r.next ((i).toNat) (by omega)) fun e1 he1 => ?_
 have hxe1 := hn _ (List.mem_of_getElem? he1)
 refine At.lEl 3 21 (.tmp 20) 3 3 1 (s.r.next.map encI) ((i).toNat) 0 false 1 (encI e1) (.int .i64 e1) (mapGet he1) ?_
 refine At.a 1 ?_
 refine At.sI 22 (e1 - 1) (by omega) ?_
 refine At.z 2 ?_
 refine AW.seq ?_
 refine AW.gD Tryz_mix ?_
 refine At.a 3 ?_
 refine At.c (impl_termAt_spec  s.r.hard.log (e1 - 1) (by omega) (by omega)) Tryz.call158 false [] [] [(1, 6, (s.r.hard.log.map encEnt))] ⟨rfl, ⟨45, (s.r.hard.log.map encEnt), by kernel_rfl, FrzIs.same (allP_encEnt _)⟩, trivial⟩ ?_
 refine At.zD 9 ?_
 refine AW.r ?_
 refine At.a 6 ?_
 refine At.sJ 40 ((e1 - 1) + 6) (e1 + 5) (by omega) (by omega) ?_
 refine At.a 2 ?_
 refine At.sL 42 encEnt s.r.hard.log ?_
 refine At.mm (d := 43) (b := .min) (x := .tmp 40) (y := .tmp 42) (ats := #[3, 3]) (q := .i64) (m := e1 + 5) (n := (s.r.hard.log.length : Int)) (if (s.r.hard.log.length : Int) < (e1 + 5) then (s.r.hard.log.length : Int) else e1 + 5) (by kernel_rfl) (by kernel_rfl) (by kernel_rfl) (by kernel_rfl) (.inl ⟨rfl, rfl⟩) ?_
 refine At.say 43 (.int .i64 (if (s.r.hard.log.length : Int) < (e1 + 5) then (s.r.hard.log.length : Int) else e1 + 5)) (.int .i64 (min (e1 + 5) (s.r.hard.log.length : Int))) (by kernel_rfl) (congrArg (V.int .i64) (by omega)) ?_
 refine At.sliceRef (t := 24) (d := 44) (e := 45) (es := 6) (i := 1) (x := .tmp 35) (lx := some (.tmp 37)) (hx := some (.tmp 43)) (xs := (s.r.hard.log.map encEnt)) (vl := .int .i64 (e1 - 1)) (vh := .int .i64 (min (e1 + 5) (s.r.hard.log.length : Int))) ((e1 - 1).toNat) ((min (e1 + 5) (s.r.hard.log.length : Int)).toNat) (by kernel_rfl) (by kernel_rfl) (by kernel_rfl) (by kernel_rfl) (by kernel_rfl) (.inr ⟨_, _, rfl, sayNat (by omega)⟩) (.inr ⟨_, _, rfl, sayNat (by omega)⟩) (by omega) (by simp only [List.length_map]; omega) ?_
 refine At.call (impl_copyLog_spec  ((s.r.hard.log.drop ((e1 - 1).toNat)).take (((min (e1 + 5) (s.r.hard.log.length : Int)).toNat) - ((e1 - 1).toNat))) (by simp only [List.length_map, List.length_append, List.length_take, List.length_drop, List.length_replicate, List.length_set, List.length_cons, List.length_nil]; omega)) Tryz.call162 false [] [(1900, 0)] [(1, 6, (s.r.hard.log.map encEnt))] (by kernel_rfl) (by kernel_rfl) (Eq.trans (b := [.sl false 6 (((s.r.hard.log.map encEnt).drop ((e1 - 1).toNat)).take (((min (e1 + 5) (s.r.hard.log.length : Int)).toNat) - ((e1 - 1).toNat)))]) (by kernel_rfl) (by simp only [List.map_take, List.map_drop])) (by kernel_rfl) (by kernel_rfl) ⟨rfl, ⟨45, (s.r.hard.log.map encEnt), by kernel_rfl, FrzIs.same (allP_encEnt _)⟩, trivial⟩ ?_
 refine At.z 2 ?_
 refine AW.gD Tryz_mix ?_
 refine At.a 8 ?_
 refine At.lk 55 51 17 155 (45, 6) [1900] (([(⟨i, ⟨3, s.r.id, s.r.hard.term, e1 - 1, termAt s.r.hard.log (e1 - 1), s.r.commit, false, 0, 0, ⟨#[]⟩, ⟨0, 0, 0, 0, ⟨#[]⟩⟩, ((s.r.hard.log.drop ((e1 - 1).toNat)).take (((min (e1 + 5) (s.r.hard.log.length : Int)).toNat) - ((e1 - 1).toNat)))⟩⟩ : Out)]).map encOut) [(45, 6, (((s.r.hard.log.drop ((e1 - 1).toNat)).take (((min (e1 + 5) (s.r.hard.log.length : Int)).toNat) - ((e1 - 1).toNat))).map encEnt))] (by intro p hp; simp only [List.mem_cons, List.not_mem_nil, or_false] at hp; subst hp; all_goals first | exact flatEnts | exact flatInts | (intro x hx; cases hx)) ?_
 refine At.apK 56 51 17 168 156 6 155 encOut s.outs ([(⟨i, ⟨3, s.r.id, s.r.hard.term, e1 - 1, termAt s.r.hard.log (e1 - 1), s.r.commit, false, 0, 0, ⟨#[]⟩, ⟨0, 0, 0, 0, ⟨#[]⟩⟩, ((s.r.hard.log.drop ((e1 - 1).toNat)).take (((min (e1 + 5) (s.r.hard.log.length : Int)).toNat) - ((e1 - 1).toNat)))⟩⟩ : Out)]) (by simp only [List.length_map, List.length_append, List.length_take, List.length_drop, List.length_replicate, List.length_set, List.length_cons, List.length_nil]; omega) ?_
 refine At.zD 3 ?_
 refine ⟨_, Sub.refl _ _, ?_⟩
 refine KF.conv (fun w => .tup []) (fun w => [.box 102 [.int .i64 w.r.id, .int .i64 w.r.of_, .int .i64 w.r.role, .int .i64 w.r.commit, .int .i64 w.r.hard.term, .int .i64 w.r.hard.vote, .ref 1, .ref 2, .ref 3, .ref 4, .int .i64 w.was.id, .int .i64 w.was.of_, .int .i64 w.was.role, .int .i64 w.was.commit, .int .i64 w.was.hard.term, .int .i64 w.was.hard.vote, .sl false 6 (w.was.hard.log.map encEnt), .sl false 1 (w.was.yes.map encI), .sl false 1 (w.was.next.map encI), .sl false 1 (w.was.match_.map encI), .ref 5, .ref 7], .arr 45 6 (w.r.hard.log.map encEnt), .arr 3 1 (w.r.yes.map encI), .arr 3 1 (w.r.next.map encI), .arr 3 1 (w.r.match_.map encI), .arr 47 10 (w.recs.map encRec), .dead, .arr 51 17 (w.outs.map encOut)]) (show ((⟨s.r, s.was, s.recs, s.outs ++ ([(⟨i, ⟨3, s.r.id, s.r.hard.term, e1 - 1, termAt s.r.hard.log (e1 - 1), s.r.commit, false, 0, 0, ⟨#[]⟩, ⟨0, 0, 0, 0, ⟨#[]⟩⟩, ((s.r.hard.log.drop ((e1 - 1).toNat)).take (((min (e1 + 5) (s.r.hard.log.length : Int)).toNat) - ((e1 - 1).toNat)))⟩⟩ : Out)])⟩ : Stepper)) = (({ s with outs := s.outs ++ [sendOf s.r i] } : Stepper)) from by simp only [sendOf, nextOf, he1, Option.getD_some]; rw [takeMin _ _ 6 _ (by omega)]; rfl) ?_
 exact KF.n [(0, 0), (1, 1), (2, 2), (3, 3), (4, 4), (5, 5), (6, 6), (156, 7)]
theorem impl_stepper_sendAll_spec  (s : Stepper) (hz : SmallR s.r) (hf : 0 ≤ s.r.of_ ∧ s.r.of_ ≤ 5) (hx : s.r.of_ ≤ s.r.next.length) (hn : NextOk s.r) (ho : s.outs.length ≤ 1000) : FnSpec Tryz.prog 81 [.ptr 0 0 0] [.box 102 [.int .i64 s.r.id, .int .i64 s.r.of_, .int .i64 s.r.role, .int .i64 s.r.commit, .int .i64 s.r.hard.term, .int .i64 s.r.hard.vote, .ref 1, .ref 2, .ref 3, .ref 4, .int .i64 s.was.id, .int .i64 s.was.of_, .int .i64 s.was.role, .int .i64 s.was.commit, .int .i64 s.was.hard.term, .int .i64 s.was.hard.vote, .sl false 6 (s.was.hard.log.map encEnt), .sl false 1 (s.was.yes.map encI), .sl false 1 (s.was.next.map encI), .sl false 1 (s.was.match_.map encI), .ref 5, .ref 6], .arr 45 6 (s.r.hard.log.map encEnt), .arr 3 1 (s.r.yes.map encI), .arr 3 1 (s.r.next.map encI), .arr 3 1 (s.r.match_.map encI), .arr 47 10 (s.recs.map encRec), .arr 51 17 (s.outs.map encOut)] (.tup []) [.box 102 [.int .i64 s.r.id, .int .i64 s.r.of_, .int .i64 s.r.role, .int .i64 s.r.commit, .int .i64 s.r.hard.term, .int .i64 s.r.hard.vote, .ref 1, .ref 2, .ref 3, .ref 4, .int .i64 s.was.id, .int .i64 s.was.of_, .int .i64 s.was.role, .int .i64 s.was.commit, .int .i64 s.was.hard.term, .int .i64 s.was.hard.vote, .sl false 6 (s.was.hard.log.map encEnt), .sl false 1 (s.was.yes.map encI), .sl false 1 (s.was.next.map encI), .sl false 1 (s.was.match_.map encI), .ref 5, .ref 7], .arr 45 6 (s.r.hard.log.map encEnt), .arr 3 1 (s.r.yes.map encI), .arr 3 1 (s.r.next.map encI), .arr 3 1 (s.r.match_.map encI), .arr 47 10 (s.recs.map encRec), .dead, .arr 51 17 ((s.outs ++ sendAll s.r).map encOut)] := by
 obtain ⟨z1, z2, z3, z4⟩ := id hz
 refine FnSpec.of 22 Tryz.func81 rfl Tryz.ntmps81 (by simp) (AW.weakK ?_)
 refine AW.q 6 ?_
 refine AW.block ?_
 refine AW.weak (Sub.mv 6 7000 (by kernel_rfl) (by decide)) ?_
 refine AW.loopW (fun (x : Nat × List Out) => match x with | (k, o) => Go.Sy.mk [.ptr 0 0 0, .un, .un, .un, .un, .un, .un, .int .i64 s.r.of_, .int .i64 (k : Int)] [(0, .box 102 [.int .i64 s.r.id, .int .i64 s.r.of_, .int .i64 s.r.role, .int .i64 s.r.commit, .int .i64 s.r.hard.term, .int .i64 s.r.hard.vote, .ref 1, .ref 2, .ref 3, .ref 4, .int .i64 s.was.id, .int .i64 s.was.of_, .int .i64 s.was.role, .int .i64 s.was.commit, .int .i64 s.was.hard.term, .int .i64 s.was.hard.vote, .sl false 6 (s.was.hard.log.map encEnt), .sl false 1 (s.was.yes.map encI), .sl false 1 (s.was.next.map encI), .sl false 1 (s.was.match_.map encI), .ref 5, .ref 7000]), (1, .arr 45 6 (s.r.hard.log.map encEnt)), (2, .arr 3 1 (s.r.yes.map encI)), (3, .arr 3 1 (s.r.next.map encI)), (4, .arr 3 1 (s.r.match_.map encI)), (5, .arr 47 10 (s.recs.map encRec)), (6, .dead), (7000, .arr 51 17 (o.map encOut))]) (fun (x : Nat × List Out) => match x with | (k, o) => (k : Int) ≤ s.r.of_ ∧ o = s.outs ++ sendUp s.r k) (fun (x : Nat × List Out) => match x with | (k, o) => s.r.of_.toNat - k) (0, s.outs) ⟨by omega, by simp [sendUp]⟩ (Sub.o [(0, 0), (1, 1), (2, 2), (3, 3), (4, 4), (5, 5), (6, 6), (7000, 7000)] [true, false, false, false, false, false, false, true, true]) ?_
 rintro ⟨k, o⟩ ⟨hk, hR⟩
 have hlen := sendUp_len s.r k
 have hlen2 := congrArg List.length hR
 try rw [List.length_append] at hlen2
 refine AW.q 1 ?_
 refine AW.seq ?_
 refine AW.cD ((k : Int) < s.r.of_) (fun h1 => ?_) (fun h1 => ?_)
 · refine AW.skip ?_
   refine AW.seq ?_
   refine AW.block ?_
   refine AW.q 2 ?_
   refine AW.q 7 ?_
   refine AW.cU (k : Int) s.r.id (fun h2 => ?_) (fun h2 => ?_)
   · refine AW.g ?_
     refine At.a 2 ?_
     refine At.c (impl_stepper_send_spec  (⟨s.r, s.was, s.recs, o⟩ : Stepper) (k : Int) hz (by dsimp only; omega) hn (by dsimp only; omega)) Tryz.call106 true [(0, 0), (1, 1), (2, 2), (3, 3), (4, 4), (5, 5), (7000, 6)] [(1400, 7)] [] trivial ?_
     refine At.done rfl ?_
     refine AW.g ?_
     refine At.a 1 ?_
     refine At.sI 21 ((k : Int) + 1) (by omega) ?_
     refine At.z 1 ?_
     exact ⟨(k + 1, (o ++ [sendOf s.r (k : Int)])), ⟨by omega, by rw [hR, sendUp, if_neg (by grind)]; (try rw [termAt_end]); first | rfl | exact List.append_assoc _ _ _⟩, (by simp only; omega), Sub.o [(0, 0), (1, 1), (2, 2), (3, 3), (4, 4), (5, 5), (6, 6), (1400, 7000)] [true, false, false, false, false, false, false, true, true]⟩
   refine AW.skip ?_
   refine AW.g ?_
   refine At.a 1 ?_
   refine At.sI 21 ((k : Int) + 1) (by omega) ?_
   refine At.z 1 ?_
   exact ⟨(k + 1, o), ⟨by omega, by rw [hR, sendUp, if_pos (by grind)]; simp⟩, (by simp only; omega), Sub.o [(0, 0), (1, 1), (2, 2), (3, 3), (4, 4), (5, 5), (6, 6), (7000, 7000)] [true, false, false, false, false, false, false, true, true]⟩
 refine AW.exit ?_
 refine ⟨_, Sub.refl _ _, ?_⟩
 refine KF.conv (fun w => .tup []) (fun w => [.box 102 [.int .i64 w.r.id, .int .i64 w.r.of_, .int .i64 w.r.role, .int .i64 w.r.commit, .int .i64 w.r.hard.term, .int .i64 w.r.hard.vote, .ref 1, .ref 2, .ref 3, .ref 4, .int .i64 w.was.id, .int .i64 w.was.of_, .int .i64 w.was.role, .int .i64 w.was.commit, .int .i64 w.was.hard.term, .int .i64 w.was.hard.vote, .sl false 6 (w.was.hard.log.map encEnt), .sl false 1 (w.was.yes.map encI), .sl false 1 (w.was.next.map encI), .sl false 1 (w.was.match_.map encI), .ref 5, .ref 7], .arr 45 6 (w.r.hard.log.map encEnt), .arr 3 1 (w.r.yes.map encI), .arr 3 1 (w.r.next.map encI), .arr 3 1 (w.r.match_.map encI), .arr 47 10 (w.recs.map encRec), .dead, .arr 51 17 (w.outs.map encOut)]) (show ((⟨s.r, s.was, s.recs, o⟩ : Stepper)) = (({ s with outs := s.outs ++ sendAll s.r } : Stepper)) from by rw [hR, sendAll, show s.r.of_.toNat = k from by omega]) ?_
 exact KF.n [(0, 0), (1, 1), (2, 2), (3, 3), (4, 4), (5, 5), (6, 6), (7000, 7)]
theorem impl_stepper_ask_spec  (s : Stepper) (hz : SmallR s.r) (hf : 0 ≤ s.r.of_ ∧ s.r.of_ ≤ 5) (ho : s.outs.length ≤ 1000) : FnSpec Tryz.prog 82 [.ptr 0 0 0] [.box 102 [.int .i64 s.r.id, .int .i64 s.r.of_, .int .i64 s.r.role, .int .i64 s.r.commit, .int .i64 s.r.hard.term, .int .i64 s.r.hard.vote, .ref 1, .ref 2, .ref 3, .ref 4, .int .i64 s.was.id, .int .i64 s.was.of_, .int .i64 s.was.role, .int .i64 s.was.commit, .int .i64 s.was.hard.term, .int .i64 s.was.hard.vote, .sl false 6 (s.was.hard.log.map encEnt), .sl false 1 (s.was.yes.map encI), .sl false 1 (s.was.next.map encI), .sl false 1 (s.was.match_.map encI), .ref 5, .ref 6], .arr 45 6 (s.r.hard.log.map encEnt), .arr 3 1 (s.r.yes.map encI), .arr 3 1 (s.r.next.map encI), .arr 3 1 (s.r.match_.map encI), .arr 47 10 (s.recs.map encRec), .arr 51 17 (s.outs.map encOut)] (.tup []) [.box 102 [.int .i64 s.r.id, .int .i64 s.r.of_, .int .i64 s.r.role, .int .i64 s.r.commit, .int .i64 s.r.hard.term, .int .i64 s.r.hard.vote, .ref 1, .ref 2, .ref 3, .ref 4, .int .i64 s.was.id, .int .i64 s.was.of_, .int .i64 s.was.role, .int .i64 s.was.commit, .int .i64 s.was.hard.term, .int .i64 s.was.hard.vote, .sl false 6 (s.was.hard.log.map encEnt), .sl false 1 (s.was.yes.map encI), .sl false 1 (s.was.next.map encI), .sl false 1 (s.was.match_.map encI), .ref 5, .ref 7], .arr 45 6 (s.r.hard.log.map encEnt), .arr 3 1 (s.r.yes.map encI), .arr 3 1 (s.r.next.map encI), .arr 3 1 (s.r.match_.map encI), .arr 47 10 (s.recs.map encRec), .dead, .arr 51 17 ((s.outs ++ asks s.r).map encOut)] := by
 obtain ⟨z1, z2, z3, z4⟩ := id hz
 refine FnSpec.of 59 Tryz.func82 rfl Tryz.ntmps82 (by simp) (AW.weakK ?_)
 refine AW.q 6 ?_
 refine AW.block ?_
 refine AW.weak (Sub.mv 6 7000 (by kernel_rfl) (by decide)) ?_
 refine AW.loopW (fun (x : Nat × List Out) => match x with | (k, o) => Go.Sy.mk [.ptr 0 0 0, .un, .un, .un, .un, .un, .un, .un, .int .i64 s.r.of_, .int .i64 (k : Int)] [(0, .box 102 [.int .i64 s.r.id, .int .i64 s.r.of_, .int .i64 s.r.role, .int .i64 s.r.commit, .int .i64 s.r.hard.term, .int .i64 s.r.hard.vote, .ref 1, .ref 2, .ref 3, .ref 4, .int .i64 s.was.id, .int .i64 s.was.of_, .int .i64 s.was.role, .int .i64 s.was.commit, .int .i64 s.was.hard.term, .int .i64 s.was.hard.vote, .sl false 6 (s.was.hard.log.map encEnt), .sl false 1 (s.was.yes.map encI), .sl false 1 (s.was.next.map encI), .sl false 1 (s.was.match_.map encI), .ref 5, .ref 7000]), (1, .arr 45 6 (s.r.hard.log.map encEnt)), (2, .arr 3 1 (s.r.yes.map encI)), (3, .arr 3 1 (s.r.next.map encI)), (4, .arr 3 1 (s.r.match_.map encI)), (5, .arr 47 10 (s.recs.map encRec)), (6, .dead), (7000, .arr 51 17 (o.map encOut))]) (fun (x : Nat × List Out) => match x with | (k, o) => (k : Int) ≤ s.r.of_ ∧ o = s.outs ++ askUp s.r k) (fun (x : Nat × List Out) => match x with | (k, o) => s.r.of_.toNat - k) (0, s.outs) ⟨by omega, by simp [askUp]⟩ (Sub.o [(0, 0), (1, 1), (2, 2), (3, 3), (4, 4), (5, 5), (6, 6), (7000, 7000)] [true, false, false, false, false, false, false, false, true, true]) ?_
 rintro ⟨k, o⟩ ⟨hk, hR⟩
 have hlen := askUp_len s.r k
 have hlen2 := congrArg List.length hR
 try rw [List.length_append] at hlen2
 refine AW.q 1 ?_
 refine AW.seq ?_
 refine AW.cD ((k : Int) < s.r.of_) (fun h1 => ?_) (fun h1 => ?_)
 · refine AW.skip ?_
   refine AW.seq ?_
   refine AW.block ?_
   refine AW.q 2 ?_
   refine AW.seq ?_
   refine AW.r ?_
   refine At.a 8 ?_
   by_cases h2 : (k : Int) = s.r.id
   · refine At.sB 19 _ _ (sayET h2) ?_
     refine At.z 8 ?_
     refine AW.cond true (by kernel_rfl) (fun _ => ?_) (fun h => by cases h)
     refine AW.exit ?_
     refine AW.g ?_
     refine At.a 1 ?_
     refine At.sI 58 ((k : Int) + 1) (by omega) ?_
     refine At.z 1 ?_
     exact ⟨(k + 1, o), ⟨by omega, by rw [hR, askUp, if_pos (by grind)]; simp⟩, (by simp only; omega), Sub.o [(0, 0), (1, 1), (2, 2), (3, 3), (4, 4), (5, 5), (6, 6), (7000, 7000)] [true, false, false, false, false, false, false, false, true, true]⟩
   refine At.sB 19 _ _ (sayEF h2) ?_
   refine At.a 6 ?_
   refine At.c (slices_Contains_spec  s.r.yes (k : Int) (by omega)) Tryz.call72 false [] [] [(2, 1, (s.r.yes.map encI))] ⟨rfl, ⟨3, (s.r.yes.map encI), by kernel_rfl, FrzIs.same (allP_encI _)⟩, trivial⟩ ?_
   refine At.z 1 ?_
   refine AW.cB (hasI (k : Int) s.r.yes) (fun h3 => ?_) (fun h3 => ?_)
   · refine AW.exit ?_
     refine AW.g ?_
     refine At.a 1 ?_
     refine At.sI 58 ((k : Int) + 1) (by omega) ?_
     refine At.z 1 ?_
     exact ⟨(k + 1, o), ⟨by omega, by rw [hR, askUp, if_pos (by grind)]; simp⟩, (by simp only; omega), Sub.o [(0, 0), (1, 1), (2, 2), (3, 3), (4, 4), (5, 5), (6, 6), (7000, 7000)] [true, false, false, false, false, false, false, false, true, true]⟩
   refine AW.skip ?_
   refine AW.r ?_
   refine At.a 1 ?_
   refine At.c (impl_stepper_message_spec  (⟨s.r, s.was, s.recs, o⟩ : Stepper) 1 ) Tryz.call114 true [(0, 0), (1, 1), (2, 2), (3, 3), (4, 4), (5, 5), (7000, 6)] [(1580, 7)] [] trivial ?_
   refine At.z 2 ?_
   refine AW.seq ?_
   refine AW.gD Tryz_mix ?_
   refine At.a 7 ?_
   refine At.sL 36 encEnt s.r.hard.log ?_
   refine At.a 6 ?_
   refine At.c (impl_lastTerm_spec  s.r.hard.log (by omega)) Tryz.call113 false [] [] [(1, 6, (s.r.hard.log.map encEnt))] ⟨rfl, ⟨45, (s.r.hard.log.map encEnt), by kernel_rfl, FrzIs.same (allP_encEnt _)⟩, trivial⟩ ?_
   refine At.zD 4 ?_
   refine AW.gD Tryz_mix ?_
   refine At.a 8 ?_
   refine At.lk 54 51 17 154 (45, 6) [1580] (([(⟨(k : Int), ⟨1, s.r.id, s.r.hard.term, (s.r.hard.log.length : Int), lastT s.r.hard.log, 0, false, 0, 0, ⟨#[]⟩, ⟨0, 0, 0, 0, ⟨#[]⟩⟩, []⟩⟩ : Out)]).map encOut) [(45, 6, [])] (by intro p hp; simp only [List.mem_cons, List.not_mem_nil, or_false] at hp; subst hp; all_goals first | exact flatEnts | exact flatInts | (intro x hx; cases hx)) ?_
   refine At.apK 55 51 17 168 155 7000 154 encOut o ([(⟨(k : Int), ⟨1, s.r.id, s.r.hard.term, (s.r.hard.log.length : Int), lastT s.r.hard.log, 0, false, 0, 0, ⟨#[]⟩, ⟨0, 0, 0, 0, ⟨#[]⟩⟩, []⟩⟩ : Out)]) (by simp only [List.length_map, List.length_append, List.length_take, List.length_drop, List.length_replicate, List.length_set, List.length_cons, List.length_nil]; omega) ?_
   refine At.zD 3 ?_
   refine AW.g ?_
   refine At.a 1 ?_
   refine At.sI 58 ((k : Int) + 1) (by omega) ?_
   refine At.z 1 ?_
   exact ⟨(k + 1, (o ++ ([(⟨(k : Int), ⟨1, s.r.id, s.r.hard.term, (s.r.hard.log.length : Int), lastT s.r.hard.log, 0, false, 0, 0, ⟨#[]⟩, ⟨0, 0, 0, 0, ⟨#[]⟩⟩, []⟩⟩ : Out)]))), ⟨by omega, by rw [hR, askUp, if_neg (by grind)]; (try rw [termAt_end]); first | rfl | exact List.append_assoc _ _ _⟩, (by simp only; omega), Sub.o [(0, 0), (1, 1), (2, 2), (3, 3), (4, 4), (5, 5), (6, 6), (155, 7000)] [true, false, false, false, false, false, false, false, true, true]⟩
 refine AW.exit ?_
 refine ⟨_, Sub.refl _ _, ?_⟩
 refine KF.conv (fun w => .tup []) (fun w => [.box 102 [.int .i64 w.r.id, .int .i64 w.r.of_, .int .i64 w.r.role, .int .i64 w.r.commit, .int .i64 w.r.hard.term, .int .i64 w.r.hard.vote, .ref 1, .ref 2, .ref 3, .ref 4, .int .i64 w.was.id, .int .i64 w.was.of_, .int .i64 w.was.role, .int .i64 w.was.commit, .int .i64 w.was.hard.term, .int .i64 w.was.hard.vote, .sl false 6 (w.was.hard.log.map encEnt), .sl false 1 (w.was.yes.map encI), .sl false 1 (w.was.next.map encI), .sl false 1 (w.was.match_.map encI), .ref 5, .ref 7], .arr 45 6 (w.r.hard.log.map encEnt), .arr 3 1 (w.r.yes.map encI), .arr 3 1 (w.r.next.map encI), .arr 3 1 (w.r.match_.map encI), .arr 47 10 (w.recs.map encRec), .dead, .arr 51 17 (w.outs.map encOut)]) (show ((⟨s.r, s.was, s.recs, o⟩ : Stepper)) = (({ s with outs := s.outs ++ asks s.r } : Stepper)) from by rw [hR, asks, show s.r.of_.toNat = k from by omega]) ?_
 exact KF.n [(0, 0), (1, 1), (2, 2), (3, 3), (4, 4), (5, 5), (6, 6), (7000, 7)]
def K_impl_RaftBeat (rs : List ResultVar) (r : Raft) (w0_ : List Out) : Exit → Sg → Prop := KF Tryz.prog 0 rs (.ref 0) [.arr 51 17 (w0_.map encOut)]
theorem impl_RaftBeat_spec  (r : Raft) (hz : SmallR r) : FnSpec Tryz.prog 24 [(raftA r)] [] (.ref 0) [.arr 51 17 ((beat r).map encOut)] := by
 obtain ⟨z1, z2, z3, z4⟩ := id hz
 refine FnSpec.of 26 Tryz.func24 rfl Tryz.ntmps24 (by simp) (AW.weakK ?_)
 refine AW.q 2 ?_
 refine AW.r ?_
 refine At.a 1 ?_
 refine At.c (impl_stepOf_spec  r hz) Tryz.call80 true [] [(1100, 0), (1101, 1), (1102, 2), (1103, 3), (1104, 4), (1105, 5), (1106, 6)] [] trivial ?_
 refine At.z 1 ?_
 refine AW.seq ?_
 refine AW.block ?_
 refine AW.r ?_
 refine At.a 1 ?_
 refine At.c (impl_RaftOk_spec  r hz) Tryz.call19 true [] [] [] trivial ?_
 refine At.z 2 ?_
 refine AW.cNB (raftOk r) (fun h1 => ?_) (fun h1 => ?_)
 · refine AW.skip ?_
   refine AW.q 5 ?_
   exact AW.ret (rf (k1 (K_impl_RaftBeat _ r) (show ([]) = (beat r) from by simp [beat, *]) (KF.n [(1106, 0)])))
 have h1n := raftOk1_nums (raftOk_1 h1)
 refine AW.q 4 ?_
 refine AW.cE r.role (3 : Int) (fun h2 => ?_) (fun h2 => ?_)
 · refine AW.g ?_
   refine At.a 1 ?_
   refine At.c (impl_stepper_sendAll_spec  (⟨r, r, [], []⟩ : Stepper) hz (by dsimp only; omega) (by have := raftOk_next h1 h2; dsimp only; omega) (raftOk_next h1 h2).2.1 (by simp only [List.length_map, List.length_append, List.length_take, List.length_drop, List.length_replicate, List.length_set, List.length_cons, List.length_nil]; omega)) Tryz.call81 true [(1100, 0), (1101, 1), (1102, 2), (1103, 3), (1104, 4), (1105, 5), (1106, 6)] [(1300, 7)] [] trivial ?_
   refine At.done rfl ?_
   refine AW.q 5 ?_
   exact AW.ret (rf (k1 (K_impl_RaftBeat _ r) (show (([]) ++ sendAll r) = (beat r) from by simp [beat, *]) (KF.n [(1300, 0)])))
 refine AW.q 4 ?_
 refine AW.cE r.role (2 : Int) (fun h3 => ?_) (fun h3 => ?_)
 · refine AW.g ?_
   refine At.a 1 ?_
   refine At.c (impl_stepper_ask_spec  (⟨r, r, [], []⟩ : Stepper) hz (by dsimp only; omega) (by simp only [List.length_map, List.length_append, List.length_take, List.length_drop, List.length_replicate, List.length_set, List.length_cons, List.length_nil]; omega)) Tryz.call82 true [(1100, 0), (1101, 1), (1102, 2), (1103, 3), (1104, 4), (1105, 5), (1106, 6)] [(1420, 7)] [] trivial ?_
   refine At.done rfl ?_
   refine AW.q 5 ?_
   exact AW.ret (rf (k1 (K_impl_RaftBeat _ r) (show (([]) ++ asks r) = (beat r) from by simp [beat, *]) (KF.n [(1420, 0)])))
 refine AW.skip ?_
 refine AW.q 5 ?_
 exact AW.ret (rf (k1 (K_impl_RaftBeat _ r) (show ([]) = (beat r) from by simp [beat, *]) (KF.n [(1106, 0)])))
theorem laws_FnOneVote_spec  (code : List UInt8) (hc : code.length ≤ 9223372036854775807) : FnSpec Tryz.prog 7 [.sl false 1 (code.map encU8)] [] (.bool true) [] := by
 refine FnSpec.of 161 Tryz.func7 rfl Tryz.ntmps7 (by simp) (AW.weakK ?_)
 refine AW.q 1 ?_
 refine AW.seq ?_
 refine AW.r ?_
 refine At.a 1 ?_
 refine At.c (laws_big_spec  code hc) Tryz.call11 true [] [] [] trivial ?_
 refine At.done rfl ?_
 refine AW.cD ((code.length : Int) > 1048576) (fun h1 => ?_) (fun h1 => ?_)
 · refine AW.q 1 ?_
   exact AW.ret (rf (KF.n []))
 refine AW.skip ?_
 refine AW.r ?_
 refine At.a 1 ?_
 refine Exists.elim (spec_DrawOnAsk_spec  code (by omega)) fun r1_ hr1_ => ?_
 have qr1_ := hr1_.1
 try dsimp only at qr1_
 refine At.c (hr1_.2) Tryz.call14 true [] [(1440, 0), (1441, 1), (1442, 2), (1443, 3)] [] trivial ?_
 refine At.z 7 ?_
 refine AW.r ?_
 refine At.a 2 ?_
 refine At.c (FnSpec.cv (As := [.agg [.int .i64 r1_.1.id, .int .i64 r1_.1.of_, .int .i64 r1_.1.role, .int .i64 r1_.1.commit, .int .i64 r1_.1.hard.term, .int .i64 r1_.1.hard.vote, .sl false 6 (r1_.1.hard.log.map encEnt), .sl false 1 (r1_.1.yes.map encI), .sl false 1 (r1_.1.next.map encI), .sl false 1 (r1_.1.match_.map encI)], .agg [.int .i64 r1_.2.kind, .int .i64 r1_.2.from_, .int .i64 r1_.2.term, .int .i64 r1_.2.at_, .int .i64 r1_.2.atTerm, .int .i64 r1_.2.commit, .bool r1_.2.yes, .int .i64 r1_.2.release, .int .i64 r1_.2.part, .str r1_.2.bytes, .int .i64 r1_.2.cmd.kind, .int .i64 r1_.2.cmd.release, .int .i64 r1_.2.cmd.node, .int .i64 r1_.2.cmd.size, .str r1_.2.cmd.digest, .sl true 6 (r1_.2.entries.map encEnt)]]) [0, 7] (impl_OnAsk_spec  r1_.1 r1_.2 (by exact qr1_.1) (by have := qr1_.2; first | omega | (dsimp only; omega)))) Tryz.call36 false [] [(1560, 0), (1561, 1), (1562, 2), (1563, 3), (1564, 4), (1565, 5)] [(1440, 6, (r1_.1.hard.log.map encEnt)), (1441, 1, (r1_.1.yes.map encI)), (1442, 1, (r1_.1.next.map encI)), (1443, 1, (r1_.1.match_.map encI))] ⟨rfl, ⟨45, (r1_.1.hard.log.map encEnt), by kernel_rfl, FrzIs.same (allP_encEnt _)⟩, rfl, ⟨3, (r1_.1.yes.map encI), by kernel_rfl, FrzIs.same (allP_encI _)⟩, rfl, ⟨3, (r1_.1.next.map encI), by kernel_rfl, FrzIs.same (allP_encI _)⟩, rfl, ⟨3, (r1_.1.match_.map encI), by kernel_rfl, FrzIs.same (allP_encI _)⟩, trivial⟩ ?_
 refine At.z 8 ?_
 refine AW.r ?_
 refine At.a 2 ?_
 refine At.c (FnSpec.cv (As := [.agg [.int .i64 r1_.1.id, .int .i64 r1_.1.of_, .int .i64 r1_.1.role, .int .i64 r1_.1.commit, .int .i64 r1_.1.hard.term, .int .i64 r1_.1.hard.vote, .sl false 6 (r1_.1.hard.log.map encEnt), .sl false 1 (r1_.1.yes.map encI), .sl false 1 (r1_.1.next.map encI), .sl false 1 (r1_.1.match_.map encI)], .agg [.int .i64 r1_.2.kind, .int .i64 r1_.2.from_, .int .i64 r1_.2.term, .int .i64 r1_.2.at_, .int .i64 r1_.2.atTerm, .int .i64 r1_.2.commit, .bool r1_.2.yes, .int .i64 r1_.2.release, .int .i64 r1_.2.part, .str r1_.2.bytes, .int .i64 r1_.2.cmd.kind, .int .i64 r1_.2.cmd.release, .int .i64 r1_.2.cmd.node, .int .i64 r1_.2.cmd.size, .str r1_.2.cmd.digest, .sl true 6 (r1_.2.entries.map encEnt)]]) [0, 7] (spec_OnAsk_spec  r1_.1 r1_.2 (by exact qr1_.1) (by have := qr1_.2; first | omega | (dsimp only; omega)))) Tryz.call37 false [] [(1700, 0), (1701, 1), (1702, 2), (1703, 3), (1704, 4), (1705, 5)] [(1440, 6, (r1_.1.hard.log.map encEnt)), (1441, 1, (r1_.1.yes.map encI)), (1442, 1, (r1_.1.next.map encI)), (1443, 1, (r1_.1.match_.map encI))] ⟨rfl, ⟨45, (r1_.1.hard.log.map encEnt), by kernel_rfl, FrzIs.same (allP_encEnt _)⟩, rfl, ⟨3, (r1_.1.yes.map encI), by kernel_rfl, FrzIs.same (allP_encI _)⟩, rfl, ⟨3, (r1_.1.next.map encI), by kernel_rfl, FrzIs.same (allP_encI _)⟩, rfl, ⟨3, (r1_.1.match_.map encI), by kernel_rfl, FrzIs.same (allP_encI _)⟩, trivial⟩ ?_
 refine At.z 8 ?_
 refine AW.seq ?_
 refine AW.seq ?_
 refine AW.gD Tryz_mix ?_
 refine At.a 2 ?_
 refine At.sL 40 encOut (askOuts r1_.1 r1_.2) ?_
 refine At.a 2 ?_
 refine At.sL 42 encOut (askOuts r1_.1 r1_.2) ?_
 refine At.a 2 ?_
 refine At.sB 44 (((askOuts r1_.1 r1_.2).length : Int) != ((askOuts r1_.1 r1_.2).length : Int)) false (sayB (bne_self_eq_false _)) ?_
 refine At.a 2 ?_
 refine At.sL 46 encOut (askOuts r1_.1 r1_.2) ?_
 refine At.a 2 ?_
 by_cases h2 : ((askOuts r1_.1 r1_.2).length : Int) > 0
 · refine At.sB 48 _ _ (sayT h2) ?_
   refine At.a 1 ?_
   refine At.iRf 38 50 (.tmp 49) (.const (.int .i64 0)) 1565 ((askOuts r1_.1 r1_.2).map encOut) .i64 0 51 17 (by omega) (by simp only [List.length_map]; omega) ?_
   refine At.a 2 ?_
   refine Exists.elim (gE (askOuts r1_.1 r1_.2) 0 (by omega)) fun e1 he1 => ?_
   have hae := ask_one he1
   have hhe := hears_ok hae.1
   have hrn := raftOk1_nums (raftOk_1 hhe.1)
   have hof : r1_.1.of_ = 3 ∨ r1_.1.of_ = 5 := by omega
   refine At.ldP 4 53 (.tmp 52) 1565 51 17 ((askOuts r1_.1 r1_.2).map encOut) 0 7 false 1 (encOut e1) (.bool e1.msg.yes) (mapGet he1) ?_
   refine At.a 1 ?_
   refine At.iRf 38 55 (.tmp 54) (.const (.int .i64 0)) 1705 ((askOuts r1_.1 r1_.2).map encOut) .i64 0 51 17 (by omega) (by simp only [List.length_map]; omega) ?_
   refine At.a 2 ?_
   refine At.ldP 4 58 (.tmp 57) 1705 51 17 ((askOuts r1_.1 r1_.2).map encOut) 0 7 false 1 (encOut e1) (.bool e1.msg.yes) (mapGet he1) ?_
   refine At.eqB (t := 4) (u := 4) (d := 59) (op := .neq) (x := .tmp 53) (y := .tmp 58) (a := e1.msg.yes) (b := e1.msg.yes) (by kernel_rfl) (by kernel_rfl) (by kernel_rfl) (by kernel_rfl) (by kernel_rfl) (.bool (!(e1.msg.yes == e1.msg.yes))) (.inr ⟨rfl, rfl⟩) ?_
   refine At.zD 2 ?_
   refine AW.condF (!(e1.msg.yes == e1.msg.yes)) (by kernel_rfl) (by rw [show (e1.msg.yes == e1.msg.yes) = true from (beq_self_eq_true _)]; rfl) ?_
   refine AW.skip ?_
   refine AW.seq ?_
   refine AW.r ?_
   refine At.a 2 ?_
   refine At.sL 63 encOut (askOuts r1_.1 r1_.2) ?_
   refine At.z 1 ?_
   refine AW.condF (((askOuts r1_.1 r1_.2).length : Int) == 0) (by kernel_rfl) (beq_eq_false_iff_ne.2 (by omega)) ?_
   refine AW.skip ?_
   refine AW.seq ?_
   refine AW.r ?_
   refine At.a 1 ?_
   refine At.iRf 38 70 (.tmp 69) (.const (.int .i64 0)) 1565 ((askOuts r1_.1 r1_.2).map encOut) .i64 0 51 17 (by omega) (by simp only [List.length_map]; omega) ?_
   refine At.a 2 ?_
   refine At.ldP 4 73 (.tmp 72) 1565 51 17 ((askOuts r1_.1 r1_.2).map encOut) 0 7 false 1 (encOut e1) (.bool e1.msg.yes) (mapGet he1) ?_
   refine At.z 1 ?_
   refine AW.cNB (e1.msg.yes) (fun h3 => ?_) (fun h3 => ?_)
   · refine AW.r ?_
     refine At.a 8 ?_
     by_cases h4 : (askR r1_.1 r1_.2).hard.vote = r1_.1.hard.vote
     · refine At.sB 82 _ _ (sayET h4) ?_
       refine At.z 6 ?_
       exact AW.ret (rf (KF.n []))
     refine At.sB 82 _ _ (sayEF h4) ?_
     refine At.z 6 ?_
     refine AW.ret ?_
     refine ⟨_, Sub.refl _ _, ?_⟩
     refine KF.conv (fun w => .bool w) (fun w => []) (show (((askR r1_.1 r1_.2).hard.vote) == 0) = (true) from by have q := vote_no hae.1 (hae.2.symm.trans (by assumption)); rw [beq_iff_eq]; omega) ?_
     exact KF.n []
   refine Exists.elim (vote_again2 hae.1 (hae.2.symm.trans h3)) fun oa hag => ?_
   have hal := (congrArg List.length hag.1).trans (rfl : _ = 1)
   have hm1 := mod_in (x := r1_.2.from_ + 1) (n := r1_.1.of_) (by omega)
   refine AW.skip ?_
   refine AW.r ?_
   refine At.a 2 ?_
   refine At.c (FnSpec.cv (As := [.agg [.int .i64 ((askR r1_.1 r1_.2).id), .int .i64 ((askR r1_.1 r1_.2).of_), .int .i64 ((askR r1_.1 r1_.2).role), .int .i64 ((askR r1_.1 r1_.2).commit), .int .i64 ((askR r1_.1 r1_.2).hard.term), .int .i64 ((askR r1_.1 r1_.2).hard.vote), .sl false 6 (((askR r1_.1 r1_.2).hard.log).map encEnt), .sl false 1 (((askR r1_.1 r1_.2).yes).map encI), .sl false 1 (((askR r1_.1 r1_.2).next).map encI), .sl false 1 (((askR r1_.1 r1_.2).match_).map encI)], .agg [.int .i64 r1_.2.kind, .int .i64 r1_.2.from_, .int .i64 r1_.2.term, .int .i64 r1_.2.at_, .int .i64 r1_.2.atTerm, .int .i64 r1_.2.commit, .bool r1_.2.yes, .int .i64 r1_.2.release, .int .i64 r1_.2.part, .str r1_.2.bytes, .int .i64 r1_.2.cmd.kind, .int .i64 r1_.2.cmd.release, .int .i64 r1_.2.cmd.node, .int .i64 r1_.2.cmd.size, .str r1_.2.cmd.digest, .sl true 6 (r1_.2.entries.map encEnt)]]) [0, 7] (impl_OnAsk_spec  (askR r1_.1 r1_.2) r1_.2 (by exact askR_smallR qr1_.1) (by have := qr1_.2; first | omega | (dsimp only; omega)))) Tryz.call36 false [] [(2820, 0), (2821, 1), (2822, 2), (2823, 3), (2824, 4), (2825, 5)] [(1560, 6, (((askR r1_.1 r1_.2).hard.log).map encEnt)), (1561, 1, (((askR r1_.1 r1_.2).yes).map encI)), (1562, 1, (((askR r1_.1 r1_.2).next).map encI)), (1563, 1, (((askR r1_.1 r1_.2).match_).map encI))] ⟨rfl, ⟨45, (((askR r1_.1 r1_.2).hard.log).map encEnt), by kernel_rfl, FrzIs.same (allP_encEnt _)⟩, rfl, ⟨3, (((askR r1_.1 r1_.2).yes).map encI), by kernel_rfl, FrzIs.same (allP_encI _)⟩, rfl, ⟨3, (((askR r1_.1 r1_.2).next).map encI), by kernel_rfl, FrzIs.same (allP_encI _)⟩, rfl, ⟨3, (((askR r1_.1 r1_.2).match_).map encI), by kernel_rfl, FrzIs.same (allP_encI _)⟩, trivial⟩ ?_
   refine At.z 8 ?_
   refine AW.q 3 ?_
   refine AW.r ?_
   refine At.a 3 ?_
   refine At.sI 98 (r1_.2.from_ + 1) (by omega) ?_
   refine At.a 2 ?_
   refine At.div (t := 3) (u := 3) (d := 101) (op := .rem) (x := .tmp 98) (y := .tmp 100) (kd := .i64) (a := r1_.2.from_ + 1) (b := r1_.1.of_) (by kernel_rfl) (by kernel_rfl) (by kernel_rfl) (by kernel_rfl) (by omega) (.int .i64 ((r1_.2.from_ + 1).tmod r1_.1.of_)) (.inr ⟨rfl, rfl⟩) ?_
   refine At.say 101 (.int .i64 ((r1_.2.from_ + 1).tmod r1_.1.of_)) (.int .i64 ((r1_.2.from_ + 1) % r1_.1.of_)) (by kernel_rfl) (sayRem (by omega)) ?_
   refine At.z 2 ?_
   refine AW.seq ?_
   refine AW.q 5 ?_
   refine AW.cE ((r1_.2.from_ + 1) % r1_.1.of_) r1_.1.id (fun h5 => ?_) (fun h5 => ?_)
   · have hm2 := mod_in (x := (r1_.2.from_ + 1) % r1_.1.of_ + 1) (n := r1_.1.of_) (by omega)
     have hm3 := mod_ne (x := (r1_.2.from_ + 1) % r1_.1.of_) hof hm1.1 hm1.2
     refine AW.g ?_
     refine At.a 3 ?_
     refine At.sI 110 (((r1_.2.from_ + 1) % r1_.1.of_) + 1) (by omega) ?_
     refine At.a 2 ?_
     refine At.div (t := 3) (u := 3) (d := 113) (op := .rem) (x := .tmp 110) (y := .tmp 112) (kd := .i64) (a := ((r1_.2.from_ + 1) % r1_.1.of_) + 1) (b := r1_.1.of_) (by kernel_rfl) (by kernel_rfl) (by kernel_rfl) (by kernel_rfl) (by omega) (.int .i64 ((((r1_.2.from_ + 1) % r1_.1.of_) + 1).tmod r1_.1.of_)) (.inr ⟨rfl, rfl⟩) ?_
     refine At.say 113 (.int .i64 ((((r1_.2.from_ + 1) % r1_.1.of_) + 1).tmod r1_.1.of_)) (.int .i64 ((((r1_.2.from_ + 1) % r1_.1.of_) + 1) % r1_.1.of_)) (by kernel_rfl) (sayRem (by omega)) ?_
     refine At.z 2 ?_
     refine AW.r ?_
     refine At.a 2 ?_
     refine At.c (FnSpec.cv (As := [.agg [.int .i64 ((askR r1_.1 r1_.2).id), .int .i64 ((askR r1_.1 r1_.2).of_), .int .i64 ((askR r1_.1 r1_.2).role), .int .i64 ((askR r1_.1 r1_.2).commit), .int .i64 ((askR r1_.1 r1_.2).hard.term), .int .i64 ((askR r1_.1 r1_.2).hard.vote), .sl false 6 (((askR r1_.1 r1_.2).hard.log).map encEnt), .sl false 1 (((askR r1_.1 r1_.2).yes).map encI), .sl false 1 (((askR r1_.1 r1_.2).next).map encI), .sl false 1 (((askR r1_.1 r1_.2).match_).map encI)], .agg [.int .i64 r1_.2.kind, .int .i64 ((((r1_.2.from_ + 1) % r1_.1.of_) + 1) % r1_.1.of_), .int .i64 r1_.2.term, .int .i64 r1_.2.at_, .int .i64 r1_.2.atTerm, .int .i64 r1_.2.commit, .bool r1_.2.yes, .int .i64 r1_.2.release, .int .i64 r1_.2.part, .str r1_.2.bytes, .int .i64 r1_.2.cmd.kind, .int .i64 r1_.2.cmd.release, .int .i64 r1_.2.cmd.node, .int .i64 r1_.2.cmd.size, .str r1_.2.cmd.digest, .sl true 6 (r1_.2.entries.map encEnt)]]) [0, 7] (impl_OnAsk_spec  (askR r1_.1 r1_.2) (⟨r1_.2.kind, (((r1_.2.from_ + 1) % r1_.1.of_) + 1) % r1_.1.of_, r1_.2.term, r1_.2.at_, r1_.2.atTerm, r1_.2.commit, r1_.2.yes, r1_.2.release, r1_.2.part, r1_.2.bytes, r1_.2.cmd, r1_.2.entries⟩ : Msg) (by exact askR_smallR qr1_.1) (by have := qr1_.2; first | omega | (dsimp only; omega)))) Tryz.call36 false [] [(3360, 0), (3361, 1), (3362, 2), (3363, 3), (3364, 4), (3365, 5)] [(1560, 6, (((askR r1_.1 r1_.2).hard.log).map encEnt)), (1561, 1, (((askR r1_.1 r1_.2).yes).map encI)), (1562, 1, (((askR r1_.1 r1_.2).next).map encI)), (1563, 1, (((askR r1_.1 r1_.2).match_).map encI))] ⟨rfl, ⟨45, (((askR r1_.1 r1_.2).hard.log).map encEnt), by kernel_rfl, FrzIs.same (allP_encEnt _)⟩, rfl, ⟨3, (((askR r1_.1 r1_.2).yes).map encI), by kernel_rfl, FrzIs.same (allP_encI _)⟩, rfl, ⟨3, (((askR r1_.1 r1_.2).next).map encI), by kernel_rfl, FrzIs.same (allP_encI _)⟩, rfl, ⟨3, (((askR r1_.1 r1_.2).match_).map encI), by kernel_rfl, FrzIs.same (allP_encI _)⟩, trivial⟩ ?_
     refine At.z 8 ?_
     refine AW.r ?_
     refine At.a 2 ?_
     refine At.sL 123 encOut (askOuts (askR r1_.1 r1_.2) r1_.2) ?_
     refine At.a 2 ?_
     refine At.sB 125 (((askOuts (askR r1_.1 r1_.2) r1_.2).length : Int) == 1) true (sayB (by rw [hag.1]; rfl)) ?_
     refine At.a 1 ?_
     refine At.iRf 38 127 (.tmp 126) (.const (.int .i64 0)) 2825 ((askOuts (askR r1_.1 r1_.2) r1_.2).map encOut) .i64 0 51 17 (by omega) (by simp only [List.length_map]; omega) ?_
     refine At.a 2 ?_
     refine Exists.elim (gE (askOuts (askR r1_.1 r1_.2) r1_.2) 0 (by omega)) fun e2 he2 => ?_
     have hqe2 : e2.msg.yes = true := one_is (hag.1 ▸ he2) hag.2.1
     refine At.ldP 4 130 (.tmp 129) 2825 51 17 ((askOuts (askR r1_.1 r1_.2) r1_.2).map encOut) 0 7 false 1 (encOut e2) (.bool e2.msg.yes) (mapGet he2) ?_
     refine At.a 2 ?_
     refine At.sB 132 e2.msg.yes true (sayB hqe2) ?_
     refine At.a 6 ?_
     refine At.sI 138 (r1_.2.from_ + 1) (by omega) ?_
     refine At.a 3 ?_
     refine At.sB 141 (((askR r1_.1 r1_.2).hard.vote) == (r1_.2.from_ + 1)) true (sayB (beq_iff_eq.2 hag.2.2)) ?_
     refine At.a 6 ?_
     by_cases h6 : (((r1_.2.from_ + 1) % r1_.1.of_) + 1) % r1_.1.of_ = r1_.2.from_
     · refine At.sB 147 _ _ (sayET h6) ?_
       refine At.z 14 ?_
       exact AW.ret (rf (KF.n []))
     refine At.sB 147 _ _ (sayEF h6) ?_
     refine Exists.elim (vote_other hae.1 (hae.2.symm.trans (by assumption)) (by omega) h6) fun ob hot => ?_
     have hol := (congrArg List.length hot.1).trans (rfl : _ = 1)
     refine At.a 2 ?_
     refine At.sL 149 encOut (askOuts (askR r1_.1 r1_.2) (⟨r1_.2.kind, (((r1_.2.from_ + 1) % r1_.1.of_) + 1) % r1_.1.of_, r1_.2.term, r1_.2.at_, r1_.2.atTerm, r1_.2.commit, r1_.2.yes, r1_.2.release, r1_.2.part, r1_.2.bytes, r1_.2.cmd, r1_.2.entries⟩ : Msg)) ?_
     refine At.a 2 ?_
     refine At.sB 151 (((askOuts (askR r1_.1 r1_.2) (⟨r1_.2.kind, (((r1_.2.from_ + 1) % r1_.1.of_) + 1) % r1_.1.of_, r1_.2.term, r1_.2.at_, r1_.2.atTerm, r1_.2.commit, r1_.2.yes, r1_.2.release, r1_.2.part, r1_.2.bytes, r1_.2.cmd, r1_.2.entries⟩ : Msg)).length : Int) == 1) true (sayB (by rw [hot.1]; rfl)) ?_
     refine At.a 1 ?_
     refine At.iRf 38 153 (.tmp 152) (.const (.int .i64 0)) 3365 ((askOuts (askR r1_.1 r1_.2) (⟨r1_.2.kind, (((r1_.2.from_ + 1) % r1_.1.of_) + 1) % r1_.1.of_, r1_.2.term, r1_.2.at_, r1_.2.atTerm, r1_.2.commit, r1_.2.yes, r1_.2.release, r1_.2.part, r1_.2.bytes, r1_.2.cmd, r1_.2.entries⟩ : Msg)).map encOut) .i64 0 51 17 (by omega) (by simp only [List.length_map]; omega) ?_
     refine At.a 2 ?_
     refine Exists.elim (gE (askOuts (askR r1_.1 r1_.2) (⟨r1_.2.kind, (((r1_.2.from_ + 1) % r1_.1.of_) + 1) % r1_.1.of_, r1_.2.term, r1_.2.at_, r1_.2.atTerm, r1_.2.commit, r1_.2.yes, r1_.2.release, r1_.2.part, r1_.2.bytes, r1_.2.cmd, r1_.2.entries⟩ : Msg)) 0 (by omega)) fun e3 he3 => ?_
     have hqe3 : e3.msg.yes = false := one_is (hot.1 ▸ he3) hot.2
     refine At.ldP 4 156 (.tmp 155) 3365 51 17 ((askOuts (askR r1_.1 r1_.2) (⟨r1_.2.kind, (((r1_.2.from_ + 1) % r1_.1.of_) + 1) % r1_.1.of_, r1_.2.term, r1_.2.at_, r1_.2.atTerm, r1_.2.commit, r1_.2.yes, r1_.2.release, r1_.2.part, r1_.2.bytes, r1_.2.cmd, r1_.2.entries⟩ : Msg)).map encOut) 0 7 false 1 (encOut e3) (.bool e3.msg.yes) (mapGet he3) ?_
     refine At.z 5 ?_
     refine AW.ret ?_
     refine ⟨_, Sub.refl _ _, ?_⟩
     refine KF.conv (fun w => .bool w) (fun w => []) (show (!e3.msg.yes) = (true) from by rw [Bool.not_eq_true']; assumption) ?_
     exact KF.n []
   refine AW.skip ?_
   refine AW.r ?_
   refine At.a 2 ?_
   refine At.c (FnSpec.cv (As := [.agg [.int .i64 ((askR r1_.1 r1_.2).id), .int .i64 ((askR r1_.1 r1_.2).of_), .int .i64 ((askR r1_.1 r1_.2).role), .int .i64 ((askR r1_.1 r1_.2).commit), .int .i64 ((askR r1_.1 r1_.2).hard.term), .int .i64 ((askR r1_.1 r1_.2).hard.vote), .sl false 6 (((askR r1_.1 r1_.2).hard.log).map encEnt), .sl false 1 (((askR r1_.1 r1_.2).yes).map encI), .sl false 1 (((askR r1_.1 r1_.2).next).map encI), .sl false 1 (((askR r1_.1 r1_.2).match_).map encI)], .agg [.int .i64 r1_.2.kind, .int .i64 ((r1_.2.from_ + 1) % r1_.1.of_), .int .i64 r1_.2.term, .int .i64 r1_.2.at_, .int .i64 r1_.2.atTerm, .int .i64 r1_.2.commit, .bool r1_.2.yes, .int .i64 r1_.2.release, .int .i64 r1_.2.part, .str r1_.2.bytes, .int .i64 r1_.2.cmd.kind, .int .i64 r1_.2.cmd.release, .int .i64 r1_.2.cmd.node, .int .i64 r1_.2.cmd.size, .str r1_.2.cmd.digest, .sl true 6 (r1_.2.entries.map encEnt)]]) [0, 7] (impl_OnAsk_spec  (askR r1_.1 r1_.2) (⟨r1_.2.kind, (r1_.2.from_ + 1) % r1_.1.of_, r1_.2.term, r1_.2.at_, r1_.2.atTerm, r1_.2.commit, r1_.2.yes, r1_.2.release, r1_.2.part, r1_.2.bytes, r1_.2.cmd, r1_.2.entries⟩ : Msg) (by exact askR_smallR qr1_.1) (by have := qr1_.2; first | omega | (dsimp only; omega)))) Tryz.call36 false [] [(3360, 0), (3361, 1), (3362, 2), (3363, 3), (3364, 4), (3365, 5)] [(1560, 6, (((askR r1_.1 r1_.2).hard.log).map encEnt)), (1561, 1, (((askR r1_.1 r1_.2).yes).map encI)), (1562, 1, (((askR r1_.1 r1_.2).next).map encI)), (1563, 1, (((askR r1_.1 r1_.2).match_).map encI))] ⟨rfl, ⟨45, (((askR r1_.1 r1_.2).hard.log).map encEnt), by kernel_rfl, FrzIs.same (allP_encEnt _)⟩, rfl, ⟨3, (((askR r1_.1 r1_.2).yes).map encI), by kernel_rfl, FrzIs.same (allP_encI _)⟩, rfl, ⟨3, (((askR r1_.1 r1_.2).next).map encI), by kernel_rfl, FrzIs.same (allP_encI _)⟩, rfl, ⟨3, (((askR r1_.1 r1_.2).match_).map encI), by kernel_rfl, FrzIs.same (allP_encI _)⟩, trivial⟩ ?_
   refine At.z 8 ?_
   refine AW.r ?_
   refine At.a 2 ?_
   refine At.sL 123 encOut (askOuts (askR r1_.1 r1_.2) r1_.2) ?_
   refine At.a 2 ?_
   refine At.sB 125 (((askOuts (askR r1_.1 r1_.2) r1_.2).length : Int) == 1) true (sayB (by rw [hag.1]; rfl)) ?_
   refine At.a 1 ?_
   refine At.iRf 38 127 (.tmp 126) (.const (.int .i64 0)) 2825 ((askOuts (askR r1_.1 r1_.2) r1_.2).map encOut) .i64 0 51 17 (by omega) (by simp only [List.length_map]; omega) ?_
   refine At.a 2 ?_
   refine Exists.elim (gE (askOuts (askR r1_.1 r1_.2) r1_.2) 0 (by omega)) fun e4 he4 => ?_
   have hqe4 : e4.msg.yes = true := one_is (hag.1 ▸ he4) hag.2.1
   refine At.ldP 4 130 (.tmp 129) 2825 51 17 ((askOuts (askR r1_.1 r1_.2) r1_.2).map encOut) 0 7 false 1 (encOut e4) (.bool e4.msg.yes) (mapGet he4) ?_
   refine At.a 2 ?_
   refine At.sB 132 e4.msg.yes true (sayB hqe4) ?_
   refine At.a 6 ?_
   refine At.sI 138 (r1_.2.from_ + 1) (by omega) ?_
   refine At.a 3 ?_
   refine At.sB 141 (((askR r1_.1 r1_.2).hard.vote) == (r1_.2.from_ + 1)) true (sayB (beq_iff_eq.2 hag.2.2)) ?_
   refine At.a 6 ?_
   by_cases h7 : (r1_.2.from_ + 1) % r1_.1.of_ = r1_.2.from_
   · refine At.sB 147 _ _ (sayET h7) ?_
     refine At.z 14 ?_
     exact AW.ret (rf (KF.n []))
   refine At.sB 147 _ _ (sayEF h7) ?_
   refine Exists.elim (vote_other hae.1 (hae.2.symm.trans (by assumption)) (by omega) h7) fun ob hot => ?_
   have hol := (congrArg List.length hot.1).trans (rfl : _ = 1)
   refine At.a 2 ?_
   refine At.sL 149 encOut (askOuts (askR r1_.1 r1_.2) (⟨r1_.2.kind, (r1_.2.from_ + 1) % r1_.1.of_, r1_.2.term, r1_.2.at_, r1_.2.atTerm, r1_.2.commit, r1_.2.yes, r1_.2.release, r1_.2.part, r1_.2.bytes, r1_.2.cmd, r1_.2.entries⟩ : Msg)) ?_
   refine At.a 2 ?_
   refine At.sB 151 (((askOuts (askR r1_.1 r1_.2) (⟨r1_.2.kind, (r1_.2.from_ + 1) % r1_.1.of_, r1_.2.term, r1_.2.at_, r1_.2.atTerm, r1_.2.commit, r1_.2.yes, r1_.2.release, r1_.2.part, r1_.2.bytes, r1_.2.cmd, r1_.2.entries⟩ : Msg)).length : Int) == 1) true (sayB (by rw [hot.1]; rfl)) ?_
   refine At.a 1 ?_
   refine At.iRf 38 153 (.tmp 152) (.const (.int .i64 0)) 3365 ((askOuts (askR r1_.1 r1_.2) (⟨r1_.2.kind, (r1_.2.from_ + 1) % r1_.1.of_, r1_.2.term, r1_.2.at_, r1_.2.atTerm, r1_.2.commit, r1_.2.yes, r1_.2.release, r1_.2.part, r1_.2.bytes, r1_.2.cmd, r1_.2.entries⟩ : Msg)).map encOut) .i64 0 51 17 (by omega) (by simp only [List.length_map]; omega) ?_
   refine At.a 2 ?_
   refine Exists.elim (gE (askOuts (askR r1_.1 r1_.2) (⟨r1_.2.kind, (r1_.2.from_ + 1) % r1_.1.of_, r1_.2.term, r1_.2.at_, r1_.2.atTerm, r1_.2.commit, r1_.2.yes, r1_.2.release, r1_.2.part, r1_.2.bytes, r1_.2.cmd, r1_.2.entries⟩ : Msg)) 0 (by omega)) fun e5 he5 => ?_
   have hqe5 : e5.msg.yes = false := one_is (hot.1 ▸ he5) hot.2
   refine At.ldP 4 156 (.tmp 155) 3365 51 17 ((askOuts (askR r1_.1 r1_.2) (⟨r1_.2.kind, (r1_.2.from_ + 1) % r1_.1.of_, r1_.2.term, r1_.2.at_, r1_.2.atTerm, r1_.2.commit, r1_.2.yes, r1_.2.release, r1_.2.part, r1_.2.bytes, r1_.2.cmd, r1_.2.entries⟩ : Msg)).map encOut) 0 7 false 1 (encOut e5) (.bool e5.msg.yes) (mapGet he5) ?_
   refine At.z 5 ?_
   refine AW.ret ?_
   refine ⟨_, Sub.refl _ _, ?_⟩
   refine KF.conv (fun w => .bool w) (fun w => []) (show (!e5.msg.yes) = (true) from by rw [Bool.not_eq_true']; assumption) ?_
   exact KF.n []
 refine At.sB 48 _ _ (sayF h2) ?_
 refine At.zD 13 ?_
 refine AW.cond false (by kernel_rfl) (fun h => by cases h) (fun _ => ?_)
 refine AW.skip ?_
 refine AW.seq ?_
 refine AW.r ?_
 refine At.a 2 ?_
 refine At.sL 63 encOut (askOuts r1_.1 r1_.2) ?_
 refine At.z 1 ?_
 refine AW.condT (((askOuts r1_.1 r1_.2).length : Int) == 0) (by kernel_rfl) (beq_iff_eq.2 (by omega)) ?_
 refine AW.r ?_
 refine At.a 1 ?_
 refine At.c (FnSpec.cv2 (As := [.agg [.int .i64 0, .int .i64 0, .int .i64 0, .int .i64 0, .int .i64 0, .int .i64 0, .nil, .nil, .nil, .nil]]) [[0, 0, 0, 0, 0, 0, 6, 1, 1, 1]] (impl_RaftBeat_spec  (⟨0, 0, 0, 0, ⟨0, 0, []⟩, [], [], []⟩ : Raft) (by unfold SmallR; simp only [List.length_nil]; omega))) Tryz.call24 true [] [(2320, 0)] [] trivial ?_
 refine At.a 1 ?_
 refine At.sL 67 encOut (beat (⟨0, 0, 0, 0, ⟨0, 0, []⟩, [], [], []⟩ : Raft)) ?_
 refine At.z 2 ?_
 refine AW.ret ?_
 refine ⟨_, Sub.refl _ _, ?_⟩
 refine KF.conv (fun w => .bool w) (fun w => []) (show (((beat (⟨0, 0, 0, 0, ⟨0, 0, []⟩, [], [], []⟩ : Raft)).length : Int) == 0) = (true) from by rw [beat_zero]; rfl) ?_
 exact KF.n []
end Go.Proofs.YtlmadhahghiedaaGreat
