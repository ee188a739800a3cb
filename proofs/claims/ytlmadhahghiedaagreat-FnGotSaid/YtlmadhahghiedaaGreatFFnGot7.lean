/- The contracts of the functions that FnGot reaches (each: what it answers, said over values), printed by a program of this session (wip/sy/g/gen.py). -/
import Derived.Test.YtlmadhahghiedaaGreatFFnGot6
set_option linter.unusedVariables false
set_option linter.unusedSimpArgs false
set_option maxRecDepth 100000
set_option maxHeartbeats 4000000
namespace Go.Proofs.YtlmadhahghiedaaGreat
open Go Go.Sy Go.Proofs
theorem impl_MsgFits_spec  (m : Msg) (hl : m.entries.length ≤ 1048576) : FnSpec Tryz.prog 22 [(msgA m)] [] (.bool (msgFits m)) [] := by
 have hfs := fieldsL_small m.kind
 refine FnSpec.of 30 Tryz.func22 rfl Tryz.ntmps22 (by simp) (AW.weakK ?_)
 refine AW.q 2 ?_
 refine AW.r ?_
 refine At.a 2 ?_
 refine At.c (impl_fieldsOf_spec  m.kind ) Tryz.call76 true [] [] [] trivial ?_
 refine At.z 1 ?_
 refine AW.q 3 ?_
 refine AW.seq ?_
 refine AW.q 3 ?_
 refine AW.block ?_
 refine AW.loopW (fun (x : Nat × Msg) => match x with | (k, q) => Go.Sy.mk [.un, .ptr 101 0 0, .un, .str (fieldsL m.kind), .ptr 104 0 0, .un, .un, .un, .un, .un, .un, .int .i64 ((fieldsL m.kind).size : Int), .int .i64 (k : Int)] [(101, .box 33 [.int .i64 m.kind, .int .i64 m.from_, .int .i64 m.term, .int .i64 m.at_, .int .i64 m.atTerm, .int .i64 m.commit, .bool m.yes, .int .i64 m.release, .int .i64 m.part, .str m.bytes, .int .i64 m.cmd.kind, .int .i64 m.cmd.release, .int .i64 m.cmd.node, .int .i64 m.cmd.size, .str m.cmd.digest, .sl false 6 (m.entries.map encEnt)]), (104, .box 33 [.int .i64 q.kind, .int .i64 q.from_, .int .i64 q.term, .int .i64 q.at_, .int .i64 q.atTerm, .int .i64 q.commit, .bool q.yes, .int .i64 q.release, .int .i64 q.part, .str q.bytes, .int .i64 q.cmd.kind, .int .i64 q.cmd.release, .int .i64 q.cmd.node, .int .i64 q.cmd.size, .str q.cmd.digest, .sl false 6 (q.entries.map encEnt)])]) (fun (x : Nat × Msg) => match x with | (k, q) => k ≤ (fieldsL m.kind).size ∧ q.entries.length ≤ 1048576 ∧ runTake m.kind (fieldsL m.kind).data.toList m = runTake m.kind ((fieldsL m.kind).data.toList.drop k) q) (fun (x : Nat × Msg) => match x with | (k, q) => (fieldsL m.kind).size - k) (0, m) ⟨by omega, hl, by rw [List.drop_zero]⟩ (Sub.o [(101, 101), (104, 104)] [false, true, false, true, true, false, false, false, false, false, false, true, true]) ?_
 rintro ⟨k, q⟩ ⟨hk, hq, hR⟩
 refine AW.q 1 ?_
 refine AW.seq ?_
 refine AW.cD ((k : Int) < ((fieldsL m.kind).size : Int)) (fun h1 => ?_) (fun h1 => ?_)
 · refine AW.skip ?_
   refine AW.seq ?_
   refine AW.block ?_
   refine AW.q 2 ?_
   refine AW.r ?_
   refine At.a 2 ?_
   refine Exists.elim (show ∃ e, (fieldsL m.kind).data[k]? = some e from ⟨_, Array.getElem?_eq_getElem (by show _ < (fieldsL m.kind).size; omega)⟩) fun e1 he1 => ?_
   have hl1 : (fieldsL m.kind).data.toList[k]? = some e1 := by simpa using he1
   refine At.idxStr (t := 9) (d := 17) (x := .tmp 15) (y := .tmp 16) (s := fieldsL m.kind) (kd := .i64) (i := (k : Int)) e1 (by kernel_rfl) (by kernel_rfl) (by kernel_rfl) (by kernel_rfl) (by omega) he1 ?_
   refine At.c (impl_Msg_take_spec  q e1 (by omega)) Tryz.call77 true [(104, 0)] [] [] trivial ?_
   refine At.z 1 ?_
   refine AW.cNB (takeOk q e1.toNat) (fun h2 => ?_) (fun h2 => ?_)
   · refine AW.q 1 ?_
     refine AW.ret ?_
     refine ⟨_, Sub.refl _ _, ?_⟩
     refine KF.conv (fun w => .bool w) (fun w => []) (show (false) = (msgFits m) from by rw [fits_run, hR, dropCons hl1, runTake]; simp [h1, h2]) ?_
     exact KF.n []
   refine AW.skip ?_
   refine AW.g ?_
   refine At.a 1 ?_
   refine At.sI 20 ((k : Int) + 1) (by omega) ?_
   refine At.z 1 ?_
   exact ⟨(k + 1, (takeM q e1.toNat)), ⟨by omega, takeM_small hq _, by rw [hR, dropCons hl1, runTake]; simp only [*, Bool.true_and]⟩, (by simp only; omega), Sub.o [(101, 101), (104, 104)] [false, true, false, true, true, false, false, false, false, false, false, true, true]⟩
 refine AW.exit ?_
 refine AW.r ?_
 refine At.a 3 ?_
 by_cases h3 : (fieldsL m.kind).toList = (⟨#[]⟩ : ByteArray).toList
 · refine At.sB 23 (!((fieldsL m.kind).toList == (⟨#[]⟩ : ByteArray).toList)) false (sayNF (sayET h3)) ?_
   refine At.z 7 ?_
   refine AW.ret ?_
   refine ⟨_, Sub.refl _ _, ?_⟩
   refine KF.conv (fun w => .bool w) (fun w => []) (show (false) = (msgFits m) from by rw [fits_run, show ((fieldsL m.kind).toList == []) = true from beq_iff_eq.2 (by rw [← noBytes]; assumption)]; rfl) ?_
   exact KF.n []
 refine At.sB 23 (!((fieldsL m.kind).toList == (⟨#[]⟩ : ByteArray).toList)) true (sayNT (sayEF h3)) ?_
 refine At.a 4 ?_
 refine At.c (FnSpec.nz (As := [.agg [.int .i64 q.kind, .int .i64 q.from_, .int .i64 q.term, .int .i64 q.at_, .int .i64 q.atTerm, .int .i64 q.commit, .bool q.yes, .int .i64 q.release, .int .i64 q.part, .str q.bytes, .int .i64 q.cmd.kind, .int .i64 q.cmd.release, .int .i64 q.cmd.node, .int .i64 q.cmd.size, .str q.cmd.digest, .sl false 6 (q.entries.map encEnt)], .agg [.int .i64 m.kind, .int .i64 0, .int .i64 0, .int .i64 0, .int .i64 0, .int .i64 0, .bool false, .int .i64 0, .int .i64 0, .str (⟨#[]⟩ : ByteArray), .int .i64 0, .int .i64 0, .int .i64 0, .int .i64 0, .str (⟨#[]⟩ : ByteArray), .nil]]) 6 (impl_MsgSame_spec  q (⟨m.kind, 0, 0, 0, 0, 0, false, 0, 0, (⟨#[]⟩ : ByteArray), ⟨0, 0, 0, 0, (⟨#[]⟩ : ByteArray)⟩, []⟩ : Msg) (by omega) (by simp only [List.length_map, List.length_append, List.length_take, List.length_drop, List.length_replicate, List.length_set, List.length_cons, List.length_nil]; omega))) Tryz.call78 true [] [] [] trivial ?_
 refine At.z 2 ?_
 refine AW.ret ?_
 refine ⟨_, Sub.refl _ _, ?_⟩
 refine KF.conv (fun w => .bool w) (fun w => []) (show (msgEq q (⟨m.kind, 0, 0, 0, 0, 0, false, 0, 0, (⟨#[]⟩ : ByteArray), ⟨0, 0, 0, 0, (⟨#[]⟩ : ByteArray)⟩, []⟩ : Msg)) = (msgFits m) from by rw [fits_run, hR, List.drop_of_length_le (by rw [Array.length_toList]; show (fieldsL m.kind).size ≤ _; omega), runTake, beq_eq_false_iff_ne.2 (by rw [← noBytes]; assumption)]; rfl) ?_
 exact KF.n []
def K_impl_stepper_mayHear (rs : List ResultVar) (s : Stepper) (m : Msg) (kind : Int) (w0_ : Bool) : Exit → Sg → Prop := KF Tryz.prog 7 rs (.bool w0_) [.box 102 [.int .i64 s.r.id, .int .i64 s.r.of_, .int .i64 s.r.role, .int .i64 s.r.commit, .int .i64 s.r.hard.term, .int .i64 s.r.hard.vote, .ref 1, .ref 2, .ref 3, .ref 4, .int .i64 s.was.id, .int .i64 s.was.of_, .int .i64 s.was.role, .int .i64 s.was.commit, .int .i64 s.was.hard.term, .int .i64 s.was.hard.vote, .sl false 6 (s.was.hard.log.map encEnt), .sl false 1 (s.was.yes.map encI), .sl false 1 (s.was.next.map encI), .sl false 1 (s.was.match_.map encI), .ref 5, .ref 6], .arr 45 6 (s.r.hard.log.map encEnt), .arr 3 1 (s.r.yes.map encI), .arr 3 1 (s.r.next.map encI), .arr 3 1 (s.r.match_.map encI), .arr 47 10 (s.recs.map encRec), .arr 51 17 (s.outs.map encOut)]
theorem impl_stepper_mayHear_spec  (s : Stepper) (m : Msg) (kind : Int) (hz : SmallR s.was) (hm : m.entries.length ≤ 1048576) : FnSpec Tryz.prog 85 [.ptr 0 0 0, (msgA m), .int .i64 kind] [.box 102 [.int .i64 s.r.id, .int .i64 s.r.of_, .int .i64 s.r.role, .int .i64 s.r.commit, .int .i64 s.r.hard.term, .int .i64 s.r.hard.vote, .ref 1, .ref 2, .ref 3, .ref 4, .int .i64 s.was.id, .int .i64 s.was.of_, .int .i64 s.was.role, .int .i64 s.was.commit, .int .i64 s.was.hard.term, .int .i64 s.was.hard.vote, .sl false 6 (s.was.hard.log.map encEnt), .sl false 1 (s.was.yes.map encI), .sl false 1 (s.was.next.map encI), .sl false 1 (s.was.match_.map encI), .ref 5, .ref 6], .arr 45 6 (s.r.hard.log.map encEnt), .arr 3 1 (s.r.yes.map encI), .arr 3 1 (s.r.next.map encI), .arr 3 1 (s.r.match_.map encI), .arr 47 10 (s.recs.map encRec), .arr 51 17 (s.outs.map encOut)] (.bool (hears s.was m kind)) [.box 102 [.int .i64 s.r.id, .int .i64 s.r.of_, .int .i64 s.r.role, .int .i64 s.r.commit, .int .i64 s.r.hard.term, .int .i64 s.r.hard.vote, .ref 1, .ref 2, .ref 3, .ref 4, .int .i64 s.was.id, .int .i64 s.was.of_, .int .i64 s.was.role, .int .i64 s.was.commit, .int .i64 s.was.hard.term, .int .i64 s.was.hard.vote, .sl false 6 (s.was.hard.log.map encEnt), .sl false 1 (s.was.yes.map encI), .sl false 1 (s.was.next.map encI), .sl false 1 (s.was.match_.map encI), .ref 5, .ref 6], .arr 45 6 (s.r.hard.log.map encEnt), .arr 3 1 (s.r.yes.map encI), .arr 3 1 (s.r.next.map encI), .arr 3 1 (s.r.match_.map encI), .arr 47 10 (s.recs.map encRec), .arr 51 17 (s.outs.map encOut)] := by
 refine FnSpec.of 42 Tryz.func85 rfl Tryz.ntmps85 (by simp) (AW.weakK ?_)
 refine AW.q 2 ?_
 refine AW.seq ?_
 refine AW.gD Tryz_mix ?_
 refine At.a 4 ?_
 refine At.c (impl_RaftOk_spec  s.was hz) Tryz.call19 true [] [] [] trivial ?_
 refine At.a 1 ?_
 by_cases h1 : (raftOk s.was) = true
 · refine At.sB 12 (raftOk s.was) true (sayB h1) ?_
   have h1n := raftOk1_nums (raftOk_1 h1)
   refine At.a 1 ?_
   refine At.c (impl_MsgFits_spec  m hm) Tryz.call22 true [] [] [] trivial ?_
   refine At.a 2 ?_
   by_cases h2 : (msgFits m) = true
   · refine At.sB 16 (msgFits m) true (sayB h2) ?_
     refine At.a 6 ?_
     by_cases h3 : m.kind = kind
     · refine At.sB 22 _ _ (sayET h3) ?_
       refine At.a 10 ?_
       by_cases h4 : m.from_ < s.was.of_
       · refine At.sB 32 _ _ (sayT h4) ?_
         refine At.zD 10 ?_
         exact AW.ret (rf (k1 (K_impl_stepper_mayHear _ s m kind) (show (m.from_ != s.was.id) = (hears s.was m kind) from by grind [hears]) (KF.n [(0, 0), (1, 1), (2, 2), (3, 3), (4, 4), (5, 5), (6, 6)])))
       refine At.sB 32 _ _ (sayF h4) ?_
       refine At.zD 10 ?_
       exact AW.ret (rf (k1 (K_impl_stepper_mayHear _ s m kind) (show (false) = (hears s.was m kind) from by grind [hears]) (KF.n [(0, 0), (1, 1), (2, 2), (3, 3), (4, 4), (5, 5), (6, 6)])))
     refine At.sB 22 _ _ (sayEF h3) ?_
     refine At.zD 20 ?_
     exact AW.ret (rf (k1 (K_impl_stepper_mayHear _ s m kind) (show (false) = (hears s.was m kind) from by grind [hears]) (KF.n [(0, 0), (1, 1), (2, 2), (3, 3), (4, 4), (5, 5), (6, 6)])))
   refine At.sB 16 (msgFits m) false (sayB (Bool.eq_false_iff.2 h2)) ?_
   replace h2 := Bool.eq_false_iff.2 h2
   refine At.zD 26 ?_
   exact AW.ret (rf (k1 (K_impl_stepper_mayHear _ s m kind) (show (false) = (hears s.was m kind) from by grind [hears]) (KF.n [(0, 0), (1, 1), (2, 2), (3, 3), (4, 4), (5, 5), (6, 6)])))
 refine At.sB 12 (raftOk s.was) false (sayB (Bool.eq_false_iff.2 h1)) ?_
 replace h1 := Bool.eq_false_iff.2 h1
 refine At.zD 30 ?_
 exact AW.ret (rf (k1 (K_impl_stepper_mayHear _ s m kind) (show (false) = (hears s.was m kind) from by grind [hears]) (KF.n [(0, 0), (1, 1), (2, 2), (3, 3), (4, 4), (5, 5), (6, 6)])))
def K_impl_stepper_none (rs : List ResultVar) (s : Stepper) (w0_ : Raft) : Exit → Sg → Prop := KF Tryz.prog 7 rs (.tup [.agg [.int .i64 w0_.id, .int .i64 w0_.of_, .int .i64 w0_.role, .int .i64 w0_.commit, .int .i64 w0_.hard.term, .int .i64 w0_.hard.vote, .ref 7, .ref 8, .ref 9, .ref 10], .ref 11, .ref 12]) [.box 102 [.int .i64 s.r.id, .int .i64 s.r.of_, .int .i64 s.r.role, .int .i64 s.r.commit, .int .i64 s.r.hard.term, .int .i64 s.r.hard.vote, .ref 1, .ref 2, .ref 3, .ref 4, .int .i64 s.was.id, .int .i64 s.was.of_, .int .i64 s.was.role, .int .i64 s.was.commit, .int .i64 s.was.hard.term, .int .i64 s.was.hard.vote, .sl false 6 (s.was.hard.log.map encEnt), .sl false 1 (s.was.yes.map encI), .sl false 1 (s.was.next.map encI), .sl false 1 (s.was.match_.map encI), .ref 5, .ref 6], .arr 45 6 (s.r.hard.log.map encEnt), .arr 3 1 (s.r.yes.map encI), .arr 3 1 (s.r.next.map encI), .arr 3 1 (s.r.match_.map encI), .arr 47 10 (s.recs.map encRec), .arr 51 17 (s.outs.map encOut), .arr 45 6 (w0_.hard.log.map encEnt), .arr 3 1 (w0_.yes.map encI), .arr 3 1 (w0_.next.map encI), .arr 3 1 (w0_.match_.map encI), .arr 47 10 [], .arr 51 17 []]
theorem impl_stepper_none_spec  (s : Stepper) (hz : SmallR s.was) : FnSpec Tryz.prog 88 [.ptr 0 0 0] [.box 102 [.int .i64 s.r.id, .int .i64 s.r.of_, .int .i64 s.r.role, .int .i64 s.r.commit, .int .i64 s.r.hard.term, .int .i64 s.r.hard.vote, .ref 1, .ref 2, .ref 3, .ref 4, .int .i64 s.was.id, .int .i64 s.was.of_, .int .i64 s.was.role, .int .i64 s.was.commit, .int .i64 s.was.hard.term, .int .i64 s.was.hard.vote, .sl false 6 (s.was.hard.log.map encEnt), .sl false 1 (s.was.yes.map encI), .sl false 1 (s.was.next.map encI), .sl false 1 (s.was.match_.map encI), .ref 5, .ref 6], .arr 45 6 (s.r.hard.log.map encEnt), .arr 3 1 (s.r.yes.map encI), .arr 3 1 (s.r.next.map encI), .arr 3 1 (s.r.match_.map encI), .arr 47 10 (s.recs.map encRec), .arr 51 17 (s.outs.map encOut)] (.tup [.agg [.int .i64 ((same s.was).id), .int .i64 ((same s.was).of_), .int .i64 ((same s.was).role), .int .i64 ((same s.was).commit), .int .i64 ((same s.was).hard.term), .int .i64 ((same s.was).hard.vote), .ref 7, .ref 8, .ref 9, .ref 10], .ref 11, .ref 12]) [.box 102 [.int .i64 s.r.id, .int .i64 s.r.of_, .int .i64 s.r.role, .int .i64 s.r.commit, .int .i64 s.r.hard.term, .int .i64 s.r.hard.vote, .ref 1, .ref 2, .ref 3, .ref 4, .int .i64 s.was.id, .int .i64 s.was.of_, .int .i64 s.was.role, .int .i64 s.was.commit, .int .i64 s.was.hard.term, .int .i64 s.was.hard.vote, .sl false 6 (s.was.hard.log.map encEnt), .sl false 1 (s.was.yes.map encI), .sl false 1 (s.was.next.map encI), .sl false 1 (s.was.match_.map encI), .ref 5, .ref 6], .arr 45 6 (s.r.hard.log.map encEnt), .arr 3 1 (s.r.yes.map encI), .arr 3 1 (s.r.next.map encI), .arr 3 1 (s.r.match_.map encI), .arr 47 10 (s.recs.map encRec), .arr 51 17 (s.outs.map encOut), .arr 45 6 (((same s.was).hard.log).map encEnt), .arr 3 1 (((same s.was).yes).map encI), .arr 3 1 (((same s.was).next).map encI), .arr 3 1 (((same s.was).match_).map encI), .arr 47 10 [], .arr 51 17 []] := by
 obtain ⟨z1, z2, z3, z4⟩ := id hz
 refine FnSpec.of 17 Tryz.func88 rfl Tryz.ntmps88 (by simp) (AW.weakK ?_)
 refine AW.q 3 ?_
 refine AW.seq ?_
 refine AW.seq ?_
 refine AW.weak (Sub.nils [⟨true, 102, some 6, 5001, 45, 6⟩, ⟨true, 102, some 7, 5002, 3, 1⟩, ⟨true, 102, some 8, 5003, 3, 1⟩, ⟨true, 102, some 9, 5004, 3, 1⟩] (by kernel_rfl)) ?_
 refine AW.g ?_
 refine At.a 4 ?_
 refine At.c (impl_RaftOk_spec  s.was hz) Tryz.call19 true [] [] [] trivial ?_
 refine At.z 1 ?_
 refine AW.cNB (raftOk s.was) (fun h1 => ?_) (fun h1 => ?_)
 · refine AW.q 4 ?_
   refine AW.ret ?_
   refine ⟨_, Sub.nils [⟨true, 102, some 6, 5005, 45, 6⟩, ⟨true, 102, some 7, 5006, 3, 1⟩, ⟨true, 102, some 8, 5007, 3, 1⟩, ⟨true, 102, some 9, 5008, 3, 1⟩, ⟨false, 3, none, 5009, 47, 10⟩, ⟨false, 4, none, 5010, 51, 17⟩] (by kernel_rfl), ?_⟩
   exact k1 (K_impl_stepper_none _ s) (show ((⟨0, 0, 0, 0, ⟨0, 0, []⟩, [], [], []⟩ : Raft)) = (same s.was) from by simp only [same, h1, if_true] <;> rfl) (KF.n [(0, 0), (1, 1), (2, 2), (3, 3), (4, 4), (5, 5), (6, 6), (5005, 7), (5006, 8), (5007, 9), (5008, 10), (5009, 11), (5010, 12)])
 have h1n := raftOk1_nums (raftOk_1 h1)
 refine AW.skip ?_
 refine AW.r ?_
 refine At.a 4 ?_
 refine At.c (impl_copyRaft_spec  s.was hz) Tryz.call157 true [] [(1320, 0), (1321, 1), (1322, 2), (1323, 3)] [] trivial ?_
 refine At.z 3 ?_
 refine AW.ret ?_
 refine ⟨_, Sub.nils [⟨false, 3, none, 5011, 47, 10⟩, ⟨false, 4, none, 5012, 51, 17⟩] (by kernel_rfl), ?_⟩
 exact k1 (K_impl_stepper_none _ s) (show (s.was) = (same s.was) from by simp only [same, h1, if_true] <;> rfl) (KF.n [(0, 0), (1, 1), (2, 2), (3, 3), (4, 4), (5, 5), (6, 6), (1320, 7), (1321, 8), (1322, 9), (1323, 10), (5011, 11), (5012, 12)])
theorem impl_stepper_none_T_spec  (s : Stepper) (hz : SmallR s.was) (hok : raftOk s.was = true) : FnSpec Tryz.prog 88 [.ptr 0 0 0] [.box 102 [.int .i64 s.r.id, .int .i64 s.r.of_, .int .i64 s.r.role, .int .i64 s.r.commit, .int .i64 s.r.hard.term, .int .i64 s.r.hard.vote, .ref 1, .ref 2, .ref 3, .ref 4, .int .i64 s.was.id, .int .i64 s.was.of_, .int .i64 s.was.role, .int .i64 s.was.commit, .int .i64 s.was.hard.term, .int .i64 s.was.hard.vote, .sl false 6 (s.was.hard.log.map encEnt), .sl false 1 (s.was.yes.map encI), .sl false 1 (s.was.next.map encI), .sl false 1 (s.was.match_.map encI), .ref 5, .ref 6], .arr 45 6 (s.r.hard.log.map encEnt), .arr 3 1 (s.r.yes.map encI), .arr 3 1 (s.r.next.map encI), .arr 3 1 (s.r.match_.map encI), .arr 47 10 (s.recs.map encRec), .arr 51 17 (s.outs.map encOut)] (.tup [.agg [.int .i64 s.was.id, .int .i64 s.was.of_, .int .i64 s.was.role, .int .i64 s.was.commit, .int .i64 s.was.hard.term, .int .i64 s.was.hard.vote, .ref 7, .ref 8, .ref 9, .ref 10], .ref 11, .ref 12]) [.box 102 [.int .i64 s.r.id, .int .i64 s.r.of_, .int .i64 s.r.role, .int .i64 s.r.commit, .int .i64 s.r.hard.term, .int .i64 s.r.hard.vote, .ref 1, .ref 2, .ref 3, .ref 4, .int .i64 s.was.id, .int .i64 s.was.of_, .int .i64 s.was.role, .int .i64 s.was.commit, .int .i64 s.was.hard.term, .int .i64 s.was.hard.vote, .sl false 6 (s.was.hard.log.map encEnt), .sl false 1 (s.was.yes.map encI), .sl false 1 (s.was.next.map encI), .sl false 1 (s.was.match_.map encI), .ref 5, .ref 6], .arr 45 6 (s.r.hard.log.map encEnt), .arr 3 1 (s.r.yes.map encI), .arr 3 1 (s.r.next.map encI), .arr 3 1 (s.r.match_.map encI), .arr 47 10 (s.recs.map encRec), .arr 51 17 (s.outs.map encOut), .arr 45 6 (s.was.hard.log.map encEnt), .arr 3 1 (s.was.yes.map encI), .arr 3 1 (s.was.next.map encI), .arr 3 1 (s.was.match_.map encI), .arr 47 10 [], .arr 51 17 []] := by have := impl_stepper_none_spec s hz; rw [show same s.was = s.was from if_pos hok] at this; exact this
theorem impl_stepper_none_F_spec  (s : Stepper) (hz : SmallR s.was) (hok : ¬ raftOk s.was = true) : FnSpec Tryz.prog 88 [.ptr 0 0 0] [.box 102 [.int .i64 s.r.id, .int .i64 s.r.of_, .int .i64 s.r.role, .int .i64 s.r.commit, .int .i64 s.r.hard.term, .int .i64 s.r.hard.vote, .ref 1, .ref 2, .ref 3, .ref 4, .int .i64 s.was.id, .int .i64 s.was.of_, .int .i64 s.was.role, .int .i64 s.was.commit, .int .i64 s.was.hard.term, .int .i64 s.was.hard.vote, .sl false 6 (s.was.hard.log.map encEnt), .sl false 1 (s.was.yes.map encI), .sl false 1 (s.was.next.map encI), .sl false 1 (s.was.match_.map encI), .ref 5, .ref 6], .arr 45 6 (s.r.hard.log.map encEnt), .arr 3 1 (s.r.yes.map encI), .arr 3 1 (s.r.next.map encI), .arr 3 1 (s.r.match_.map encI), .arr 47 10 (s.recs.map encRec), .arr 51 17 (s.outs.map encOut)] (.tup [.agg [.int .i64 0, .int .i64 0, .int .i64 0, .int .i64 0, .int .i64 0, .int .i64 0, .ref 7, .ref 8, .ref 9, .ref 10], .ref 11, .ref 12]) [.box 102 [.int .i64 s.r.id, .int .i64 s.r.of_, .int .i64 s.r.role, .int .i64 s.r.commit, .int .i64 s.r.hard.term, .int .i64 s.r.hard.vote, .ref 1, .ref 2, .ref 3, .ref 4, .int .i64 s.was.id, .int .i64 s.was.of_, .int .i64 s.was.role, .int .i64 s.was.commit, .int .i64 s.was.hard.term, .int .i64 s.was.hard.vote, .sl false 6 (s.was.hard.log.map encEnt), .sl false 1 (s.was.yes.map encI), .sl false 1 (s.was.next.map encI), .sl false 1 (s.was.match_.map encI), .ref 5, .ref 6], .arr 45 6 (s.r.hard.log.map encEnt), .arr 3 1 (s.r.yes.map encI), .arr 3 1 (s.r.next.map encI), .arr 3 1 (s.r.match_.map encI), .arr 47 10 (s.recs.map encRec), .arr 51 17 (s.outs.map encOut), .arr 45 6 [], .arr 3 1 [], .arr 3 1 [], .arr 3 1 [], .arr 47 10 [], .arr 51 17 []] := by have := impl_stepper_none_spec s hz; rw [show same s.was = zRaft from if_neg hok] at this; exact this
theorem impl_stepper_follow_spec  (s : Stepper) : FnSpec Tryz.prog 92 [.ptr 0 0 0] [.box 102 [.int .i64 s.r.id, .int .i64 s.r.of_, .int .i64 s.r.role, .int .i64 s.r.commit, .int .i64 s.r.hard.term, .int .i64 s.r.hard.vote, .ref 1, .ref 2, .ref 3, .ref 4, .int .i64 s.was.id, .int .i64 s.was.of_, .int .i64 s.was.role, .int .i64 s.was.commit, .int .i64 s.was.hard.term, .int .i64 s.was.hard.vote, .sl false 6 (s.was.hard.log.map encEnt), .sl false 1 (s.was.yes.map encI), .sl false 1 (s.was.next.map encI), .sl false 1 (s.was.match_.map encI), .ref 5, .ref 6], .arr 45 6 (s.r.hard.log.map encEnt), .arr 3 1 (s.r.yes.map encI), .arr 3 1 (s.r.next.map encI), .arr 3 1 (s.r.match_.map encI), .arr 47 10 (s.recs.map encRec), .arr 51 17 (s.outs.map encOut)] (.tup []) [.box 102 [.int .i64 s.r.id, .int .i64 s.r.of_, .int .i64 1, .int .i64 s.r.commit, .int .i64 s.r.hard.term, .int .i64 s.r.hard.vote, .ref 1, .ref 7, .ref 8, .ref 9, .int .i64 s.was.id, .int .i64 s.was.of_, .int .i64 s.was.role, .int .i64 s.was.commit, .int .i64 s.was.hard.term, .int .i64 s.was.hard.vote, .sl false 6 (s.was.hard.log.map encEnt), .sl false 1 (s.was.yes.map encI), .sl false 1 (s.was.next.map encI), .sl false 1 (s.was.match_.map encI), .ref 5, .ref 6], .arr 45 6 (s.r.hard.log.map encEnt), .dead, .dead, .dead, .arr 47 10 (s.recs.map encRec), .arr 51 17 (s.outs.map encOut), .arr 3 1 [], .arr 3 1 [], .arr 3 1 []] := by
 refine FnSpec.of 18 Tryz.func92 rfl Tryz.ntmps92 (by simp) (AW.weakK ?_)
 refine AW.gq 20 ?_
 refine ⟨_, (Sub.trans (Sub.trans (Sub.trans (Sub.nils [⟨true, 0, some 7, 5001, 3, 1⟩, ⟨true, 0, some 8, 5002, 3, 1⟩, ⟨true, 0, some 9, 5003, 3, 1⟩] (by kernel_rfl)) (Sub.mv 2 8002 (by kernel_rfl) (by decide))) (Sub.mv 3 8003 (by kernel_rfl) (by decide))) (Sub.mv 4 8004 (by kernel_rfl) (by decide))), ?_⟩
 refine KF.conv (fun w => .tup []) (fun w => [.box 102 [.int .i64 w.r.id, .int .i64 w.r.of_, .int .i64 w.r.role, .int .i64 w.r.commit, .int .i64 w.r.hard.term, .int .i64 w.r.hard.vote, .ref 1, .ref 7, .ref 8, .ref 9, .int .i64 w.was.id, .int .i64 w.was.of_, .int .i64 w.was.role, .int .i64 w.was.commit, .int .i64 w.was.hard.term, .int .i64 w.was.hard.vote, .sl false 6 (w.was.hard.log.map encEnt), .sl false 1 (w.was.yes.map encI), .sl false 1 (w.was.next.map encI), .sl false 1 (w.was.match_.map encI), .ref 5, .ref 6], .arr 45 6 (w.r.hard.log.map encEnt), .dead, .dead, .dead, .arr 47 10 (w.recs.map encRec), .arr 51 17 (w.outs.map encOut), .arr 3 1 (w.r.yes.map encI), .arr 3 1 (w.r.next.map encI), .arr 3 1 (w.r.match_.map encI)]) (show ((⟨⟨s.r.id, s.r.of_, 1, s.r.commit, ⟨s.r.hard.term, s.r.hard.vote, s.r.hard.log⟩, [], [], []⟩, s.was, s.recs, s.outs⟩ : Stepper)) = (({ s with r := ({ s.r with role := 1, yes := [], next := [], match_ := [] } : Raft) } : Stepper)) from by simp_all) ?_
 exact KF.n [(0, 0), (1, 1), (2, 2), (3, 3), (4, 4), (5, 5), (6, 6), (5001, 7), (5002, 8), (5003, 9)]
theorem impl_stepper_followTerm_T_spec  (s : Stepper) (t_ : Int) (ht : t_ ≤ s.r.hard.term) : FnSpec Tryz.prog 91 [.ptr 0 0 0, .int .i64 t_] [.box 102 [.int .i64 s.r.id, .int .i64 s.r.of_, .int .i64 s.r.role, .int .i64 s.r.commit, .int .i64 s.r.hard.term, .int .i64 s.r.hard.vote, .ref 1, .ref 2, .ref 3, .ref 4, .int .i64 s.was.id, .int .i64 s.was.of_, .int .i64 s.was.role, .int .i64 s.was.commit, .int .i64 s.was.hard.term, .int .i64 s.was.hard.vote, .sl false 6 (s.was.hard.log.map encEnt), .sl false 1 (s.was.yes.map encI), .sl false 1 (s.was.next.map encI), .sl false 1 (s.was.match_.map encI), .ref 5, .ref 6], .arr 45 6 (s.r.hard.log.map encEnt), .arr 3 1 (s.r.yes.map encI), .arr 3 1 (s.r.next.map encI), .arr 3 1 (s.r.match_.map encI), .arr 47 10 (s.recs.map encRec), .arr 51 17 (s.outs.map encOut)] (.bool false) [.box 102 [.int .i64 s.r.id, .int .i64 s.r.of_, .int .i64 s.r.role, .int .i64 s.r.commit, .int .i64 s.r.hard.term, .int .i64 s.r.hard.vote, .ref 1, .ref 2, .ref 3, .ref 4, .int .i64 s.was.id, .int .i64 s.was.of_, .int .i64 s.was.role, .int .i64 s.was.commit, .int .i64 s.was.hard.term, .int .i64 s.was.hard.vote, .sl false 6 (s.was.hard.log.map encEnt), .sl false 1 (s.was.yes.map encI), .sl false 1 (s.was.next.map encI), .sl false 1 (s.was.match_.map encI), .ref 5, .ref 6], .arr 45 6 (s.r.hard.log.map encEnt), .arr 3 1 (s.r.yes.map encI), .arr 3 1 (s.r.next.map encI), .arr 3 1 (s.r.match_.map encI), .arr 47 10 (s.recs.map encRec), .arr 51 17 (s.outs.map encOut)] := by
 refine FnSpec.of 26 Tryz.func91 rfl Tryz.ntmps91 (by simp) (AW.weakK ?_)
 refine AW.q 1 ?_
 refine AW.seq ?_
 refine AW.q 8 ?_
 refine AW.condT (decide (t_ ≤ s.r.hard.term)) (by kernel_rfl) (decide_eq_true ht) ?_
 refine AW.q 1 ?_
 exact AW.ret (rf (KF.n [(0, 0), (1, 1), (2, 2), (3, 3), (4, 4), (5, 5), (6, 6)]))
theorem impl_stepper_followTerm_F_spec  (s : Stepper) (t_ : Int) (ht : ¬ t_ ≤ s.r.hard.term) : FnSpec Tryz.prog 91 [.ptr 0 0 0, .int .i64 t_] [.box 102 [.int .i64 s.r.id, .int .i64 s.r.of_, .int .i64 s.r.role, .int .i64 s.r.commit, .int .i64 s.r.hard.term, .int .i64 s.r.hard.vote, .ref 1, .ref 2, .ref 3, .ref 4, .int .i64 s.was.id, .int .i64 s.was.of_, .int .i64 s.was.role, .int .i64 s.was.commit, .int .i64 s.was.hard.term, .int .i64 s.was.hard.vote, .sl false 6 (s.was.hard.log.map encEnt), .sl false 1 (s.was.yes.map encI), .sl false 1 (s.was.next.map encI), .sl false 1 (s.was.match_.map encI), .ref 5, .ref 6], .arr 45 6 (s.r.hard.log.map encEnt), .arr 3 1 (s.r.yes.map encI), .arr 3 1 (s.r.next.map encI), .arr 3 1 (s.r.match_.map encI), .arr 47 10 (s.recs.map encRec), .arr 51 17 (s.outs.map encOut)] (.bool true) [.box 102 [.int .i64 s.r.id, .int .i64 s.r.of_, .int .i64 1, .int .i64 s.r.commit, .int .i64 t_, .int .i64 0, .ref 1, .ref 7, .ref 8, .ref 9, .int .i64 s.was.id, .int .i64 s.was.of_, .int .i64 s.was.role, .int .i64 s.was.commit, .int .i64 s.was.hard.term, .int .i64 s.was.hard.vote, .sl false 6 (s.was.hard.log.map encEnt), .sl false 1 (s.was.yes.map encI), .sl false 1 (s.was.next.map encI), .sl false 1 (s.was.match_.map encI), .ref 5, .ref 6], .arr 45 6 (s.r.hard.log.map encEnt), .dead, .dead, .dead, .arr 47 10 (s.recs.map encRec), .arr 51 17 (s.outs.map encOut), .arr 3 1 [], .arr 3 1 [], .arr 3 1 []] := by
 refine FnSpec.of 26 Tryz.func91 rfl Tryz.ntmps91 (by simp) (AW.weakK ?_)
 refine AW.q 1 ?_
 refine AW.seq ?_
 refine AW.q 8 ?_
 refine AW.condF (decide (t_ ≤ s.r.hard.term)) (by kernel_rfl) (decide_eq_false ht) ?_
 refine AW.skip ?_
 refine AW.r ?_
 refine At.a 1 ?_
 refine At.c (impl_stepper_follow_spec  s ) Tryz.call92 true [(0, 0), (1, 1), (2, 2), (3, 3), (4, 4), (5, 5), (6, 6)] [(1280, 7), (1281, 8), (1282, 9)] [] trivial ?_
 refine At.done rfl ?_
 refine AW.q 13 ?_
 refine AW.q 1 ?_
 refine AW.ret ?_
 refine ⟨_, Sub.refl _ _, ?_⟩
 refine KF.conv (fun w => .bool true) (fun w => [.box 102 [.int .i64 w.r.id, .int .i64 w.r.of_, .int .i64 w.r.role, .int .i64 w.r.commit, .int .i64 w.r.hard.term, .int .i64 w.r.hard.vote, .ref 1, .ref 7, .ref 8, .ref 9, .int .i64 w.was.id, .int .i64 w.was.of_, .int .i64 w.was.role, .int .i64 w.was.commit, .int .i64 w.was.hard.term, .int .i64 w.was.hard.vote, .sl false 6 (w.was.hard.log.map encEnt), .sl false 1 (w.was.yes.map encI), .sl false 1 (w.was.next.map encI), .sl false 1 (w.was.match_.map encI), .ref 5, .ref 6], .arr 45 6 (w.r.hard.log.map encEnt), .dead, .dead, .dead, .arr 47 10 (w.recs.map encRec), .arr 51 17 (w.outs.map encOut), .arr 3 1 (w.r.yes.map encI), .arr 3 1 (w.r.next.map encI), .arr 3 1 (w.r.match_.map encI)]) (show ((⟨⟨s.r.id, s.r.of_, 1, s.r.commit, ⟨t_, 0, s.r.hard.log⟩, [], [], []⟩, s.was, s.recs, s.outs⟩ : Stepper)) = (({ s with r := ({ s.r with role := 1, yes := [], next := [], match_ := [], hard := { s.r.hard with term := t_, vote := 0 } } : Raft) } : Stepper)) from by simp_all) ?_
 exact KF.n [(0, 0), (1, 1), (2, 2), (3, 3), (4, 4), (5, 5), (6, 6), (1280, 7), (1281, 8), (1282, 9)]
def K_impl_stepper_end (rs : List ResultVar) (s : Stepper) (w0_ : List Rec) : Exit → Sg → Prop := KF Tryz.prog 7 rs (.tup [.agg [.int .i64 s.r.id, .int .i64 s.r.of_, .int .i64 s.r.role, .int .i64 s.r.commit, .int .i64 s.r.hard.term, .int .i64 s.r.hard.vote, .ref 1, .ref 2, .ref 3, .ref 4], .ref 7, .ref 6]) [.box 102 [.int .i64 s.r.id, .int .i64 s.r.of_, .int .i64 s.r.role, .int .i64 s.r.commit, .int .i64 s.r.hard.term, .int .i64 s.r.hard.vote, .ref 1, .ref 2, .ref 3, .ref 4, .int .i64 s.was.id, .int .i64 s.was.of_, .int .i64 s.was.role, .int .i64 s.was.commit, .int .i64 s.was.hard.term, .int .i64 s.was.hard.vote, .sl false 6 (s.was.hard.log.map encEnt), .sl false 1 (s.was.yes.map encI), .sl false 1 (s.was.next.map encI), .sl false 1 (s.was.match_.map encI), .un, .ref 6], .arr 45 6 (s.r.hard.log.map encEnt), .arr 3 1 (s.r.yes.map encI), .arr 3 1 (s.r.next.map encI), .arr 3 1 (s.r.match_.map encI), .dead, .arr 51 17 (s.outs.map encOut), .arr 47 10 (w0_.map encRec)]
theorem impl_stepper_end_spec  (s : Stepper) (hr : s.recs.length ≤ 1048576) : FnSpec Tryz.prog 90 [.ptr 0 0 0] [.box 102 [.int .i64 s.r.id, .int .i64 s.r.of_, .int .i64 s.r.role, .int .i64 s.r.commit, .int .i64 s.r.hard.term, .int .i64 s.r.hard.vote, .ref 1, .ref 2, .ref 3, .ref 4, .int .i64 s.was.id, .int .i64 s.was.of_, .int .i64 s.was.role, .int .i64 s.was.commit, .int .i64 s.was.hard.term, .int .i64 s.was.hard.vote, .sl false 6 (s.was.hard.log.map encEnt), .sl false 1 (s.was.yes.map encI), .sl false 1 (s.was.next.map encI), .sl false 1 (s.was.match_.map encI), .ref 5, .ref 6], .arr 45 6 (s.r.hard.log.map encEnt), .arr 3 1 (s.r.yes.map encI), .arr 3 1 (s.r.next.map encI), .arr 3 1 (s.r.match_.map encI), .arr 47 10 (s.recs.map encRec), .arr 51 17 (s.outs.map encOut)] (.tup [.agg [.int .i64 s.r.id, .int .i64 s.r.of_, .int .i64 s.r.role, .int .i64 s.r.commit, .int .i64 s.r.hard.term, .int .i64 s.r.hard.vote, .ref 1, .ref 2, .ref 3, .ref 4], .ref 7, .ref 6]) [.box 102 [.int .i64 s.r.id, .int .i64 s.r.of_, .int .i64 s.r.role, .int .i64 s.r.commit, .int .i64 s.r.hard.term, .int .i64 s.r.hard.vote, .ref 1, .ref 2, .ref 3, .ref 4, .int .i64 s.was.id, .int .i64 s.was.of_, .int .i64 s.was.role, .int .i64 s.was.commit, .int .i64 s.was.hard.term, .int .i64 s.was.hard.vote, .sl false 6 (s.was.hard.log.map encEnt), .sl false 1 (s.was.yes.map encI), .sl false 1 (s.was.next.map encI), .sl false 1 (s.was.match_.map encI), .un, .ref 6], .arr 45 6 (s.r.hard.log.map encEnt), .arr 3 1 (s.r.yes.map encI), .arr 3 1 (s.r.next.map encI), .arr 3 1 (s.r.match_.map encI), .dead, .arr 51 17 (s.outs.map encOut), .arr 47 10 ((endRecs s).map encRec)] := by
 refine FnSpec.of 60 Tryz.func90 rfl Tryz.ntmps90 (by simp) (AW.weakK ?_)
 refine AW.q 3 ?_
 refine AW.seq ?_
 refine AW.weak (Sub.nils [⟨true, 102, some 6, 5001, 45, 6⟩, ⟨true, 102, some 7, 5002, 3, 1⟩, ⟨true, 102, some 8, 5003, 3, 1⟩, ⟨true, 102, some 9, 5004, 3, 1⟩] (by kernel_rfl)) ?_
 refine AW.gD Tryz_mix ?_
 refine At.zD 14 ?_
 refine AW.seq ?_
 refine AW.r ?_
 refine At.a 6 ?_
 by_cases h1 : s.r.hard.term = s.was.hard.term
 · refine At.sB 22 _ _ (sayET h1) ?_
   refine At.z 6 ?_
   refine AW.cE s.r.hard.vote s.was.hard.vote (fun h2 => ?_) (fun h2 => ?_)
   · refine AW.seq ?_
     refine AW.gD Tryz_mix ?_
     refine At.zD 15 ?_
     refine AW.ret ?_
     refine ⟨_, (Sub.trans (Sub.trans (Sub.refl _ _) (Sub.mv 5 8005 (by kernel_rfl) (by decide))) (Sub.un1 0 20 102 [.int .i64 s.r.id, .int .i64 s.r.of_, .int .i64 s.r.role, .int .i64 s.r.commit, .int .i64 s.r.hard.term, .int .i64 s.r.hard.vote, .ref 1, .ref 2, .ref 3, .ref 4, .int .i64 s.was.id, .int .i64 s.was.of_, .int .i64 s.was.role, .int .i64 s.was.commit, .int .i64 s.was.hard.term, .int .i64 s.was.hard.vote, .sl false 6 (s.was.hard.log.map encEnt), .sl false 1 (s.was.yes.map encI), .sl false 1 (s.was.next.map encI), .sl false 1 (s.was.match_.map encI), .ref 8005, .ref 6] (by kernel_rfl))), ?_⟩
     exact k1 (K_impl_stepper_end _ s) (show (s.recs) = (endRecs s) from by simp [endRecs, voteRec, h1, h2]; try rfl) (KF.n [(0, 0), (1, 1), (2, 2), (3, 3), (4, 4), (5, 5), (6, 6), (8005, 7)])
   refine AW.skip ?_
   refine AW.seq ?_
   refine AW.gD Tryz_mix ?_
   refine At.a 9 ?_
   refine At.ll 50 47 10 150 (45, 6) (([(⟨1, s.r.hard.term, s.r.hard.vote, 0, ⟨0, ⟨0, 0, 0, 0, (⟨#[]⟩ : ByteArray)⟩⟩⟩ : Rec)]).map encRec) ?_
   refine At.a 4 ?_
   refine At.apC 55 47 10 88 155 150 5 encRec ([(⟨1, s.r.hard.term, s.r.hard.vote, 0, ⟨0, ⟨0, 0, 0, 0, (⟨#[]⟩ : ByteArray)⟩⟩⟩ : Rec)]) s.recs (by simp only [List.length_map, List.length_append, List.length_take, List.length_drop, List.length_replicate, List.length_set, List.length_cons, List.length_nil]; omega) (allP_encRec _) ?_
   refine At.zD 7 ?_
   refine AW.ret ?_
   refine ⟨_, (Sub.trans (Sub.trans (Sub.refl _ _) (Sub.mv 5 8005 (by kernel_rfl) (by decide))) (Sub.un1 0 20 102 [.int .i64 s.r.id, .int .i64 s.r.of_, .int .i64 s.r.role, .int .i64 s.r.commit, .int .i64 s.r.hard.term, .int .i64 s.r.hard.vote, .ref 1, .ref 2, .ref 3, .ref 4, .int .i64 s.was.id, .int .i64 s.was.of_, .int .i64 s.was.role, .int .i64 s.was.commit, .int .i64 s.was.hard.term, .int .i64 s.was.hard.vote, .sl false 6 (s.was.hard.log.map encEnt), .sl false 1 (s.was.yes.map encI), .sl false 1 (s.was.next.map encI), .sl false 1 (s.was.match_.map encI), .ref 8005, .ref 6] (by kernel_rfl))), ?_⟩
   exact k1 (K_impl_stepper_end _ s) (show (([(⟨1, s.r.hard.term, s.r.hard.vote, 0, ⟨0, ⟨0, 0, 0, 0, (⟨#[]⟩ : ByteArray)⟩⟩⟩ : Rec)]) ++ s.recs) = (endRecs s) from by simp [endRecs, voteRec, h1, h2]; try rfl) (KF.n [(0, 0), (1, 1), (2, 2), (3, 3), (4, 4), (5, 5), (6, 6), (155, 7)])
 refine At.sB 22 _ _ (sayEF h1) ?_
 refine At.z 6 ?_
 refine AW.cond false (by kernel_rfl) (fun h => by cases h) (fun _ => ?_)
 refine AW.skip ?_
 refine AW.seq ?_
 refine AW.gD Tryz_mix ?_
 refine At.a 9 ?_
 refine At.ll 50 47 10 150 (45, 6) (([(⟨1, s.r.hard.term, s.r.hard.vote, 0, ⟨0, ⟨0, 0, 0, 0, (⟨#[]⟩ : ByteArray)⟩⟩⟩ : Rec)]).map encRec) ?_
 refine At.a 4 ?_
 refine At.apC 55 47 10 88 155 150 5 encRec ([(⟨1, s.r.hard.term, s.r.hard.vote, 0, ⟨0, ⟨0, 0, 0, 0, (⟨#[]⟩ : ByteArray)⟩⟩⟩ : Rec)]) s.recs (by simp only [List.length_map, List.length_append, List.length_take, List.length_drop, List.length_replicate, List.length_set, List.length_cons, List.length_nil]; omega) (allP_encRec _) ?_
 refine At.zD 7 ?_
 refine AW.ret ?_
 refine ⟨_, (Sub.trans (Sub.trans (Sub.refl _ _) (Sub.mv 5 8005 (by kernel_rfl) (by decide))) (Sub.un1 0 20 102 [.int .i64 s.r.id, .int .i64 s.r.of_, .int .i64 s.r.role, .int .i64 s.r.commit, .int .i64 s.r.hard.term, .int .i64 s.r.hard.vote, .ref 1, .ref 2, .ref 3, .ref 4, .int .i64 s.was.id, .int .i64 s.was.of_, .int .i64 s.was.role, .int .i64 s.was.commit, .int .i64 s.was.hard.term, .int .i64 s.was.hard.vote, .sl false 6 (s.was.hard.log.map encEnt), .sl false 1 (s.was.yes.map encI), .sl false 1 (s.was.next.map encI), .sl false 1 (s.was.match_.map encI), .ref 8005, .ref 6] (by kernel_rfl))), ?_⟩
 exact k1 (K_impl_stepper_end _ s) (show (([(⟨1, s.r.hard.term, s.r.hard.vote, 0, ⟨0, ⟨0, 0, 0, 0, (⟨#[]⟩ : ByteArray)⟩⟩⟩ : Rec)]) ++ s.recs) = (endRecs s) from by simp [endRecs, voteRec, h1]; try rfl) (KF.n [(0, 0), (1, 1), (2, 2), (3, 3), (4, 4), (5, 5), (6, 6), (155, 7)])
theorem impl_stepper_message_spec  (s : Stepper) (kind : Int) : FnSpec Tryz.prog 114 [.ptr 0 0 0, .int .i64 kind] [.box 102 [.int .i64 s.r.id, .int .i64 s.r.of_, .int .i64 s.r.role, .int .i64 s.r.commit, .int .i64 s.r.hard.term, .int .i64 s.r.hard.vote, .ref 1, .ref 2, .ref 3, .ref 4, .int .i64 s.was.id, .int .i64 s.was.of_, .int .i64 s.was.role, .int .i64 s.was.commit, .int .i64 s.was.hard.term, .int .i64 s.was.hard.vote, .sl false 6 (s.was.hard.log.map encEnt), .sl false 1 (s.was.yes.map encI), .sl false 1 (s.was.next.map encI), .sl false 1 (s.was.match_.map encI), .ref 5, .ref 6], .arr 45 6 (s.r.hard.log.map encEnt), .arr 3 1 (s.r.yes.map encI), .arr 3 1 (s.r.next.map encI), .arr 3 1 (s.r.match_.map encI), .arr 47 10 (s.recs.map encRec), .arr 51 17 (s.outs.map encOut)] (.agg [.int .i64 kind, .int .i64 s.r.id, .int .i64 s.r.hard.term, .int .i64 0, .int .i64 0, .int .i64 0, .bool false, .int .i64 0, .int .i64 0, .str (⟨#[]⟩), .int .i64 0, .int .i64 0, .int .i64 0, .int .i64 0, .str (⟨#[]⟩), .ref 7]) [.box 102 [.int .i64 s.r.id, .int .i64 s.r.of_, .int .i64 s.r.role, .int .i64 s.r.commit, .int .i64 s.r.hard.term, .int .i64 s.r.hard.vote, .ref 1, .ref 2, .ref 3, .ref 4, .int .i64 s.was.id, .int .i64 s.was.of_, .int .i64 s.was.role, .int .i64 s.was.commit, .int .i64 s.was.hard.term, .int .i64 s.was.hard.vote, .sl false 6 (s.was.hard.log.map encEnt), .sl false 1 (s.was.yes.map encI), .sl false 1 (s.was.next.map encI), .sl false 1 (s.was.match_.map encI), .ref 5, .ref 6], .arr 45 6 (s.r.hard.log.map encEnt), .arr 3 1 (s.r.yes.map encI), .arr 3 1 (s.r.next.map encI), .arr 3 1 (s.r.match_.map encI), .arr 47 10 (s.recs.map encRec), .arr 51 17 (s.outs.map encOut), .arr 45 6 []] := by
 refine FnSpec.of 18 Tryz.func114 rfl Tryz.ntmps114 (by simp) (AW.weakK ?_)
 refine AW.q 1 ?_
 refine AW.seq ?_
 refine AW.weak (Sub.nils [⟨true, 104, some 15, 5001, 45, 6⟩] (by kernel_rfl)) ?_
 refine AW.gD Tryz_mix ?_
 refine At.zD 14 ?_
 refine AW.ret ?_
 refine ⟨_, Sub.nils [⟨true, 104, some 15, 5002, 45, 6⟩] (by kernel_rfl), ?_⟩
 refine KF.conv (fun w => .agg [.int .i64 w.kind, .int .i64 w.from_, .int .i64 w.term, .int .i64 w.at_, .int .i64 w.atTerm, .int .i64 w.commit, .bool w.yes, .int .i64 w.release, .int .i64 w.part, .str w.bytes, .int .i64 w.cmd.kind, .int .i64 w.cmd.release, .int .i64 w.cmd.node, .int .i64 w.cmd.size, .str w.cmd.digest, .ref 7]) (fun w => [.box 102 [.int .i64 s.r.id, .int .i64 s.r.of_, .int .i64 s.r.role, .int .i64 s.r.commit, .int .i64 s.r.hard.term, .int .i64 s.r.hard.vote, .ref 1, .ref 2, .ref 3, .ref 4, .int .i64 s.was.id, .int .i64 s.was.of_, .int .i64 s.was.role, .int .i64 s.was.commit, .int .i64 s.was.hard.term, .int .i64 s.was.hard.vote, .sl false 6 (s.was.hard.log.map encEnt), .sl false 1 (s.was.yes.map encI), .sl false 1 (s.was.next.map encI), .sl false 1 (s.was.match_.map encI), .ref 5, .ref 6], .arr 45 6 (s.r.hard.log.map encEnt), .arr 3 1 (s.r.yes.map encI), .arr 3 1 (s.r.next.map encI), .arr 3 1 (s.r.match_.map encI), .arr 47 10 (s.recs.map encRec), .arr 51 17 (s.outs.map encOut), .arr 45 6 (w.entries.map encEnt)]) (show ((⟨kind, s.r.id, s.r.hard.term, 0, 0, 0, false, 0, 0, (⟨#[]⟩ : ByteArray), ⟨0, 0, 0, 0, (⟨#[]⟩ : ByteArray)⟩, []⟩ : Msg)) = ((⟨kind, s.r.id, s.r.hard.term, 0, 0, 0, false, 0, 0, ⟨#[]⟩, ⟨0, 0, 0, 0, ⟨#[]⟩⟩, []⟩ : Msg)) from rfl) ?_
 exact KF.n [(0, 0), (1, 1), (2, 2), (3, 3), (4, 4), (5, 5), (6, 6), (5002, 7)]
theorem impl_termAt_spec  (l : List Ent) (at_ : Int) (hl : l.length ≤ 1048576) (ha : 0 ≤ at_ ∧ at_ ≤ l.length) : FnSpec Tryz.prog 158 [.sl false 6 (l.map encEnt), .int .i64 at_] [] (.int .i64 (termAt l at_)) [] := by
 refine FnSpec.of 13 Tryz.func158 rfl Tryz.ntmps158 (by simp) (AW.weakK ?_)
 refine AW.q 1 ?_
 refine AW.seq ?_
 refine AW.q 2 ?_
 refine AW.cE at_ (0 : Int) (fun h1 => ?_) (fun h1 => ?_)
 · refine AW.q 1 ?_
   refine AW.ret ?_
   refine ⟨_, Sub.refl _ _, ?_⟩
   refine KF.conv (fun w => .int .i64 w) (fun w => []) (show (0) = (termAt l at_) from by unfold termAt; first | (rw [if_pos (by omega)]; done) | (rw [if_neg (by omega), he1]; rfl)) ?_
   exact KF.n []
 refine AW.skip ?_
 refine AW.r ?_
 refine At.a 3 ?_
 refine At.sI 9 (at_ - 1) (by omega) ?_
 refine At.iSl 24 10 (.tmp 7) (.tmp 9) false 6 (l.map encEnt) .i64 (at_ - 1) 45 (by omega) (by simp only [List.length_map]; omega) ?_
 refine At.a 1 ?_
 refine Exists.elim (gE l ((at_ - 1).toNat) (by omega)) fun e1 he1 => ?_
 refine At.lVp 3 12 (.tmp 11) false 6 (l.map encEnt) ((at_ - 1).toNat) 0 false 1 (encEnt e1) (.int .i64 e1.term) (mapGet he1) ?_
 refine At.z 1 ?_
 refine AW.ret ?_
 refine ⟨_, Sub.refl _ _, ?_⟩
 refine KF.conv (fun w => .int .i64 w) (fun w => []) (show (e1.term) = (termAt l at_) from by unfold termAt; first | (rw [if_pos (by omega)]; done) | (rw [if_neg (by omega), he1]; rfl)) ?_
 exact KF.n []
theorem impl_stepper_send_spec  (s : Stepper) (i : Int) (hz : SmallR s.r) (hi : 0 ≤ i ∧ i < s.r.next.length) (hn : NextOk s.r) (ho : s.outs.length ≤ 2000) : FnSpec Tryz.prog 106 [.ptr 0 0 0, .int .i64 i] [.box 102 [.int .i64 s.r.id, .int .i64 s.r.of_, .int .i64 s.r.role, .int .i64 s.r.commit, .int .i64 s.r.hard.term, .int .i64 s.r.hard.vote, .ref 1, .ref 2, .ref 3, .ref 4, .int .i64 s.was.id, .int .i64 s.was.of_, .int .i64 s.was.role, .int .i64 s.was.commit, .int .i64 s.was.hard.term, .int .i64 s.was.hard.vote, .sl false 6 (s.was.hard.log.map encEnt), .sl false 1 (s.was.yes.map encI), .sl false 1 (s.was.next.map encI), .sl false 1 (s.was.match_.map encI), .ref 5, .ref 6], .arr 45 6 (s.r.hard.log.map encEnt), .arr 3 1 (s.r.yes.map encI), .arr 3 1 (s.r.next.map encI), .arr 3 1 (s.r.match_.map encI), .arr 47 10 (s.recs.map encRec), .arr 51 17 (s.outs.map encOut)] (.tup []) [.box 102 [.int .i64 s.r.id, .int .i64 s.r.of_, .int .i64 s.r.role, .int .i64 s.r.commit, .int .i64 s.r.hard.term, .int .i64 s.r.hard.vote, .ref 1, .ref 2, .ref 3, .ref 4, .int .i64 s.was.id, .int .i64 s.was.of_, .int .i64 s.was.role, .int .i64 s.was.commit, .int .i64 s.was.hard.term, .int .i64 s.was.hard.vote, .sl false 6 (s.was.hard.log.map encEnt), .sl false 1 (s.was.yes.map encI), .sl false 1 (s.was.next.map encI), .sl false 1 (s.was.match_.map encI), .ref 5, .ref 7], .arr 45 6 (s.r.hard.log.map encEnt), .arr 3 1 (s.r.yes.map encI), .arr 3 1 (s.r.next.map encI), .arr 3 1 (s.r.match_.map encI), .arr 47 10 (s.recs.map encRec), .dead, .arr 51 17 ((s.outs ++ [sendOf s.r i]).map encOut)] := by
 obtain ⟨z1, z2, z3, z4⟩ := id hz
 refine FnSpec.of 59 Tryz.func106 rfl Tryz.ntmps106 (by simp) (AW.weakK ?_)
 refine AW.q 7 ?_
 refine AW.r ?_
 refine At.a 1 ?_
 refine At.c (impl_stepper_message_spec  s 3 ) Tryz.call114 true [(0, 0), (1, 1), (2, 2), (3, 3), (4, 4), (5, 5), (6, 6)] [(1260, 7)] [] trivial ?_
 refine At.z 2 ?_
 refine AW.r ?_
 refine At.a 6 ?_
 refine At.iRf 27 20 (.tmp 18) (.tmp 19) 3 (s.r.next.map encI) .i64 i 3 1 (by omega) (by simp only [List.length_map]; omega) ?_
 refine Exists.elim (gE s.r.next ((i).toNat) (by omega)) fun e1 he1 => ?_
 have hxe1 := hn _ (List.mem_of_getElem? he1)
 refine At.lEl 3 21 (.tmp 20) 3 3 1 (s.r.next.map encI) ((i).toNat) 0 false 1 (encI e1) (.int .i64 e1) (mapGet he1) ?_
 refine At.a 1 ?_
 refine At.sI 22 (e1 - 1) (by omega) ?_
 refine At.z 2 ?_
 refine AW.seq ?_
 refine AW.gD Tryz_mix ?_
 refine At.a 3 ?_
 refine At.c (impl_termAt_spec  s.r.hard.log (e1 - 1) (by omega) (by omega)) Tryz.call158 false [] [] [(1, 6, (s.r.hard.log.map encEnt))] ⟨rfl, ⟨45, (s.r.hard.log.map encEnt), by kernel_rfl, FrzIs.same (allP_encEnt _)⟩, trivial⟩ ?_
 refine At.zD 9 ?_
 refine AW.r ?_
 refine At.a 6 ?_
 refine At.sJ 40 ((e1 - 1) + 6) (e1 + 5) (by omega) (by omega) ?_
 refine At.a 2 ?_
 refine At.sL 42 encEnt s.r.hard.log ?_
 refine At.mm (d := 43) (b := .min) (x := .tmp 40) (y := .tmp 42) (ats := #[3, 3]) (q := .i64) (m := e1 + 5) (n := (s.r.hard.log.length : Int)) (if (s.r.hard.log.length : Int) < (e1 + 5) then (s.r.hard.log.length : Int) else e1 + 5) (by kernel_rfl) (by kernel_rfl) (by kernel_rfl) (by kernel_rfl) (.inl ⟨rfl, rfl⟩) ?_
 refine At.say 43 (.int .i64 (if (s.r.hard.log.length : Int) < (e1 + 5) then (s.r.hard.log.length : Int) else e1 + 5)) (.int .i64 (min (e1 + 5) (s.r.hard.log.length : Int))) (by kernel_rfl) (congrArg (V.int .i64) (by omega)) ?_
 refine At.sliceRef (t := 24) (d := 44) (e := 45) (es := 6) (i := 1) (x := .tmp 35) (lx := some (.tmp 37)) (hx := some (.tmp 43)) (xs := (s.r.hard.log.map encEnt)) (vl := .int .i64 (e1 - 1)) (vh := .int .i64 (min (e1 + 5) (s.r.hard.log.length : Int))) ((e1 - 1).toNat) ((min (e1 + 5) (s.r.hard.log.length : Int)).toNat) (by kernel_rfl) (by kernel_rfl) (by kernel_rfl) (by kernel_rfl) (by kernel_rfl) (.inr ⟨_, _, rfl, sayNat (by omega)⟩) (.inr ⟨_, _, rfl, sayNat (by omega)⟩) (by omega) (by simp only [List.length_map]; omega) ?_
 refine At.call (impl_copyLog_spec  ((s.r.hard.log.drop ((e1 - 1).toNat)).take (((min (e1 + 5) (s.r.hard.log.length : Int)).toNat) - ((e1 - 1).toNat))) (by simp only [List.length_map, List.length_append, List.length_take, List.length_drop, List.length_replicate, List.length_set, List.length_cons, List.length_nil]; omega)) Tryz.call162 false [] [(1900, 0)] [(1, 6, (s.r.hard.log.map encEnt))] (by kernel_rfl) (by kernel_rfl) (Eq.trans (b := [.sl false 6 (((s.r.hard.log.map encEnt).drop ((e1 - 1).toNat)).take (((min (e1 + 5) (s.r.hard.log.length : Int)).toNat) - ((e1 - 1).toNat)))]) (by kernel_rfl) (by simp only [List.map_take, List.map_drop])) (by kernel_rfl) (by kernel_rfl) ⟨rfl, ⟨45, (s.r.hard.log.map encEnt), by kernel_rfl, FrzIs.same (allP_encEnt _)⟩, trivial⟩ ?_
 refine At.z 2 ?_
 refine AW.gD Tryz_mix ?_
 refine At.a 8 ?_
 refine At.lk 55 51 17 155 (45, 6) [1900] (([(⟨i, ⟨3, s.r.id, s.r.hard.term, e1 - 1, termAt s.r.hard.log (e1 - 1), s.r.commit, false, 0, 0, ⟨#[]⟩, ⟨0, 0, 0, 0, ⟨#[]⟩⟩, ((s.r.hard.log.drop ((e1 - 1).toNat)).take (((min (e1 + 5) (s.r.hard.log.length : Int)).toNat) - ((e1 - 1).toNat)))⟩⟩ : Out)]).map encOut) [(45, 6, (((s.r.hard.log.drop ((e1 - 1).toNat)).take (((min (e1 + 5) (s.r.hard.log.length : Int)).toNat) - ((e1 - 1).toNat))).map encEnt))] (by intro p hp; simp only [List.mem_cons, List.not_mem_nil, or_false] at hp; subst hp; all_goals first | exact flatEnts | exact flatInts | (intro x hx; cases hx)) ?_
 refine At.apK 56 51 17 168 156 6 155 encOut s.outs ([(⟨i, ⟨3, s.r.id, s.r.hard.term, e1 - 1, termAt s.r.hard.log (e1 - 1), s.r.commit, false, 0, 0, ⟨#[]⟩, ⟨0, 0, 0, 0, ⟨#[]⟩⟩, ((s.r.hard.log.drop ((e1 - 1).toNat)).take (((min (e1 + 5) (s.r.hard.log.length : Int)).toNat) - ((e1 - 1).toNat)))⟩⟩ : Out)]) (by simp only [List.length_map, List.length_append, List.length_take, List.length_drop, List.length_replicate, List.length_set, List.length_cons, List.length_nil]; omega) ?_
 refine At.zD 3 ?_
 refine ⟨_, Sub.refl _ _, ?_⟩
 refine KF.conv (fun w => .tup []) (fun w => [.box 102 [.int .i64 w.r.id, .int .i64 w.r.of_, .int .i64 w.r.role, .int .i64 w.r.commit, .int .i64 w.r.hard.term, .int .i64 w.r.hard.vote, .ref 1, .ref 2, .ref 3, .ref 4, .int .i64 w.was.id, .int .i64 w.was.of_, .int .i64 w.was.role, .int .i64 w.was.commit, .int .i64 w.was.hard.term, .int .i64 w.was.hard.vote, .sl false 6 (w.was.hard.log.map encEnt), .sl false 1 (w.was.yes.map encI), .sl false 1 (w.was.next.map encI), .sl false 1 (w.was.match_.map encI), .ref 5, .ref 7], .arr 45 6 (w.r.hard.log.map encEnt), .arr 3 1 (w.r.yes.map encI), .arr 3 1 (w.r.next.map encI), .arr 3 1 (w.r.match_.map encI), .arr 47 10 (w.recs.map encRec), .dead, .arr 51 17 (w.outs.map encOut)]) (show ((⟨s.r, s.was, s.recs, s.outs ++ ([(⟨i, ⟨3, s.r.id, s.r.hard.term, e1 - 1, termAt s.r.hard.log (e1 - 1), s.r.commit, false, 0, 0, ⟨#[]⟩, ⟨0, 0, 0, 0, ⟨#[]⟩⟩, ((s.r.hard.log.drop ((e1 - 1).toNat)).take (((min (e1 + 5) (s.r.hard.log.length : Int)).toNat) - ((e1 - 1).toNat)))⟩⟩ : Out)])⟩ : Stepper)) = (({ s with outs := s.outs ++ [sendOf s.r i] } : Stepper)) from by simp only [sendOf, nextOf, he1, Option.getD_some]; rw [takeMin _ _ 6 _ (by omega)]; rfl) ?_
 exact KF.n [(0, 0), (1, 1), (2, 2), (3, 3), (4, 4), (5, 5), (6, 6), (156, 7)]
theorem impl_stepper_commit_spec  (s : Stepper) (hz : SmallR s.r) (hc : 0 ≤ s.r.commit) (ho : 0 ≤ s.r.of_ ∧ s.r.of_ ≤ 5) (hm : (s.r.match_.length : Int) = s.r.of_) : FnSpec Tryz.prog 107 [.ptr 0 0 0] [.box 102 [.int .i64 s.r.id, .int .i64 s.r.of_, .int .i64 s.r.role, .int .i64 s.r.commit, .int .i64 s.r.hard.term, .int .i64 s.r.hard.vote, .ref 1, .ref 2, .ref 3, .ref 4, .int .i64 s.was.id, .int .i64 s.was.of_, .int .i64 s.was.role, .int .i64 s.was.commit, .int .i64 s.was.hard.term, .int .i64 s.was.hard.vote, .sl false 6 (s.was.hard.log.map encEnt), .sl false 1 (s.was.yes.map encI), .sl false 1 (s.was.next.map encI), .sl false 1 (s.was.match_.map encI), .ref 5, .ref 6], .arr 45 6 (s.r.hard.log.map encEnt), .arr 3 1 (s.r.yes.map encI), .arr 3 1 (s.r.next.map encI), .arr 3 1 (s.r.match_.map encI), .arr 47 10 (s.recs.map encRec), .arr 51 17 (s.outs.map encOut)] (.tup []) [.box 102 [.int .i64 s.r.id, .int .i64 s.r.of_, .int .i64 s.r.role, .int .i64 (commitOf s.r), .int .i64 s.r.hard.term, .int .i64 s.r.hard.vote, .ref 1, .ref 2, .ref 3, .ref 4, .int .i64 s.was.id, .int .i64 s.was.of_, .int .i64 s.was.role, .int .i64 s.was.commit, .int .i64 s.was.hard.term, .int .i64 s.was.hard.vote, .sl false 6 (s.was.hard.log.map encEnt), .sl false 1 (s.was.yes.map encI), .sl false 1 (s.was.next.map encI), .sl false 1 (s.was.match_.map encI), .ref 5, .ref 6], .arr 45 6 (s.r.hard.log.map encEnt), .arr 3 1 (s.r.yes.map encI), .arr 3 1 (s.r.next.map encI), .arr 3 1 (s.r.match_.map encI), .arr 47 10 (s.recs.map encRec), .arr 51 17 (s.outs.map encOut)] := by
 obtain ⟨z1, z2, z3, z4⟩ := id hz
 refine FnSpec.of 65 Tryz.func107 rfl Tryz.ntmps107 (by simp) (AW.weakK ?_)
 refine AW.q 7 ?_
 refine AW.r ?_
 refine At.a 2 ?_
 refine At.sL 14 encEnt s.r.hard.log ?_
 refine At.z 1 ?_
 refine AW.block ?_
 refine AW.loopW (fun (x : Int × Int) => match x with | (n, q) => Go.Sy.mk [.ptr 0 0 0, .un, .ref 1, .int .i64 n] [(0, .box 102 [.int .i64 s.r.id, .int .i64 s.r.of_, .int .i64 s.r.role, .int .i64 q, .int .i64 s.r.hard.term, .int .i64 s.r.hard.vote, .ref 1, .ref 2, .ref 3, .ref 4, .int .i64 s.was.id, .int .i64 s.was.of_, .int .i64 s.was.role, .int .i64 s.was.commit, .int .i64 s.was.hard.term, .int .i64 s.was.hard.vote, .sl false 6 (s.was.hard.log.map encEnt), .sl false 1 (s.was.yes.map encI), .sl false 1 (s.was.next.map encI), .sl false 1 (s.was.match_.map encI), .ref 5, .ref 6]), (1, .arr 45 6 (s.r.hard.log.map encEnt)), (2, .arr 3 1 (s.r.yes.map encI)), (3, .arr 3 1 (s.r.next.map encI)), (4, .arr 3 1 (s.r.match_.map encI)), (5, .arr 47 10 (s.recs.map encRec)), (6, .arr 51 17 (s.outs.map encOut))]) (fun (x : Int × Int) => match x with | (n, q) => (0 ≤ q ∧ n ≤ s.r.hard.log.length ∧ -1 ≤ n) ∧ CInv s.r n q) (fun (x : Int × Int) => match x with | (n, q) => (n + 1).toNat) ((s.r.hard.log.length : Int), s.r.commit) ⟨by omega, CInv.start _⟩ (Sub.o [(0, 0), (1, 1), (2, 2), (3, 3), (4, 4), (5, 5), (6, 6)] [true, false, true, true]) ?_
 rintro ⟨n, q⟩ ⟨hn, hR⟩
 refine AW.seq ?_
 refine AW.q 7 ?_
 refine AW.cD (n > q) (fun h1 => ?_) (fun h1 => ?_)
 · refine AW.skip ?_
   refine AW.seq ?_
   refine AW.block ?_
   refine AW.q 1 ?_
   refine AW.seq ?_
   refine AW.r ?_
   refine At.a 6 ?_
   refine At.sL 29 encI s.r.match_ ?_
   refine At.z 1 ?_
   refine AW.block ?_
   refine AW.loopW (fun (x : Nat × Int) => match x with | (i, c) => Go.Sy.mk [.ptr 0 0 0, .un, .ref 1, .int .i64 n, .int .i64 c, .un, .un, .un, .un, .un, .un, .un, .un, .un, .un, .un, .un, .un, .un, .un, .un, .un, .un, .un, .un, .un, .un, .un, .ref 4, .int .i64 (s.r.match_.length : Int), .int .i64 (i : Int)] [(0, .box 102 [.int .i64 s.r.id, .int .i64 s.r.of_, .int .i64 s.r.role, .int .i64 q, .int .i64 s.r.hard.term, .int .i64 s.r.hard.vote, .ref 1, .ref 2, .ref 3, .ref 4, .int .i64 s.was.id, .int .i64 s.was.of_, .int .i64 s.was.role, .int .i64 s.was.commit, .int .i64 s.was.hard.term, .int .i64 s.was.hard.vote, .sl false 6 (s.was.hard.log.map encEnt), .sl false 1 (s.was.yes.map encI), .sl false 1 (s.was.next.map encI), .sl false 1 (s.was.match_.map encI), .ref 5, .ref 6]), (1, .arr 45 6 (s.r.hard.log.map encEnt)), (2, .arr 3 1 (s.r.yes.map encI)), (3, .arr 3 1 (s.r.next.map encI)), (4, .arr 3 1 (s.r.match_.map encI)), (5, .arr 47 10 (s.recs.map encRec)), (6, .arr 51 17 (s.outs.map encOut))]) (fun (x : Nat × Int) => match x with | (i, c) => (i : Int) ≤ s.r.match_.length ∧ (0 ≤ c ∧ c ≤ i) ∧ c = cntGe (s.r.match_.take i) n) (fun (x : Nat × Int) => match x with | (i, c) => (s.r.match_.length : Int).toNat - i) (0, 0) ⟨by omega, by omega, by simp [cntGe]⟩ (Sub.o [(0, 0), (1, 1), (2, 2), (3, 3), (4, 4), (5, 5), (6, 6)] [true, false, true, true, true, false, false, false, false, false, false, false, false, false, false, false, false, false, false, false, false, false, false, false, false, false, false, false, true, true, true]) ?_
   rintro ⟨i, c⟩ ⟨hi, hc1, hc2⟩
   refine AW.q 1 ?_
   refine AW.seq ?_
   refine AW.cD ((i : Int) < (s.r.match_.length : Int)) (fun h2 => ?_) (fun h2 => ?_)
   · refine AW.skip ?_
     refine AW.seq ?_
     refine AW.block ?_
     refine AW.r ?_
     refine At.iRf 27 32 (.tmp 28) (.tmp 30) 4 (s.r.match_.map encI) .i64 (i : Int) 3 1 (by omega) (by simp only [List.length_map]; omega) ?_
     refine Exists.elim (gE s.r.match_ i (by omega)) fun e1 he1 => ?_
     refine At.lEl 3 33 (.tmp 32) 4 3 1 (s.r.match_.map encI) i 0 false 1 (encI e1) (.int .i64 e1) (mapGet he1) ?_
     refine At.z 1 ?_
     refine AW.q 3 ?_
     refine AW.cD (e1 ≥ n) (fun h3 => ?_) (fun h3 => ?_)
     · refine AW.g ?_
       refine At.a 2 ?_
       refine At.sI 38 (c + 1) (by omega) ?_
       refine At.z 1 ?_
       refine AW.g ?_
       refine At.a 1 ?_
       refine At.sI 39 ((i : Int) + 1) (by omega) ?_
       refine At.z 1 ?_
       exact ⟨(i + 1, (c + 1)), ⟨by omega, by omega, by rw [cntGe_step (by assumption), ← hc2]; first | (rw [if_pos (by assumption)]; done) | (rw [if_neg (by assumption)]; omega)⟩, (by simp only; omega), Sub.o [(0, 0), (1, 1), (2, 2), (3, 3), (4, 4), (5, 5), (6, 6)] [true, false, true, true, true, false, false, false, false, false, false, false, false, false, false, false, false, false, false, false, false, false, false, false, false, false, false, false, true, true, true]⟩
     refine AW.skip ?_
     refine AW.g ?_
     refine At.a 1 ?_
     refine At.sI 39 ((i : Int) + 1) (by omega) ?_
     refine At.z 1 ?_
     exact ⟨(i + 1, c), ⟨by omega, by omega, by rw [cntGe_step (by assumption), ← hc2]; first | (rw [if_pos (by assumption)]; done) | (rw [if_neg (by assumption)]; omega)⟩, (by simp only; omega), Sub.o [(0, 0), (1, 1), (2, 2), (3, 3), (4, 4), (5, 5), (6, 6)] [true, false, true, true, true, false, false, false, false, false, false, false, false, false, false, false, false, false, false, false, false, false, false, false, false, false, false, false, true, true, true]⟩
   refine AW.exit ?_
   refine AW.seq ?_
   refine AW.gD Tryz_mix ?_
   refine At.a 2 ?_
   refine At.c (impl_termAt_spec  s.r.hard.log n (by omega) (by omega)) Tryz.call158 false [] [] [(1, 6, (s.r.hard.log.map encEnt))] ⟨rfl, ⟨45, (s.r.hard.log.map encEnt), by kernel_rfl, FrzIs.same (allP_encEnt _)⟩, trivial⟩ ?_
   refine At.a 8 ?_
   by_cases h4 : termAt s.r.hard.log n = s.r.hard.term
   · refine At.sB 50 _ _ (sayET h4) ?_
     refine At.a 2 ?_
     refine At.sI 52 (2 * c) (by omega) ?_
     refine At.zD 7 ?_
     refine AW.cD ((2 * c) > s.r.of_) (fun h5 => ?_) (fun h5 => ?_)
     · refine AW.gq 6 ?_
       refine AW.g ?_
       refine At.a 2 ?_
       refine At.sI 23 (n - 1) (by omega) ?_
       refine At.z 1 ?_
       exact ⟨(n - 1, n), ⟨by omega, by have hcc := hc2.trans (cntGe_all (by omega)); first | exact CInv.take hR (by omega) (by omega) (by simp only [mostB, Bool.and_eq_true, decide_eq_true_eq, beq_iff_eq, ← hcc]; omega) | exact CInv.skip hR (by omega) (by omega) (by rw [Bool.eq_false_iff]; simp only [mostB, Bool.and_eq_true, decide_eq_true_eq, beq_iff_eq, ← hcc, ne_eq]; omega)⟩, (by simp only; omega), Sub.o [(0, 0), (1, 1), (2, 2), (3, 3), (4, 4), (5, 5), (6, 6)] [true, false, true, true]⟩
     refine AW.skip ?_
     refine AW.g ?_
     refine At.a 2 ?_
     refine At.sI 23 (n - 1) (by omega) ?_
     refine At.z 1 ?_
     exact ⟨(n - 1, q), ⟨by omega, by have hcc := hc2.trans (cntGe_all (by omega)); first | exact CInv.take hR (by omega) (by omega) (by simp only [mostB, Bool.and_eq_true, decide_eq_true_eq, beq_iff_eq, ← hcc]; omega) | exact CInv.skip hR (by omega) (by omega) (by rw [Bool.eq_false_iff]; simp only [mostB, Bool.and_eq_true, decide_eq_true_eq, beq_iff_eq, ← hcc, ne_eq]; omega)⟩, (by simp only; omega), Sub.o [(0, 0), (1, 1), (2, 2), (3, 3), (4, 4), (5, 5), (6, 6)] [true, false, true, true]⟩
   refine At.sB 50 _ _ (sayEF h4) ?_
   refine At.zD 9 ?_
   refine AW.cond false (by kernel_rfl) (fun h => by cases h) (fun _ => ?_)
   refine AW.skip ?_
   refine AW.g ?_
   refine At.a 2 ?_
   refine At.sI 23 (n - 1) (by omega) ?_
   refine At.z 1 ?_
   exact ⟨(n - 1, q), ⟨by omega, by have hcc := hc2.trans (cntGe_all (by omega)); first | exact CInv.take hR (by omega) (by omega) (by simp only [mostB, Bool.and_eq_true, decide_eq_true_eq, beq_iff_eq, ← hcc]; omega) | exact CInv.skip hR (by omega) (by omega) (by rw [Bool.eq_false_iff]; simp only [mostB, Bool.and_eq_true, decide_eq_true_eq, beq_iff_eq, ← hcc, ne_eq]; omega)⟩, (by simp only; omega), Sub.o [(0, 0), (1, 1), (2, 2), (3, 3), (4, 4), (5, 5), (6, 6)] [true, false, true, true]⟩
 refine AW.exit ?_
 refine ⟨_, Sub.refl _ _, ?_⟩
 refine KF.conv (fun w => .tup []) (fun w => [.box 102 [.int .i64 w.r.id, .int .i64 w.r.of_, .int .i64 w.r.role, .int .i64 w.r.commit, .int .i64 w.r.hard.term, .int .i64 w.r.hard.vote, .ref 1, .ref 2, .ref 3, .ref 4, .int .i64 w.was.id, .int .i64 w.was.of_, .int .i64 w.was.role, .int .i64 w.was.commit, .int .i64 w.was.hard.term, .int .i64 w.was.hard.vote, .sl false 6 (w.was.hard.log.map encEnt), .sl false 1 (w.was.yes.map encI), .sl false 1 (w.was.next.map encI), .sl false 1 (w.was.match_.map encI), .ref 5, .ref 6], .arr 45 6 (w.r.hard.log.map encEnt), .arr 3 1 (w.r.yes.map encI), .arr 3 1 (w.r.next.map encI), .arr 3 1 (w.r.match_.map encI), .arr 47 10 (w.recs.map encRec), .arr 51 17 (w.outs.map encOut)]) (show ((⟨⟨s.r.id, s.r.of_, s.r.role, q, ⟨s.r.hard.term, s.r.hard.vote, s.r.hard.log⟩, s.r.yes, s.r.next, s.r.match_⟩, s.was, s.recs, s.outs⟩ : Stepper)) = (({ s with r := { s.r with commit := commitOf s.r } } : Stepper)) from by rw [hR.done (by omega)]) ?_
 exact KF.n [(0, 0), (1, 1), (2, 2), (3, 3), (4, 4), (5, 5), (6, 6)]
def K_impl_OnGot (rs : List ResultVar) (r : Raft) (m : Msg) (w0_ : Raft) (w1_ : List Rec) (w2_ : List Out) : Exit → Sg → Prop := KF Tryz.prog 0 rs (.tup [.agg [.int .i64 w0_.id, .int .i64 w0_.of_, .int .i64 w0_.role, .int .i64 w0_.commit, .int .i64 w0_.hard.term, .int .i64 w0_.hard.vote, .ref 0, .ref 1, .ref 2, .ref 3], .ref 4, .ref 5]) [.arr 45 6 (w0_.hard.log.map encEnt), .arr 3 1 (w0_.yes.map encI), .arr 3 1 (w0_.next.map encI), .arr 3 1 (w0_.match_.map encI), .arr 47 10 (w1_.map encRec), .arr 51 17 (w2_.map encOut)]
theorem impl_OnGot_spec  (r : Raft) (m : Msg) (hz : SmallR r) (hm : m.entries.length ≤ 1048576) : FnSpec Tryz.prog 34 [(raftA r), (msgA m)] [] (.tup [.agg [.int .i64 (((gots r m).1).id), .int .i64 (((gots r m).1).of_), .int .i64 (((gots r m).1).role), .int .i64 (((gots r m).1).commit), .int .i64 (((gots r m).1).hard.term), .int .i64 (((gots r m).1).hard.vote), .ref 0, .ref 1, .ref 2, .ref 3], .ref 4, .ref 5]) [.arr 45 6 ((((gots r m).1).hard.log).map encEnt), .arr 3 1 ((((gots r m).1).yes).map encI), .arr 3 1 ((((gots r m).1).next).map encI), .arr 3 1 ((((gots r m).1).match_).map encI), .arr 47 10 (((gots r m).2.1).map encRec), .arr 51 17 (((gots r m).2.2).map encOut)] := by
 obtain ⟨z1, z2, z3, z4⟩ := id hz
 refine FnSpec.of 115 Tryz.func34 rfl Tryz.ntmps34 (by simp) (AW.weakK ?_)
 by_cases hok : raftOk r = true
 · have hokn := raftOk1_nums (raftOk_1 hok)
   refine AW.q 5 ?_
   refine AW.seq ?_
   refine AW.weak (Sub.nils [⟨true, 104, some 6, 5001, 45, 6⟩, ⟨true, 104, some 7, 5002, 3, 1⟩, ⟨true, 104, some 8, 5003, 3, 1⟩, ⟨true, 104, some 9, 5004, 3, 1⟩] (by kernel_rfl)) ?_
   refine AW.g ?_
   refine At.a 1 ?_
   refine At.c (impl_stepOf_spec  r (by exact hz)) Tryz.call80 true [] [(1200, 0), (1201, 1), (1202, 2), (1203, 3), (1204, 4), (1205, 5), (1206, 6)] [] trivial ?_
   refine At.z 1 ?_
   refine AW.seq ?_
   refine AW.r ?_
   refine At.a 2 ?_
   refine At.c (impl_stepper_mayHear_spec  (⟨r, r, [], []⟩ : Stepper) m 4 (by exact hz) hm) Tryz.call85 true [(1200, 0), (1201, 1), (1202, 2), (1203, 3), (1204, 4), (1205, 5), (1206, 6)] [] [] trivial ?_
   refine At.z 1 ?_
   refine AW.cNB (hears r m 4) (fun h1 => ?_) (fun h1 => ?_)
   · refine AW.r ?_
     refine At.a 1 ?_
     refine At.c (impl_stepper_none_T_spec  (⟨r, r, [], []⟩ : Stepper) (by exact hz) hok) Tryz.call88 true [(1200, 0), (1201, 1), (1202, 2), (1203, 3), (1204, 4), (1205, 5), (1206, 6)] [(1320, 7), (1321, 8), (1322, 9), (1323, 10), (1324, 11), (1325, 12)] [] trivial ?_
     refine At.z 6 ?_
     exact AW.ret (rf (k3 (K_impl_OnGot _ r m) (show (r) = ((gots r m).1) from by rw [gots_un (by assumption) hok]; first | done | rfl | (rw [endRecs_ne (by dsimp only; omega)]; rfl) | (rw [endRecs_eq rfl rfl]; done) | (rw [endRecs_eq rfl rfl]; rfl)) (show ([]) = ((gots r m).2.1) from by rw [gots_un (by assumption) hok]; first | done | rfl | (rw [endRecs_ne (by dsimp only; omega)]; rfl) | (rw [endRecs_eq rfl rfl]; done) | (rw [endRecs_eq rfl rfl]; rfl)) (show ([]) = ((gots r m).2.2) from by rw [gots_un (by assumption) hok]; first | done | rfl | (rw [endRecs_ne (by dsimp only; omega)]; rfl) | (rw [endRecs_eq rfl rfl]; done) | (rw [endRecs_eq rfl rfl]; rfl)) (KF.n [(1320, 0), (1321, 1), (1322, 2), (1323, 3), (1324, 4), (1325, 5)])))
   have hhr := hears_ok h1
   have hnu := msgFits_nums hhr.2.1
   refine AW.skip ?_
   refine AW.seq ?_
   refine AW.r ?_
   refine At.a 3 ?_
   by_cases h2 : m.term ≤ r.hard.term
   · refine At.c (impl_stepper_followTerm_T_spec  (⟨r, r, [], []⟩ : Stepper) m.term h2) Tryz.call91 true [(1200, 0), (1201, 1), (1202, 2), (1203, 3), (1204, 4), (1205, 5), (1206, 6)] [] [] trivial ?_
     refine At.a 6 ?_
     by_cases h3 : r.role = 3
     · refine At.sB 29 _ _ (sayUF h3) ?_
       have hnx := raftOk_next hok h3
       have hmx := raftOk_match hok h3
       refine At.z 7 ?_
       refine AW.cU m.term r.hard.term (fun h4 => ?_) (fun h4 => ?_)
       · refine AW.r ?_
         refine At.a 1 ?_
         refine At.c (impl_stepper_end_spec  (⟨r, r, [], []⟩ : Stepper) (by simp)) Tryz.call90 true [(1200, 0), (1201, 1), (1202, 2), (1203, 3), (1204, 4), (1205, 5), (1206, 6)] [(1760, 7)] [] trivial ?_
         refine At.z 6 ?_
         exact AW.ret (rf (k3 (K_impl_OnGot _ r m) (show (r) = ((gots r m).1) from by rw [gots_not h1 (by omega) (by omega)]; first | done | rfl | (rw [endRecs_ne (by dsimp only; omega)]; rfl) | (rw [endRecs_eq rfl rfl]; done) | (rw [endRecs_eq rfl rfl]; rfl)) (show (endRecs (⟨r, r, [], []⟩ : Stepper)) = ((gots r m).2.1) from by rw [gots_not h1 (by omega) (by omega)]; first | done | rfl | (rw [endRecs_ne (by dsimp only; omega)]; rfl) | (rw [endRecs_eq rfl rfl]; done) | (rw [endRecs_eq rfl rfl]; rfl)) (show ([]) = ((gots r m).2.2) from by rw [gots_not h1 (by omega) (by omega)]; first | done | rfl | (rw [endRecs_ne (by dsimp only; omega)]; rfl) | (rw [endRecs_eq rfl rfl]; done) | (rw [endRecs_eq rfl rfl]; rfl)) (KF.n [(1201, 0), (1202, 1), (1203, 2), (1204, 3), (1760, 4), (1206, 5)])))
       refine AW.skip ?_
       refine AW.q 3 ?_
       refine AW.seq ?_
       refine AW.block ?_
       refine AW.q 4 ?_
       refine AW.cNB (m.yes) (fun h5 => ?_) (fun h5 => ?_)
       · refine AW.seq ?_
         refine AW.gD Tryz_mix ?_
         refine At.a 9 ?_
         refine At.iSl 27 57 (.tmp 55) (.tmp 56) false 1 (r.next.map encI) .i64 m.from_ 3 (by omega) (by simp only [List.length_map]; omega) ?_
         refine Exists.elim (gE r.next ((m.from_).toNat) (by omega)) fun e1 he1 => ?_
         have hxe1 := hnx.2.1 _ (List.mem_of_getElem? he1)
         refine At.lVp 3 58 (.tmp 57) false 1 (r.next.map encI) ((m.from_).toNat) 0 false 1 (encI e1) (.int .i64 e1) (mapGet he1) ?_
         refine At.a 1 ?_
         refine At.sI 59 (e1 - 1) (by omega) ?_
         refine At.a 3 ?_
         refine At.sI 62 (m.at_ + 1) (by omega) ?_
         refine At.mm (d := 63) (b := .min) (x := .tmp 59) (y := .tmp 62) (ats := #[3, 3]) (q := .i64) (m := e1 - 1) (n := m.at_ + 1) (if (m.at_ + 1) < (e1 - 1) then m.at_ + 1 else e1 - 1) (by kernel_rfl) (by kernel_rfl) (by kernel_rfl) (by kernel_rfl) (.inl ⟨rfl, rfl⟩) ?_
         refine At.say 63 (.int .i64 (if (m.at_ + 1) < (e1 - 1) then m.at_ + 1 else e1 - 1)) (.int .i64 (min (e1 - 1) (m.at_ + 1))) (by kernel_rfl) (congrArg (V.int .i64) (by omega)) ?_
         refine At.mm (d := 64) (b := .max) (x := .const (.int .i64 1)) (y := .tmp 63) (ats := #[3, 3]) (q := .i64) (m := 1) (n := min (e1 - 1) (m.at_ + 1)) (if (min (e1 - 1) (m.at_ + 1)) > 1 then min (e1 - 1) (m.at_ + 1) else 1) (by kernel_rfl) (by kernel_rfl) (by kernel_rfl) (by kernel_rfl) (.inr ⟨rfl, rfl⟩) ?_
         refine At.say 64 (.int .i64 (if (min (e1 - 1) (m.at_ + 1)) > 1 then min (e1 - 1) (m.at_ + 1) else 1)) (.int .i64 (max 1 (min (e1 - 1) (m.at_ + 1)))) (by kernel_rfl) (congrArg (V.int .i64) (by omega)) ?_
         refine At.iRf 27 65 (.tmp 52) (.tmp 53) 1203 (r.next.map encI) .i64 m.from_ 3 1 (by omega) (by simp only [List.length_map]; omega) ?_
         refine At.sEl 3 1203 3 1 ((m.from_).toNat) 0 (.tmp 65) (.tmp 64) (r.next.map encI) ((r.next.set ((m.from_).toNat) (max 1 (min (e1 - 1) (m.at_ + 1)))).map encI) [.int .i64 (max 1 (min (e1 - 1) (m.at_ + 1)))] (.int .i64 (max 1 (min (e1 - 1) (m.at_ + 1)))) (encI e1) (encI (max 1 (min (e1 - 1) (m.at_ + 1)))) (mapGet he1) setV ?_
         refine At.done rfl ⟨by kernel_rfl, ?_⟩
         refine AW.g ?_
         refine At.a 2 ?_
         refine At.c (impl_stepper_send_spec  (⟨⟨r.id, r.of_, r.role, r.commit, ⟨r.hard.term, r.hard.vote, r.hard.log⟩, r.yes, r.next.set ((m.from_).toNat) (max 1 (min (e1 - 1) (m.at_ + 1))), r.match_⟩, r, [], []⟩ : Stepper) m.from_ (by unfold SmallR; simp only [List.length_set]; omega) (by dsimp only; simp only [List.length_set]; omega) (nextOk_set hnx.2.1 rfl rfl (by omega)) (by simp)) Tryz.call106 true [(1200, 0), (1201, 1), (1202, 2), (1203, 3), (1204, 4), (1205, 5), (1206, 6)] [(2360, 7)] [] trivial ?_
         refine At.done rfl ?_
         refine AW.r ?_
         refine At.a 1 ?_
         refine At.c (impl_stepper_end_spec  (⟨⟨r.id, r.of_, r.role, r.commit, ⟨r.hard.term, r.hard.vote, r.hard.log⟩, r.yes, r.next.set ((m.from_).toNat) (max 1 (min (e1 - 1) (m.at_ + 1))), r.match_⟩, r, [], ([]) ++ [sendOf (⟨r.id, r.of_, r.role, r.commit, ⟨r.hard.term, r.hard.vote, r.hard.log⟩, r.yes, r.next.set ((m.from_).toNat) (max 1 (min (e1 - 1) (m.at_ + 1))), r.match_⟩) m.from_]⟩ : Stepper) (by simp)) Tryz.call90 true [(1200, 0), (1201, 1), (1202, 2), (1203, 3), (1204, 4), (1205, 5), (2360, 6)] [(3220, 7)] [] trivial ?_
         refine At.z 6 ?_
         exact AW.ret (rf (k3 (K_impl_OnGot _ r m) (show ((⟨r.id, r.of_, r.role, r.commit, r.hard, r.yes, r.next.set ((m.from_).toNat) (max 1 (min (e1 - 1) (m.at_ + 1))), r.match_⟩ : Raft)) = ((gots r m).1) from by rw [gots_no h1 (by omega) (by omega) (by omega) (by assumption) (by assumption)]; first | done | rfl | (rw [endRecs_ne (by dsimp only; omega)]; rfl) | (rw [endRecs_eq rfl rfl]; done) | (rw [endRecs_eq rfl rfl]; rfl)) (show (endRecs (⟨⟨r.id, r.of_, r.role, r.commit, ⟨r.hard.term, r.hard.vote, r.hard.log⟩, r.yes, r.next.set ((m.from_).toNat) (max 1 (min (e1 - 1) (m.at_ + 1))), r.match_⟩, r, [], ([]) ++ [sendOf (⟨r.id, r.of_, r.role, r.commit, ⟨r.hard.term, r.hard.vote, r.hard.log⟩, r.yes, r.next.set ((m.from_).toNat) (max 1 (min (e1 - 1) (m.at_ + 1))), r.match_⟩) m.from_]⟩ : Stepper)) = ((gots r m).2.1) from by rw [gots_no h1 (by omega) (by omega) (by omega) (by assumption) (by assumption)]; first | done | rfl | (rw [endRecs_ne (by dsimp only; omega)]; rfl) | (rw [endRecs_eq rfl rfl]; done) | (rw [endRecs_eq rfl rfl]; rfl)) (show (([]) ++ [sendOf (⟨r.id, r.of_, r.role, r.commit, ⟨r.hard.term, r.hard.vote, r.hard.log⟩, r.yes, r.next.set ((m.from_).toNat) (max 1 (min (e1 - 1) (m.at_ + 1))), r.match_⟩) m.from_]) = ((gots r m).2.2) from by rw [gots_no h1 (by omega) (by omega) (by omega) (by assumption) (by assumption)]; first | done | rfl | (rw [endRecs_ne (by dsimp only; omega)]; rfl) | (rw [endRecs_eq rfl rfl]; done) | (rw [endRecs_eq rfl rfl]; rfl)) (KF.n [(1201, 0), (1202, 1), (1203, 2), (1204, 3), (3220, 4), (2360, 5)])))
       refine AW.r ?_
       refine At.a 6 ?_
       refine At.sL 75 encEnt r.hard.log ?_
       refine At.z 2 ?_
       refine AW.cD (m.at_ ≤ (r.hard.log.length : Int)) (fun h6 => ?_) (fun h6 => ?_)
       · refine AW.seq ?_
         refine AW.gD Tryz_mix ?_
         refine At.a 9 ?_
         refine At.iSl 27 86 (.tmp 84) (.tmp 85) false 1 (r.match_.map encI) .i64 m.from_ 3 (by omega) (by simp only [List.length_map]; omega) ?_
         refine Exists.elim (gE r.match_ ((m.from_).toNat) (by omega)) fun e2 he2 => ?_
         have hxe2 := hmx _ (List.mem_of_getElem? he2)
         refine At.lVp 3 87 (.tmp 86) false 1 (r.match_.map encI) ((m.from_).toNat) 0 false 1 (encI e2) (.int .i64 e2) (mapGet he2) ?_
         refine At.a 2 ?_
         refine At.mm (d := 90) (b := .max) (x := .tmp 87) (y := .tmp 89) (ats := #[3, 3]) (q := .i64) (m := e2) (n := m.at_) (if m.at_ > e2 then m.at_ else e2) (by kernel_rfl) (by kernel_rfl) (by kernel_rfl) (by kernel_rfl) (.inr ⟨rfl, rfl⟩) ?_
         refine At.say 90 (.int .i64 (if m.at_ > e2 then m.at_ else e2)) (.int .i64 (max e2 m.at_)) (by kernel_rfl) (congrArg (V.int .i64) (by omega)) ?_
         refine At.iRf 27 91 (.tmp 81) (.tmp 82) 1204 (r.match_.map encI) .i64 m.from_ 3 1 (by omega) (by simp only [List.length_map]; omega) ?_
         refine At.sEl 3 1204 3 1 ((m.from_).toNat) 0 (.tmp 91) (.tmp 90) (r.match_.map encI) ((r.match_.set ((m.from_).toNat) (max e2 m.at_)).map encI) [.int .i64 (max e2 m.at_)] (.int .i64 (max e2 m.at_)) (encI e2) (encI (max e2 m.at_)) (mapGet he2) setV ?_
         refine At.done rfl ⟨by kernel_rfl, ?_⟩
         refine AW.seq ?_
         refine AW.gD Tryz_mix ?_
         refine At.a 12 ?_
         refine At.iRf 27 104 (.tmp 102) (.tmp 103) 1204 ((r.match_.set ((m.from_).toNat) (max e2 m.at_)).map encI) .i64 m.from_ 3 1 (by omega) (by simp only [List.length_map, List.length_append, List.length_take, List.length_drop, List.length_replicate, List.length_set, List.length_cons, List.length_nil]; omega) ?_
         refine At.lEl 3 105 (.tmp 104) 1204 3 1 ((r.match_.set ((m.from_).toNat) (max e2 m.at_)).map encI) ((m.from_).toNat) 0 false 1 (encI (max e2 m.at_)) (.int .i64 (max e2 m.at_)) (mapGet (setGet he2)) ?_
         refine At.a 1 ?_
         refine At.sI 106 ((max e2 m.at_) + 1) (by omega) ?_
         refine At.iRf 27 107 (.tmp 96) (.tmp 97) 1203 (r.next.map encI) .i64 m.from_ 3 1 (by omega) (by simp only [List.length_map]; omega) ?_
         refine Exists.elim (gE r.next ((m.from_).toNat) (by omega)) fun e3 he3 => ?_
         have hxe3 := hnx.2.1 _ (List.mem_of_getElem? he3)
         refine At.sEl 3 1203 3 1 ((m.from_).toNat) 0 (.tmp 107) (.tmp 106) (r.next.map encI) ((r.next.set ((m.from_).toNat) ((max e2 m.at_) + 1)).map encI) [.int .i64 ((max e2 m.at_) + 1)] (.int .i64 ((max e2 m.at_) + 1)) (encI e3) (encI ((max e2 m.at_) + 1)) (mapGet he3) setV ?_
         refine At.done rfl ⟨by kernel_rfl, ?_⟩
         refine AW.g ?_
         refine At.a 1 ?_
         refine At.c (impl_stepper_commit_spec  (⟨⟨r.id, r.of_, r.role, r.commit, ⟨r.hard.term, r.hard.vote, r.hard.log⟩, r.yes, r.next.set ((m.from_).toNat) ((max e2 m.at_) + 1), r.match_.set ((m.from_).toNat) (max e2 m.at_)⟩, r, [], []⟩ : Stepper) (by unfold SmallR; simp only [List.length_set]; omega) (by dsimp only; omega) (by dsimp only; omega) (by dsimp only; simp only [List.length_set]; omega)) Tryz.call107 true [(1200, 0), (1201, 1), (1202, 2), (1203, 3), (1204, 4), (1205, 5), (1206, 6)] [] [] trivial ?_
         refine At.done rfl ?_
         refine AW.r ?_
         refine At.a 1 ?_
         refine At.c (impl_stepper_end_spec  (⟨⟨r.id, r.of_, r.role, commitOf (⟨r.id, r.of_, r.role, r.commit, ⟨r.hard.term, r.hard.vote, r.hard.log⟩, r.yes, r.next.set ((m.from_).toNat) ((max e2 m.at_) + 1), r.match_.set ((m.from_).toNat) (max e2 m.at_)⟩), ⟨r.hard.term, r.hard.vote, r.hard.log⟩, r.yes, r.next.set ((m.from_).toNat) ((max e2 m.at_) + 1), r.match_.set ((m.from_).toNat) (max e2 m.at_)⟩, r, [], []⟩ : Stepper) (by simp)) Tryz.call90 true [(1200, 0), (1201, 1), (1202, 2), (1203, 3), (1204, 4), (1205, 5), (1206, 6)] [(3220, 7)] [] trivial ?_
         refine At.z 6 ?_
         exact AW.ret (rf (k3 (K_impl_OnGot _ r m) (show ((⟨r.id, r.of_, r.role, commitOf (⟨r.id, r.of_, r.role, r.commit, ⟨r.hard.term, r.hard.vote, r.hard.log⟩, r.yes, r.next.set ((m.from_).toNat) ((max e2 m.at_) + 1), r.match_.set ((m.from_).toNat) (max e2 m.at_)⟩), r.hard, r.yes, r.next.set ((m.from_).toNat) ((max e2 m.at_) + 1), r.match_.set ((m.from_).toNat) (max e2 m.at_)⟩ : Raft)) = ((gots r m).1) from by rw [gots_yes h1 (by omega) (by omega) (by omega) (by assumption) (by omega) (by assumption)]; first | done | rfl | (rw [endRecs_ne (by dsimp only; omega)]; rfl) | (rw [endRecs_eq rfl rfl]; done) | (rw [endRecs_eq rfl rfl]; rfl)) (show (endRecs (⟨⟨r.id, r.of_, r.role, commitOf (⟨r.id, r.of_, r.role, r.commit, ⟨r.hard.term, r.hard.vote, r.hard.log⟩, r.yes, r.next.set ((m.from_).toNat) ((max e2 m.at_) + 1), r.match_.set ((m.from_).toNat) (max e2 m.at_)⟩), ⟨r.hard.term, r.hard.vote, r.hard.log⟩, r.yes, r.next.set ((m.from_).toNat) ((max e2 m.at_) + 1), r.match_.set ((m.from_).toNat) (max e2 m.at_)⟩, r, [], []⟩ : Stepper)) = ((gots r m).2.1) from by rw [gots_yes h1 (by omega) (by omega) (by omega) (by assumption) (by omega) (by assumption)]; first | done | rfl | (rw [endRecs_ne (by dsimp only; omega)]; rfl) | (rw [endRecs_eq rfl rfl]; done) | (rw [endRecs_eq rfl rfl]; rfl)) (show ([]) = ((gots r m).2.2) from by rw [gots_yes h1 (by omega) (by omega) (by omega) (by assumption) (by omega) (by assumption)]; first | done | rfl | (rw [endRecs_ne (by dsimp only; omega)]; rfl) | (rw [endRecs_eq rfl rfl]; done) | (rw [endRecs_eq rfl rfl]; rfl)) (KF.n [(1201, 0), (1202, 1), (1203, 2), (1204, 3), (3220, 4), (1206, 5)])))
       refine AW.skip ?_
       refine AW.r ?_
       refine At.a 1 ?_
       refine At.c (impl_stepper_end_spec  (⟨r, r, [], []⟩ : Stepper) (by simp)) Tryz.call90 true [(1200, 0), (1201, 1), (1202, 2), (1203, 3), (1204, 4), (1205, 5), (1206, 6)] [(3220, 7)] [] trivial ?_
       refine At.z 6 ?_
       exact AW.ret (rf (k3 (K_impl_OnGot _ r m) (show (r) = ((gots r m).1) from by rw [gots_far h1 (by omega) (by omega) (by omega) (by assumption) (by omega)]; first | done | rfl | (rw [endRecs_ne (by dsimp only; omega)]; rfl) | (rw [endRecs_eq rfl rfl]; done) | (rw [endRecs_eq rfl rfl]; rfl)) (show (endRecs (⟨r, r, [], []⟩ : Stepper)) = ((gots r m).2.1) from by rw [gots_far h1 (by omega) (by omega) (by omega) (by assumption) (by omega)]; first | done | rfl | (rw [endRecs_ne (by dsimp only; omega)]; rfl) | (rw [endRecs_eq rfl rfl]; done) | (rw [endRecs_eq rfl rfl]; rfl)) (show ([]) = ((gots r m).2.2) from by rw [gots_far h1 (by omega) (by omega) (by omega) (by assumption) (by omega)]; first | done | rfl | (rw [endRecs_ne (by dsimp only; omega)]; rfl) | (rw [endRecs_eq rfl rfl]; done) | (rw [endRecs_eq rfl rfl]; rfl)) (KF.n [(1201, 0), (1202, 1), (1203, 2), (1204, 3), (3220, 4), (1206, 5)])))
     refine At.sB 29 _ _ (sayUT h3) ?_
     refine At.z 7 ?_
     refine AW.cond true (by kernel_rfl) (fun _ => ?_) (fun h => by cases h)
     refine AW.r ?_
     refine At.a 1 ?_
     refine At.c (impl_stepper_end_spec  (⟨r, r, [], []⟩ : Stepper) (by simp)) Tryz.call90 true [(1200, 0), (1201, 1), (1202, 2), (1203, 3), (1204, 4), (1205, 5), (1206, 6)] [(1760, 7)] [] trivial ?_
     refine At.z 6 ?_
     exact AW.ret (rf (k3 (K_impl_OnGot _ r m) (show (r) = ((gots r m).1) from by rw [gots_not h1 (by omega) (by omega)]; first | done | rfl | (rw [endRecs_ne (by dsimp only; omega)]; rfl) | (rw [endRecs_eq rfl rfl]; done) | (rw [endRecs_eq rfl rfl]; rfl)) (show (endRecs (⟨r, r, [], []⟩ : Stepper)) = ((gots r m).2.1) from by rw [gots_not h1 (by omega) (by omega)]; first | done | rfl | (rw [endRecs_ne (by dsimp only; omega)]; rfl) | (rw [endRecs_eq rfl rfl]; done) | (rw [endRecs_eq rfl rfl]; rfl)) (show ([]) = ((gots r m).2.2) from by rw [gots_not h1 (by omega) (by omega)]; first | done | rfl | (rw [endRecs_ne (by dsimp only; omega)]; rfl) | (rw [endRecs_eq rfl rfl]; done) | (rw [endRecs_eq rfl rfl]; rfl)) (KF.n [(1201, 0), (1202, 1), (1203, 2), (1204, 3), (1760, 4), (1206, 5)])))
   refine At.c (impl_stepper_followTerm_F_spec  (⟨r, r, [], []⟩ : Stepper) m.term h2) Tryz.call91 true [(1200, 0), (1201, 1), (1202, 2), (1203, 3), (1204, 4), (1205, 5), (1206, 6)] [(1460, 7), (1461, 8), (1462, 9)] [] trivial ?_
   refine At.z 13 ?_
   refine AW.cond true (by kernel_rfl) (fun _ => ?_) (fun h => by cases h)
   refine AW.r ?_
   refine At.a 1 ?_
   refine At.c (impl_stepper_end_spec  (⟨⟨r.id, r.of_, 1, r.commit, ⟨m.term, 0, r.hard.log⟩, [], [], []⟩, r, [], []⟩ : Stepper) (by simp)) Tryz.call90 true [(1200, 0), (1201, 1), (1460, 2), (1461, 3), (1462, 4), (1205, 5), (1206, 6)] [(1760, 7)] [] trivial ?_
   refine At.z 6 ?_
   exact AW.ret (rf (k3 (K_impl_OnGot _ r m) (show ((⟨r.id, r.of_, 1, r.commit, ⟨m.term, 0, r.hard.log⟩, [], [], []⟩ : Raft)) = ((gots r m).1) from by rw [gots_term h1 (by omega)]; first | done | rfl | (rw [endRecs_ne (by dsimp only; omega)]; rfl) | (rw [endRecs_eq rfl rfl]; done) | (rw [endRecs_eq rfl rfl]; rfl)) (show (endRecs (⟨⟨r.id, r.of_, 1, r.commit, ⟨m.term, 0, r.hard.log⟩, [], [], []⟩, r, [], []⟩ : Stepper)) = ((gots r m).2.1) from by rw [gots_term h1 (by omega)]; first | done | rfl | (rw [endRecs_ne (by dsimp only; omega)]; rfl) | (rw [endRecs_eq rfl rfl]; done) | (rw [endRecs_eq rfl rfl]; rfl)) (show ([]) = ((gots r m).2.2) from by rw [gots_term h1 (by omega)]; first | done | rfl | (rw [endRecs_ne (by dsimp only; omega)]; rfl) | (rw [endRecs_eq rfl rfl]; done) | (rw [endRecs_eq rfl rfl]; rfl)) (KF.n [(1201, 0), (1460, 1), (1461, 2), (1462, 3), (1760, 4), (1206, 5)])))
 refine AW.q 5 ?_
 refine AW.seq ?_
 refine AW.weak (Sub.nils [⟨true, 104, some 6, 5001, 45, 6⟩, ⟨true, 104, some 7, 5002, 3, 1⟩, ⟨true, 104, some 8, 5003, 3, 1⟩, ⟨true, 104, some 9, 5004, 3, 1⟩] (by kernel_rfl)) ?_
 refine AW.g ?_
 refine At.a 1 ?_
 refine At.c (impl_stepOf_spec  r (by exact hz)) Tryz.call80 true [] [(1200, 0), (1201, 1), (1202, 2), (1203, 3), (1204, 4), (1205, 5), (1206, 6)] [] trivial ?_
 refine At.z 1 ?_
 refine AW.seq ?_
 refine AW.r ?_
 refine At.a 2 ?_
 refine At.c (impl_stepper_mayHear_spec  (⟨r, r, [], []⟩ : Stepper) m 4 (by exact hz) hm) Tryz.call85 true [(1200, 0), (1201, 1), (1202, 2), (1203, 3), (1204, 4), (1205, 5), (1206, 6)] [] [] trivial ?_
 refine At.z 1 ?_
 refine AW.condT (!(hears r m 4)) (by kernel_rfl) (by rw [show (hears r m 4) = false from (hears_no hok)]; rfl) ?_
 refine AW.r ?_
 refine At.a 1 ?_
 refine At.c (impl_stepper_none_F_spec  (⟨r, r, [], []⟩ : Stepper) (by exact hz) hok) Tryz.call88 true [(1200, 0), (1201, 1), (1202, 2), (1203, 3), (1204, 4), (1205, 5), (1206, 6)] [(1320, 7), (1321, 8), (1322, 9), (1323, 10), (1324, 11), (1325, 12)] [] trivial ?_
 refine At.z 6 ?_
 exact AW.ret (rf (k3 (K_impl_OnGot _ r m) (show ((⟨0, 0, 0, 0, ⟨0, 0, []⟩, [], [], []⟩ : Raft)) = ((gots r m).1) from by simp [gots, same, hok, hears_no hok]; try rfl) (show ([]) = ((gots r m).2.1) from by simp [gots, same, hok, hears_no hok]; try rfl) (show ([]) = ((gots r m).2.2) from by simp [gots, same, hok, hears_no hok]; try rfl) (KF.n [(1320, 0), (1321, 1), (1322, 2), (1323, 3), (1324, 4), (1325, 5)])))
def K_laws_FnGot (rs : List ResultVar) (code : List UInt8) (w0_ : Bool) : Exit → Sg → Prop := KF Tryz.prog 0 rs (.bool w0_) []
theorem laws_FnGot_spec  (code : List UInt8) (hc : code.length ≤ 9223372036854775807) : FnSpec Tryz.prog 6 [.sl false 1 (code.map encU8)] [] (.bool true) [] := by
 refine FnSpec.of 127 Tryz.func6 rfl Tryz.ntmps6 (by simp) (AW.weakK ?_)
 refine AW.q 1 ?_
 refine AW.seq ?_
 refine AW.r ?_
 refine At.a 1 ?_
 refine At.c (laws_big_spec  code hc) Tryz.call11 true [] [] [] trivial ?_
 refine At.done rfl ?_
 refine AW.cD ((code.length : Int) > 1048576) (fun h1 => ?_) (fun h1 => ?_)
 · refine AW.q 1 ?_
   exact AW.ret (rf (KF.n []))
 refine AW.skip ?_
 refine AW.r ?_
 refine At.a 1 ?_
 refine Exists.elim (spec_DrawOnGot_spec  code (by omega)) fun r1_ hr1_ => ?_
 have qr1_ := hr1_.1
 try dsimp only at qr1_
 refine At.c (hr1_.2) Tryz.call16 true [] [(1340, 0), (1341, 1), (1342, 2), (1343, 3)] [] trivial ?_
 refine At.z 7 ?_
 refine AW.r ?_
 refine At.a 2 ?_
 refine At.c (FnSpec.cv (As := [.agg [.int .i64 r1_.1.id, .int .i64 r1_.1.of_, .int .i64 r1_.1.role, .int .i64 r1_.1.commit, .int .i64 r1_.1.hard.term, .int .i64 r1_.1.hard.vote, .sl false 6 (r1_.1.hard.log.map encEnt), .sl false 1 (r1_.1.yes.map encI), .sl false 1 (r1_.1.next.map encI), .sl false 1 (r1_.1.match_.map encI)], .agg [.int .i64 r1_.2.kind, .int .i64 r1_.2.from_, .int .i64 r1_.2.term, .int .i64 r1_.2.at_, .int .i64 r1_.2.atTerm, .int .i64 r1_.2.commit, .bool r1_.2.yes, .int .i64 r1_.2.release, .int .i64 r1_.2.part, .str r1_.2.bytes, .int .i64 r1_.2.cmd.kind, .int .i64 r1_.2.cmd.release, .int .i64 r1_.2.cmd.node, .int .i64 r1_.2.cmd.size, .str r1_.2.cmd.digest, .sl true 6 (r1_.2.entries.map encEnt)]]) [0, 7] (impl_OnGot_spec  r1_.1 r1_.2 (by exact qr1_.1) (by have := qr1_.2; omega))) Tryz.call34 false [] [(1460, 0), (1461, 1), (1462, 2), (1463, 3), (1464, 4), (1465, 5)] [(1340, 6, (r1_.1.hard.log.map encEnt)), (1341, 1, (r1_.1.yes.map encI)), (1342, 1, (r1_.1.next.map encI)), (1343, 1, (r1_.1.match_.map encI))] ⟨rfl, ⟨45, (r1_.1.hard.log.map encEnt), by kernel_rfl, FrzIs.same (allP_encEnt _)⟩, rfl, ⟨3, (r1_.1.yes.map encI), by kernel_rfl, FrzIs.same (allP_encI _)⟩, rfl, ⟨3, (r1_.1.next.map encI), by kernel_rfl, FrzIs.same (allP_encI _)⟩, rfl, ⟨3, (r1_.1.match_.map encI), by kernel_rfl, FrzIs.same (allP_encI _)⟩, trivial⟩ ?_
 refine At.z 8 ?_
 refine AW.r ?_
 refine At.a 2 ?_
 refine At.c (FnSpec.cv (As := [.agg [.int .i64 r1_.1.id, .int .i64 r1_.1.of_, .int .i64 r1_.1.role, .int .i64 r1_.1.commit, .int .i64 r1_.1.hard.term, .int .i64 r1_.1.hard.vote, .sl false 6 (r1_.1.hard.log.map encEnt), .sl false 1 (r1_.1.yes.map encI), .sl false 1 (r1_.1.next.map encI), .sl false 1 (r1_.1.match_.map encI)], .agg [.int .i64 r1_.2.kind, .int .i64 r1_.2.from_, .int .i64 r1_.2.term, .int .i64 r1_.2.at_, .int .i64 r1_.2.atTerm, .int .i64 r1_.2.commit, .bool r1_.2.yes, .int .i64 r1_.2.release, .int .i64 r1_.2.part, .str r1_.2.bytes, .int .i64 r1_.2.cmd.kind, .int .i64 r1_.2.cmd.release, .int .i64 r1_.2.cmd.node, .int .i64 r1_.2.cmd.size, .str r1_.2.cmd.digest, .sl true 6 (r1_.2.entries.map encEnt)]]) [0, 7] (spec_OnGot_spec  r1_.1 r1_.2 (by exact qr1_.1) (by have := qr1_.2; omega))) Tryz.call35 false [] [(1600, 0), (1601, 1), (1602, 2), (1603, 3), (1604, 4), (1605, 5)] [(1340, 6, (r1_.1.hard.log.map encEnt)), (1341, 1, (r1_.1.yes.map encI)), (1342, 1, (r1_.1.next.map encI)), (1343, 1, (r1_.1.match_.map encI))] ⟨rfl, ⟨45, (r1_.1.hard.log.map encEnt), by kernel_rfl, FrzIs.same (allP_encEnt _)⟩, rfl, ⟨3, (r1_.1.yes.map encI), by kernel_rfl, FrzIs.same (allP_encI _)⟩, rfl, ⟨3, (r1_.1.next.map encI), by kernel_rfl, FrzIs.same (allP_encI _)⟩, rfl, ⟨3, (r1_.1.match_.map encI), by kernel_rfl, FrzIs.same (allP_encI _)⟩, trivial⟩ ?_
 refine At.z 8 ?_
 refine AW.seq ?_
 refine AW.r ?_
 refine At.a 6 ?_
 refine At.sB 39 ((((gots r1_.1 r1_.2).1).commit) != (((gots r1_.1 r1_.2).1).commit)) false (sayB (bne_self_eq_false _)) ?_
 refine At.a 7 ?_
 refine At.sB 46 ((((gots r1_.1 r1_.2).1).role) != (((gots r1_.1 r1_.2).1).role)) false (sayB (bne_self_eq_false _)) ?_
 refine At.a 3 ?_
 refine At.sL 49 encI (((gots r1_.1 r1_.2).1).match_) ?_
 refine At.a 3 ?_
 refine At.sL 52 encI (((gots r1_.1 r1_.2).1).match_) ?_
 refine At.z 2 ?_
 refine AW.condF (((((gots r1_.1 r1_.2).1).match_).length : Int) != ((((gots r1_.1 r1_.2).1).match_).length : Int)) (by kernel_rfl) (bne_self_eq_false _) ?_
 refine AW.skip ?_
 refine AW.seq ?_
 refine AW.r ?_
 refine At.a 1 ?_
 refine At.c (spec_RaftOk_spec  r1_.1 (by exact qr1_.1)) Tryz.call18 false [] [] [(1340, 6, (r1_.1.hard.log.map encEnt)), (1341, 1, (r1_.1.yes.map encI)), (1342, 1, (r1_.1.next.map encI)), (1343, 1, (r1_.1.match_.map encI))] ⟨rfl, ⟨45, (r1_.1.hard.log.map encEnt), by kernel_rfl, FrzIs.same (allP_encEnt _)⟩, rfl, ⟨3, (r1_.1.yes.map encI), by kernel_rfl, FrzIs.same (allP_encI _)⟩, rfl, ⟨3, (r1_.1.next.map encI), by kernel_rfl, FrzIs.same (allP_encI _)⟩, rfl, ⟨3, (r1_.1.match_.map encI), by kernel_rfl, FrzIs.same (allP_encI _)⟩, trivial⟩ ?_
 refine At.a 2 ?_
 by_cases h2 : (raftOk r1_.1) = true
 · refine At.sB 58 (!(raftOk r1_.1)) false (sayNF (sayB h2)) ?_
   have h2n := raftOk1_nums (raftOk_1 h2)
   refine At.a 7 ?_
   by_cases h3 : ((gots r1_.1 r1_.2).1).commit = r1_.1.commit
   · refine At.sB 65 _ _ (sayET h3) ?_
     refine At.z 4 ?_
     refine AW.cond true (by kernel_rfl) (fun _ => ?_) (fun h => by cases h)
     refine AW.r ?_
     refine At.a 2 ?_
     refine At.sL 71 encRec ((gots r1_.1 r1_.2).2.1) ?_
     refine At.a 2 ?_
     by_cases h4 : (((gots r1_.1 r1_.2).2.1).length : Int) ≤ 1
     · refine At.sB 73 _ _ (sayT h4) ?_
       refine At.a 6 ?_
       refine At.sB 79 _ _ (sayET h3) ?_
       refine At.z 6 ?_
       exact AW.ret (rf (KF.n []))
     refine At.sB 73 _ _ (sayF h4) ?_
     refine At.z 12 ?_
     exact AW.ret (rf (k1 (K_laws_FnGot _ code) (show (false) = (true) from by exfalso; have q := got_recs (r := r1_.1) (m := r1_.2); omega) (KF.n [])))
   refine At.sB 65 _ _ (sayEF h3) ?_
   refine At.z 4 ?_
   refine AW.cU (((gots r1_.1 r1_.2).1).role) (3 : Int) (fun h6 => ?_) (fun h6 => ?_)
   · refine AW.r ?_
     refine At.a 2 ?_
     refine At.sL 71 encRec ((gots r1_.1 r1_.2).2.1) ?_
     refine At.a 2 ?_
     by_cases h7 : (((gots r1_.1 r1_.2).2.1).length : Int) ≤ 1
     · refine At.sB 73 _ _ (sayT h7) ?_
       refine At.a 6 ?_
       refine At.sB 79 _ _ (sayEF h3) ?_
       refine At.a 1 ?_
       refine At.c (spec_RaftOk_spec  r1_.1 (by exact qr1_.1)) Tryz.call18 false [] [] [(1340, 6, (r1_.1.hard.log.map encEnt)), (1341, 1, (r1_.1.yes.map encI)), (1342, 1, (r1_.1.next.map encI)), (1343, 1, (r1_.1.match_.map encI))] ⟨rfl, ⟨45, (r1_.1.hard.log.map encEnt), by kernel_rfl, FrzIs.same (allP_encEnt _)⟩, rfl, ⟨3, (r1_.1.yes.map encI), by kernel_rfl, FrzIs.same (allP_encI _)⟩, rfl, ⟨3, (r1_.1.next.map encI), by kernel_rfl, FrzIs.same (allP_encI _)⟩, rfl, ⟨3, (r1_.1.match_.map encI), by kernel_rfl, FrzIs.same (allP_encI _)⟩, trivial⟩ ?_
       refine At.z 4 ?_
       exact AW.ret (rf (k1 (K_laws_FnGot _ code) (show (!(raftOk r1_.1)) = (true) from by have q := got_same (r := r1_.1) (m := r1_.2) (by assumption) (by assumption); exfalso; omega) (KF.n [])))
     refine At.sB 73 _ _ (sayF h7) ?_
     refine At.z 12 ?_
     exact AW.ret (rf (k1 (K_laws_FnGot _ code) (show (false) = (true) from by exfalso; have q := got_recs (r := r1_.1) (m := r1_.2); omega) (KF.n [])))
   have hgm := got_most (r := r1_.1) (m := r1_.2) (by assumption) (by assumption) h6
   have hgn := raftOk1_nums (raftOk_1 (gots_ok (r := r1_.1) (m := r1_.2) (by assumption)))
   have hgr := congrArg List.length hgm.2.1
   have hgl := raftOk_lens (gots_ok (m := r1_.2) (by assumption))
   refine AW.skip ?_
   refine AW.q 1 ?_
   refine AW.seq ?_
   refine AW.q 1 ?_
   refine AW.block ?_
   refine AW.loopW (fun (x : Nat × Int) => match x with | (i, c) => Go.Sy.mk [.un, .un, .un, .ptr 103 0 0, .un, .ptr 105 0 0, .ref 1464, .un, .un, .un, .un, .int .i64 c, .int .i64 (i : Int)] [(103, .box 29 [.int .i64 r1_.1.id, .int .i64 r1_.1.of_, .int .i64 r1_.1.role, .int .i64 r1_.1.commit, .int .i64 r1_.1.hard.term, .int .i64 r1_.1.hard.vote, .ref 1340, .ref 1341, .ref 1342, .ref 1343]), (105, .box 29 [.int .i64 (((gots r1_.1 r1_.2).1).id), .int .i64 (((gots r1_.1 r1_.2).1).of_), .int .i64 (((gots r1_.1 r1_.2).1).role), .int .i64 (((gots r1_.1 r1_.2).1).commit), .int .i64 (((gots r1_.1 r1_.2).1).hard.term), .int .i64 (((gots r1_.1 r1_.2).1).hard.vote), .ref 1460, .ref 1461, .ref 1462, .ref 1463]), (1340, .arr 45 6 (r1_.1.hard.log.map encEnt)), (1341, .arr 3 1 (r1_.1.yes.map encI)), (1342, .arr 3 1 (r1_.1.next.map encI)), (1343, .arr 3 1 (r1_.1.match_.map encI)), (1460, .arr 45 6 ((((gots r1_.1 r1_.2).1).hard.log).map encEnt)), (1461, .arr 3 1 ((((gots r1_.1 r1_.2).1).yes).map encI)), (1462, .arr 3 1 ((((gots r1_.1 r1_.2).1).next).map encI)), (1463, .arr 3 1 ((((gots r1_.1 r1_.2).1).match_).map encI)), (1464, .arr 47 10 (((gots r1_.1 r1_.2).2.1).map encRec))]) (fun (x : Nat × Int) => match x with | (i, c) => (i : Int) ≤ (gots r1_.1 r1_.2).1.match_.length ∧ (0 ≤ c ∧ c ≤ i) ∧ c = cntGe ((gots r1_.1 r1_.2).1.match_.take i) (gots r1_.1 r1_.2).1.commit) (fun (x : Nat × Int) => match x with | (i, c) => ((gots r1_.1 r1_.2).1.match_.length : Int).toNat - i) (0, 0) ⟨by omega, by omega, by simp [cntGe]⟩ (Sub.o [(103, 103), (105, 105), (1340, 1340), (1341, 1341), (1342, 1342), (1343, 1343), (1460, 1460), (1461, 1461), (1462, 1462), (1463, 1463), (1464, 1464)] [false, false, false, true, false, true, true, false, false, false, false, true, true]) ?_
   rintro ⟨i, c⟩ ⟨hi, hc1, hc2⟩
   refine AW.seq ?_
   refine AW.r ?_
   refine At.a 4 ?_
   refine At.sL 88 encI (((gots r1_.1 r1_.2).1).match_) ?_
   refine At.z 1 ?_
   refine AW.cD ((i : Int) < ((((gots r1_.1 r1_.2).1).match_).length : Int)) (fun h9 => ?_) (fun h9 => ?_)
   · refine AW.skip ?_
     refine AW.seq ?_
     refine AW.block ?_
     refine AW.seq ?_
     refine AW.gD Tryz_mix ?_
     refine At.a 3 ?_
     refine At.iRf 27 95 (.tmp 93) (.tmp 94) 1463 ((((gots r1_.1 r1_.2).1).match_).map encI) .i64 (i : Int) 3 1 (by omega) (by simp only [List.length_map]; omega) ?_
     refine Exists.elim (gE (((gots r1_.1 r1_.2).1).match_) i (by omega)) fun e1 he1 => ?_
     refine At.lEl 3 96 (.tmp 95) 1463 3 1 ((((gots r1_.1 r1_.2).1).match_).map encI) i 0 false 1 (encI e1) (.int .i64 e1) (mapGet he1) ?_
     refine At.zD 3 ?_
     refine AW.cD (e1 ≥ (((gots r1_.1 r1_.2).1).commit)) (fun h10 => ?_) (fun h10 => ?_)
     · refine AW.g ?_
       refine At.a 2 ?_
       refine At.sI 101 (c + 1) (by omega) ?_
       refine At.z 1 ?_
       refine AW.g ?_
       refine At.a 2 ?_
       refine At.sI 91 ((i : Int) + 1) (by omega) ?_
       refine At.z 1 ?_
       exact ⟨(i + 1, (c + 1)), ⟨by omega, by omega, by rw [cntGe_step (by assumption), ← hc2]; first | (rw [if_pos (by assumption)]; done) | (rw [if_neg (by assumption)]; omega)⟩, (by simp only; omega), Sub.o [(103, 103), (105, 105), (1340, 1340), (1341, 1341), (1342, 1342), (1343, 1343), (1460, 1460), (1461, 1461), (1462, 1462), (1463, 1463), (1464, 1464)] [false, false, false, true, false, true, true, false, false, false, false, true, true]⟩
     refine AW.skip ?_
     refine AW.g ?_
     refine At.a 2 ?_
     refine At.sI 91 ((i : Int) + 1) (by omega) ?_
     refine At.z 1 ?_
     exact ⟨(i + 1, c), ⟨by omega, by omega, by rw [cntGe_step (by assumption), ← hc2]; first | (rw [if_pos (by assumption)]; done) | (rw [if_neg (by assumption)]; omega)⟩, (by simp only; omega), Sub.o [(103, 103), (105, 105), (1340, 1340), (1341, 1341), (1342, 1342), (1343, 1343), (1460, 1460), (1461, 1461), (1462, 1462), (1463, 1463), (1464, 1464)] [false, false, false, true, false, true, true, false, false, false, false, true, true]⟩
   refine AW.exit ?_
   refine AW.seq ?_
   refine AW.gD Tryz_mix ?_
   refine At.a 2 ?_
   refine At.sI 103 (2 * c) (by omega) ?_
   refine At.a 4 ?_
   by_cases h11 : (2 * c) > r1_.1.of_
   · refine At.sB 107 _ _ (sayT h11) ?_
     refine At.a 6 ?_
     refine At.sI 113 ((((gots r1_.1 r1_.2).1).commit) - 1) (by omega) ?_
     refine At.iRf 24 114 (.tmp 110) (.tmp 113) 1460 ((((gots r1_.1 r1_.2).1).hard.log).map encEnt) .i64 ((((gots r1_.1 r1_.2).1).commit) - 1) 45 6 (by omega) (by simp only [List.length_map]; omega) ?_
     refine At.a 1 ?_
     refine Exists.elim (gE (((gots r1_.1 r1_.2).1).hard.log) (((((gots r1_.1 r1_.2).1).commit) - 1).toNat) (by omega)) fun e2 he2 => ?_
     refine At.lEl 3 116 (.tmp 115) 1460 45 6 ((((gots r1_.1 r1_.2).1).hard.log).map encEnt) (((((gots r1_.1 r1_.2).1).commit) - 1).toNat) 0 false 1 (encEnt e2) (.int .i64 e2.term) (mapGet he2) ?_
     refine At.a 6 ?_
     by_cases h12 : e2.term = ((gots r1_.1 r1_.2).1).hard.term
     · refine At.sB 122 _ _ (sayET h12) ?_
       refine At.a 2 ?_
       refine At.sL 124 encRec ((gots r1_.1 r1_.2).2.1) ?_
       refine At.zD 3 ?_
       exact AW.ret (rf (k1 (K_laws_FnGot _ code) (show ((((gots r1_.1 r1_.2).2.1).length : Int) == 0) = (true) from by rw [hgm.2.1]; rfl) (KF.n [])))
     refine At.sB 122 _ _ (sayEF h12) ?_
     refine At.zD 5 ?_
     exact AW.ret (rf (k1 (K_laws_FnGot _ code) (show (false) = (true) from by exfalso; have q := term_at (n := (gots r1_.1 r1_.2).1.commit) (l := (gots r1_.1 r1_.2).1.hard.log) (by assumption) (by omega); omega) (KF.n [])))
   refine At.sB 107 _ _ (sayF h11) ?_
   refine At.zD 20 ?_
   exact AW.ret (rf (k1 (K_laws_FnGot _ code) (show (false) = (true) from by exfalso; have hcc := hc2.trans (cntGe_all (by omega)); omega) (KF.n [])))
 refine At.sB 58 (!(raftOk r1_.1)) true (sayNT (sayB (Bool.eq_false_iff.2 h2))) ?_
 replace h2 := Bool.eq_false_iff.2 h2
 refine At.z 11 ?_
 refine AW.cond true (by kernel_rfl) (fun _ => ?_) (fun h => by cases h)
 refine AW.r ?_
 refine At.a 2 ?_
 refine At.sL 71 encRec ((gots r1_.1 r1_.2).2.1) ?_
 refine At.a 2 ?_
 by_cases h13 : (((gots r1_.1 r1_.2).2.1).length : Int) ≤ 1
 · refine At.sB 73 _ _ (sayT h13) ?_
   refine At.a 6 ?_
   by_cases h14 : ((gots r1_.1 r1_.2).1).commit = r1_.1.commit
   · refine At.sB 79 _ _ (sayET h14) ?_
     refine At.z 6 ?_
     exact AW.ret (rf (KF.n []))
   refine At.sB 79 _ _ (sayEF h14) ?_
   refine At.a 1 ?_
   refine At.c (spec_RaftOk_spec  r1_.1 (by exact qr1_.1)) Tryz.call18 false [] [] [(1340, 6, (r1_.1.hard.log.map encEnt)), (1341, 1, (r1_.1.yes.map encI)), (1342, 1, (r1_.1.next.map encI)), (1343, 1, (r1_.1.match_.map encI))] ⟨rfl, ⟨45, (r1_.1.hard.log.map encEnt), by kernel_rfl, FrzIs.same (allP_encEnt _)⟩, rfl, ⟨3, (r1_.1.yes.map encI), by kernel_rfl, FrzIs.same (allP_encI _)⟩, rfl, ⟨3, (r1_.1.next.map encI), by kernel_rfl, FrzIs.same (allP_encI _)⟩, rfl, ⟨3, (r1_.1.match_.map encI), by kernel_rfl, FrzIs.same (allP_encI _)⟩, trivial⟩ ?_
   refine At.z 4 ?_
   exact AW.ret (rf (k1 (K_laws_FnGot _ code) (show (!(raftOk r1_.1)) = (true) from by rw [Bool.not_eq_true']; assumption) (KF.n [])))
 refine At.sB 73 _ _ (sayF h13) ?_
 refine At.z 12 ?_
 exact AW.ret (rf (k1 (K_laws_FnGot _ code) (show (false) = (true) from by exfalso; have q := got_recs (r := r1_.1) (m := r1_.2); omega) (KF.n [])))
end Go.Proofs.YtlmadhahghiedaaGreat
