/- The contracts of the functions that FnSent reaches (each: what it answers, said over values), printed by a program of this session (wip/sy/g/gen.py). -/
import Derived.Test.YtlmadhahghiedaaGreatFFnSent5
set_option linter.unusedVariables false
set_option linter.unusedSimpArgs false
set_option maxRecDepth 100000
set_option maxHeartbeats 4000000
namespace Go.Proofs.YtlmadhahghiedaaGreat
open Go Go.Sy Go.Proofs
theorem impl_numbersIn_spec  (list : List Int) (count : Int) (low : Int) (high : Int) (hl : list.length ≤ 1048576) : FnSpec Tryz.prog 73 [.sl false 1 (list.map encI), .int .i64 count, .int .i64 low, .int .i64 high] [] (.bool (allIn low high list && ((list.length : Int) == count))) [] := by
 refine FnSpec.of 27 Tryz.func73 rfl Tryz.ntmps73 (by simp) (AW.weakK ?_)
 refine AW.q 1 ?_
 refine AW.seq ?_
 refine AW.r ?_
 refine At.a 2 ?_
 refine At.sL 12 encI list ?_
 refine At.z 1 ?_
 refine AW.block ?_
 refine AW.loopW (fun (k : Nat) => Go.Sy.mk [.sl false 1 (list.map encI), .int .i64 count, .int .i64 low, .int .i64 high, .un, .un, .un, .un, .un, .un, .un, .sl false 1 (list.map encI), .int .i64 (list.length : Int), .int .i64 (k : Int)] []) (fun (k : Nat) => k ≤ list.length ∧ allIn low high list = allIn low high (list.drop k)) (fun (k : Nat) => list.length - k) 0 ⟨by omega, by rw [List.drop_zero]⟩ (Sub.o [] [true, true, true, true, false, false, false, false, false, false, false, true, true, true]) ?_
 rintro k ⟨hk, hR⟩
 refine AW.q 1 ?_
 refine AW.seq ?_
 refine AW.cD ((k : Int) < (list.length : Int)) (fun h1 => ?_) (fun h1 => ?_)
 · refine AW.skip ?_
   refine AW.seq ?_
   refine AW.block ?_
   refine AW.r ?_
   refine At.iSl 27 15 (.tmp 11) (.tmp 13) false 1 (list.map encI) .i64 (k : Int) 3 (by omega) (by simp only [List.length_map]; omega) ?_
   refine Exists.elim (gE list k (by omega)) fun e1 he1 => ?_
   refine At.lVp 3 16 (.tmp 15) false 1 (list.map encI) k 0 false 1 (encI e1) (.int .i64 e1) (mapGet he1) ?_
   refine At.z 1 ?_
   refine AW.r ?_
   refine At.a 3 ?_
   refine At.c (impl_within_spec  e1 low high ) Tryz.call69 true [] [] [] trivial ?_
   refine At.z 1 ?_
   refine AW.cNB (inR e1 low high) (fun h2 => ?_) (fun h2 => ?_)
   · refine AW.q 1 ?_
     refine AW.ret ?_
     refine ⟨_, Sub.refl _ _, ?_⟩
     refine KF.conv (fun w => .bool w) (fun w => []) (show (false) = (allIn low high list && ((list.length : Int) == count)) from by rw [hR, dropCons he1, allIn]; simp only [*, Bool.false_and]) ?_
     exact KF.n []
   have h2i := inR_iff.1 h2
   refine AW.skip ?_
   refine AW.g ?_
   refine At.a 1 ?_
   refine At.sI 22 ((k : Int) + 1) (by omega) ?_
   refine At.z 1 ?_
   exact ⟨k + 1, ⟨by omega, by rw [hR, dropCons he1, allIn]; simp only [*, Bool.true_and]⟩, (by omega), Sub.o [] [true, true, true, true, false, false, false, false, false, false, false, true, true, true]⟩
 refine AW.exit ?_
 refine AW.r ?_
 refine At.a 2 ?_
 refine At.sL 24 encI list ?_
 refine At.z 3 ?_
 refine AW.ret ?_
 refine ⟨_, Sub.refl _ _, ?_⟩
 refine KF.conv (fun w => .bool w) (fun w => []) (show ((list.length : Int) == count) = (allIn low high list && ((list.length : Int) == count)) from by rw [hR, List.drop_of_length_le (by omega)]; rfl) ?_
 exact KF.n []
def K_impl_RaftOk (rs : List ResultVar) (r : Raft) (w0_ : Bool) : Exit → Sg → Prop := KF Tryz.prog 0 rs (.bool w0_) []
theorem impl_RaftOk_spec  (r : Raft) (hz : SmallR r) : FnSpec Tryz.prog 19 [(raftA r)] [] (.bool (raftOk r)) [] := by
 obtain ⟨z1, z2, z3, z4⟩ := id hz
 refine FnSpec.of 105 Tryz.func19 rfl Tryz.ntmps19 (by simp) (AW.weakK ?_)
 refine AW.q 2 ?_
 refine AW.r ?_
 refine At.a 4 ?_
 refine At.sL 9 encEnt r.hard.log ?_
 refine At.z 1 ?_
 refine AW.seq ?_
 refine AW.r ?_
 refine At.a 2 ?_
 refine At.c (impl_isOf_spec  r.of_ ) Tryz.call68 true [] [] [] trivial ?_
 refine At.a 2 ?_
 by_cases h1 : (ofOk r.of_) = true
 · refine At.sB 14 (!(ofOk r.of_)) false (sayNF (sayB h1)) ?_
   have h1o := ofOk_iff.1 h1
   refine At.a 5 ?_
   refine At.sI 19 (r.of_ - 1) (by omega) ?_
   refine At.c (impl_within_spec  r.id 0 (r.of_ - 1) ) Tryz.call69 true [] [] [] trivial ?_
   refine At.a 3 ?_
   by_cases h2 : (inR r.id 0 (r.of_ - 1)) = true
   · refine At.sB 23 (!(inR r.id 0 (r.of_ - 1))) false (sayNF (sayB h2)) ?_
     have h2i := inR_iff.1 h2
     refine At.a 2 ?_
     refine At.c (impl_within_spec  r.role 1 3 ) Tryz.call69 true [] [] [] trivial ?_
     refine At.a 3 ?_
     by_cases h3 : (inR r.role 1 3) = true
     · refine At.sB 29 (!(inR r.role 1 3)) false (sayNF (sayB h3)) ?_
       have h3i := inR_iff.1 h3
       refine At.a 2 ?_
       refine At.c (impl_HardOk_spec  r.hard (by omega)) Tryz.call70 true [] [] [] trivial ?_
       refine At.a 3 ?_
       by_cases h4 : (hardOk r.hard) = true
       · refine At.sB 35 (!(hardOk r.hard)) false (sayNF (sayB h4)) ?_
         refine At.a 3 ?_
         refine At.c (impl_within_spec  r.commit 0 (r.hard.log.length : Int) ) Tryz.call69 true [] [] [] trivial ?_
         refine At.z 2 ?_
         refine AW.cNB (inR r.commit 0 (r.hard.log.length : Int)) (fun h5 => ?_) (fun h5 => ?_)
         · refine AW.q 1 ?_
           exact AW.ret (rf (k1 (K_impl_RaftOk _ r) (show (false) = (raftOk r) from by grind [raft_all, raftOk3, allIn_zero]) (KF.n [])))
         have h5i := inR_iff.1 h5
         refine AW.skip ?_
         refine AW.seq ?_
         refine AW.seq ?_
         refine AW.cut [(101, 101)] [false, true, false, true] 65 (!(raftI2 r)) ?_ ?_
         · refine AW.g ?_
           refine At.a 4 ?_
           refine At.c (impl_nodesAscend_spec  r.yes r.of_ (by omega) (by omega)) Tryz.call71 true [] [] [] trivial ?_
           refine At.a 2 ?_
           by_cases h6 : (asc (r.of_ - 1) (-1) r.yes) = true
           · refine At.sB 48 (!(asc (r.of_ - 1) (-1) r.yes)) false (sayNF (sayB h6)) ?_
             refine At.a 4 ?_
             refine At.c (slices_Contains_spec  r.yes r.id (by omega)) Tryz.call72 true [] [] [] trivial ?_
             refine At.a 2 ?_
             by_cases h7 : (hasI r.id r.yes) = true
             · refine At.sB 55 (hasI r.id r.yes) true (sayB h7) ?_
               refine At.a 10 ?_
               refine At.sB 65 true (!(raftI2 r)) (congrArg V.bool (by grind [raftI2])) ?_
               refine At.done rfl ⟨rfl, ?_⟩
               exact Sub.cut [(101, 101)] [false, true, false, true] 65 _ (by kernel_rfl) (by kernel_rfl) (by kernel_rfl) (by kernel_rfl)
             refine At.sB 55 (hasI r.id r.yes) false (sayB (Bool.eq_false_iff.2 h7)) ?_
             replace h7 := Bool.eq_false_iff.2 h7
             refine At.a 3 ?_
             refine At.sL 58 encI r.yes ?_
             refine At.a 2 ?_
             by_cases h8 : (r.yes.length : Int) > 0
             · refine At.sB 60 _ _ (sayT h8) ?_
               refine At.a 5 ?_
               refine At.sB 65 (r.role != 2) (!(raftI2 r)) (congrArg V.bool (by grind [raftI2])) ?_
               refine At.done rfl ⟨rfl, ?_⟩
               exact Sub.cut [(101, 101)] [false, true, false, true] 65 _ (by kernel_rfl) (by kernel_rfl) (by kernel_rfl) (by kernel_rfl)
             refine At.sB 60 _ _ (sayF h8) ?_
             refine At.a 5 ?_
             refine At.sB 65 false (!(raftI2 r)) (congrArg V.bool (by grind [raftI2])) ?_
             refine At.done rfl ⟨rfl, ?_⟩
             exact Sub.cut [(101, 101)] [false, true, false, true] 65 _ (by kernel_rfl) (by kernel_rfl) (by kernel_rfl) (by kernel_rfl)
           refine At.sB 48 (!(asc (r.of_ - 1) (-1) r.yes)) true (sayNT (sayB (Bool.eq_false_iff.2 h6))) ?_
           replace h6 := Bool.eq_false_iff.2 h6
           refine At.a 17 ?_
           refine At.sB 65 true (!(raftI2 r)) (congrArg V.bool (by grind [raftI2])) ?_
           refine At.done rfl ⟨rfl, ?_⟩
           exact Sub.cut [(101, 101)] [false, true, false, true] 65 _ (by kernel_rfl) (by kernel_rfl) (by kernel_rfl) (by kernel_rfl)
         refine AW.cNB (raftI2 r) (fun h9 => ?_) (fun h9 => ?_)
         · refine AW.q 1 ?_
           exact AW.ret (rf (k1 (K_impl_RaftOk _ r) (show (false) = (raftOk r) from by grind [raft_all, raftOk3, allIn_zero]) (KF.n [])))
         refine AW.skip ?_
         refine AW.q 1 ?_
         refine AW.seq ?_
         refine AW.q 3 ?_
         refine AW.cE r.role (3 : Int) (fun h10 => ?_) (fun h10 => ?_)
         · refine AW.gq 3 ?_
           refine AW.seq ?_
           refine AW.cut [(101, 101)] [false, true, false, true, true] 5 (raftI4 r) ?_ ?_
           · refine AW.g ?_
             refine At.a 4 ?_
             by_cases h11 : r.role = 1
             · refine At.sB 74 _ _ (sayET h11) ?_
               refine At.a 15 ?_
               refine At.sB 5 true (raftI4 r) (congrArg V.bool (by grind [raftI4])) ?_
               refine At.done rfl ⟨rfl, ?_⟩
               exact Sub.cut [(101, 101)] [false, true, false, true, true] 5 _ (by kernel_rfl) (by kernel_rfl) (by kernel_rfl) (by kernel_rfl)
             refine At.sB 74 _ _ (sayEF h11) ?_
             refine At.a 5 ?_
             by_cases h12 : r.hard.term ≥ 1
             · refine At.sB 79 _ _ (sayT h12) ?_
               refine At.a 6 ?_
               refine At.sI 85 (r.id + 1) (by omega) ?_
               refine At.a 4 ?_
               refine At.sB 5 (r.hard.vote == (r.id + 1)) (raftI4 r) (congrArg V.bool (by grind [raftI4])) ?_
               refine At.done rfl ⟨rfl, ?_⟩
               exact Sub.cut [(101, 101)] [false, true, false, true, true] 5 _ (by kernel_rfl) (by kernel_rfl) (by kernel_rfl) (by kernel_rfl)
             refine At.sB 79 _ _ (sayF h12) ?_
             refine At.a 10 ?_
             refine At.sB 5 false (raftI4 r) (congrArg V.bool (by grind [raftI4])) ?_
             refine At.done rfl ⟨rfl, ?_⟩
             exact Sub.cut [(101, 101)] [false, true, false, true, true] 5 _ (by kernel_rfl) (by kernel_rfl) (by kernel_rfl) (by kernel_rfl)
           refine AW.r ?_
           refine At.a 2 ?_
           by_cases h13 : (raftI4 r) = true
           · refine At.sB 90 (raftI4 r) true (sayB h13) ?_
             refine At.a 5 ?_
             refine At.sI 95 ((r.hard.log.length : Int) + 1) (by omega) ?_
             refine At.c (impl_numbersIn_spec  r.next r.of_ 1 ((r.hard.log.length : Int) + 1) (by omega)) Tryz.call73 true [] [] [] trivial ?_
             refine At.a 2 ?_
             by_cases h14 : (allIn 1 ((r.hard.log.length : Int) + 1) r.next && ((r.next.length : Int) == r.of_)) = true
             · refine At.sB 98 (allIn 1 ((r.hard.log.length : Int) + 1) r.next && ((r.next.length : Int) == r.of_)) true (sayB h14) ?_
               refine At.a 4 ?_
               refine At.c (impl_numbersIn_spec  r.match_ r.of_ 0 (r.hard.log.length : Int) (by omega)) Tryz.call73 true [] [] [] trivial ?_
               refine At.z 2 ?_
               exact AW.ret (rf (k1 (K_impl_RaftOk _ r) (show (allIn 0 (r.hard.log.length : Int) r.match_ && ((r.match_.length : Int) == r.of_)) = (raftOk r) from by grind [raft_all, raftOk3, allIn_zero]) (KF.n [])))
             refine At.sB 98 (allIn 1 ((r.hard.log.length : Int) + 1) r.next && ((r.next.length : Int) == r.of_)) false (sayB (Bool.eq_false_iff.2 h14)) ?_
             replace h14 := Bool.eq_false_iff.2 h14
             refine At.z 7 ?_
             exact AW.ret (rf (k1 (K_impl_RaftOk _ r) (show (false) = (raftOk r) from by grind [raft_all, raftOk3, allIn_zero]) (KF.n [])))
           refine At.sB 90 (raftI4 r) false (sayB (Bool.eq_false_iff.2 h13)) ?_
           replace h13 := Bool.eq_false_iff.2 h13
           refine At.z 15 ?_
           exact AW.ret (rf (k1 (K_impl_RaftOk _ r) (show (false) = (raftOk r) from by grind [raft_all, raftOk3, allIn_zero]) (KF.n [])))
         refine AW.skip ?_
         refine AW.seq ?_
         refine AW.cut [(101, 101)] [false, true, false, true, true] 5 (raftI4 r) ?_ ?_
         · refine AW.g ?_
           refine At.a 4 ?_
           by_cases h15 : r.role = 1
           · refine At.sB 74 _ _ (sayET h15) ?_
             refine At.a 15 ?_
             refine At.sB 5 true (raftI4 r) (congrArg V.bool (by grind [raftI4])) ?_
             refine At.done rfl ⟨rfl, ?_⟩
             exact Sub.cut [(101, 101)] [false, true, false, true, true] 5 _ (by kernel_rfl) (by kernel_rfl) (by kernel_rfl) (by kernel_rfl)
           refine At.sB 74 _ _ (sayEF h15) ?_
           refine At.a 5 ?_
           by_cases h16 : r.hard.term ≥ 1
           · refine At.sB 79 _ _ (sayT h16) ?_
             refine At.a 6 ?_
             refine At.sI 85 (r.id + 1) (by omega) ?_
             refine At.a 4 ?_
             refine At.sB 5 (r.hard.vote == (r.id + 1)) (raftI4 r) (congrArg V.bool (by grind [raftI4])) ?_
             refine At.done rfl ⟨rfl, ?_⟩
             exact Sub.cut [(101, 101)] [false, true, false, true, true] 5 _ (by kernel_rfl) (by kernel_rfl) (by kernel_rfl) (by kernel_rfl)
           refine At.sB 79 _ _ (sayF h16) ?_
           refine At.a 10 ?_
           refine At.sB 5 false (raftI4 r) (congrArg V.bool (by grind [raftI4])) ?_
           refine At.done rfl ⟨rfl, ?_⟩
           exact Sub.cut [(101, 101)] [false, true, false, true, true] 5 _ (by kernel_rfl) (by kernel_rfl) (by kernel_rfl) (by kernel_rfl)
         refine AW.r ?_
         refine At.a 2 ?_
         by_cases h17 : (raftI4 r) = true
         · refine At.sB 90 (raftI4 r) true (sayB h17) ?_
           refine At.a 5 ?_
           refine At.sI 95 ((r.hard.log.length : Int) + 1) (by omega) ?_
           refine At.c (impl_numbersIn_spec  r.next 0 1 ((r.hard.log.length : Int) + 1) (by omega)) Tryz.call73 true [] [] [] trivial ?_
           refine At.a 2 ?_
           by_cases h18 : (allIn 1 ((r.hard.log.length : Int) + 1) r.next && ((r.next.length : Int) == 0)) = true
           · refine At.sB 98 (allIn 1 ((r.hard.log.length : Int) + 1) r.next && ((r.next.length : Int) == 0)) true (sayB h18) ?_
             refine At.a 4 ?_
             refine At.c (impl_numbersIn_spec  r.match_ 0 0 (r.hard.log.length : Int) (by omega)) Tryz.call73 true [] [] [] trivial ?_
             refine At.z 2 ?_
             exact AW.ret (rf (k1 (K_impl_RaftOk _ r) (show (allIn 0 (r.hard.log.length : Int) r.match_ && ((r.match_.length : Int) == 0)) = (raftOk r) from by grind [raft_all, raftOk3, allIn_zero]) (KF.n [])))
           refine At.sB 98 (allIn 1 ((r.hard.log.length : Int) + 1) r.next && ((r.next.length : Int) == 0)) false (sayB (Bool.eq_false_iff.2 h18)) ?_
           replace h18 := Bool.eq_false_iff.2 h18
           refine At.z 7 ?_
           exact AW.ret (rf (k1 (K_impl_RaftOk _ r) (show (false) = (raftOk r) from by grind [raft_all, raftOk3, allIn_zero]) (KF.n [])))
         refine At.sB 90 (raftI4 r) false (sayB (Bool.eq_false_iff.2 h17)) ?_
         replace h17 := Bool.eq_false_iff.2 h17
         refine At.z 15 ?_
         exact AW.ret (rf (k1 (K_impl_RaftOk _ r) (show (false) = (raftOk r) from by grind [raft_all, raftOk3, allIn_zero]) (KF.n [])))
       refine At.sB 35 (!(hardOk r.hard)) true (sayNT (sayB (Bool.eq_false_iff.2 h4))) ?_
       replace h4 := Bool.eq_false_iff.2 h4
       refine At.z 6 ?_
       refine AW.cond true (by kernel_rfl) (fun _ => ?_) (fun h => by cases h)
       refine AW.q 1 ?_
       exact AW.ret (rf (k1 (K_impl_RaftOk _ r) (show (false) = (raftOk r) from by grind [raft_all, raftOk3, allIn_zero]) (KF.n [])))
     refine At.sB 29 (!(inR r.role 1 3)) true (sayNT (sayB (Bool.eq_false_iff.2 h3))) ?_
     replace h3 := Bool.eq_false_iff.2 h3
     refine At.z 12 ?_
     refine AW.cond true (by kernel_rfl) (fun _ => ?_) (fun h => by cases h)
     refine AW.q 1 ?_
     exact AW.ret (rf (k1 (K_impl_RaftOk _ r) (show (false) = (raftOk r) from by grind [raft_all, raftOk3, allIn_zero]) (KF.n [])))
   refine At.sB 23 (!(inR r.id 0 (r.of_ - 1))) true (sayNT (sayB (Bool.eq_false_iff.2 h2))) ?_
   replace h2 := Bool.eq_false_iff.2 h2
   refine At.z 18 ?_
   refine AW.cond true (by kernel_rfl) (fun _ => ?_) (fun h => by cases h)
   refine AW.q 1 ?_
   exact AW.ret (rf (k1 (K_impl_RaftOk _ r) (show (false) = (raftOk r) from by grind [raft_all, raftOk3, allIn_zero]) (KF.n [])))
 refine At.sB 14 (!(ofOk r.of_)) true (sayNT (sayB (Bool.eq_false_iff.2 h1))) ?_
 replace h1 := Bool.eq_false_iff.2 h1
 refine At.z 27 ?_
 refine AW.cond true (by kernel_rfl) (fun _ => ?_) (fun h => by cases h)
 refine AW.q 1 ?_
 exact AW.ret (rf (k1 (K_impl_RaftOk _ r) (show (false) = (raftOk r) from by grind [raft_all, raftOk3, allIn_zero]) (KF.n [])))
theorem impl_stepper_message_spec  (s : Stepper) (kind : Int) : FnSpec Tryz.prog 114 [.ptr 0 0 0, .int .i64 kind] [.box 102 [.int .i64 s.r.id, .int .i64 s.r.of_, .int .i64 s.r.role, .int .i64 s.r.commit, .int .i64 s.r.hard.term, .int .i64 s.r.hard.vote, .ref 1, .ref 2, .ref 3, .ref 4, .int .i64 s.was.id, .int .i64 s.was.of_, .int .i64 s.was.role, .int .i64 s.was.commit, .int .i64 s.was.hard.term, .int .i64 s.was.hard.vote, .sl false 6 (s.was.hard.log.map encEnt), .sl false 1 (s.was.yes.map encI), .sl false 1 (s.was.next.map encI), .sl false 1 (s.was.match_.map encI), .ref 5, .ref 6], .arr 45 6 (s.r.hard.log.map encEnt), .arr 3 1 (s.r.yes.map encI), .arr 3 1 (s.r.next.map encI), .arr 3 1 (s.r.match_.map encI), .arr 47 10 (s.recs.map encRec), .arr 51 17 (s.outs.map encOut)] (.agg [.int .i64 kind, .int .i64 s.r.id, .int .i64 s.r.hard.term, .int .i64 0, .int .i64 0, .int .i64 0, .bool false, .int .i64 0, .int .i64 0, .str (⟨#[]⟩), .int .i64 0, .int .i64 0, .int .i64 0, .int .i64 0, .str (⟨#[]⟩), .ref 7]) [.box 102 [.int .i64 s.r.id, .int .i64 s.r.of_, .int .i64 s.r.role, .int .i64 s.r.commit, .int .i64 s.r.hard.term, .int .i64 s.r.hard.vote, .ref 1, .ref 2, .ref 3, .ref 4, .int .i64 s.was.id, .int .i64 s.was.of_, .int .i64 s.was.role, .int .i64 s.was.commit, .int .i64 s.was.hard.term, .int .i64 s.was.hard.vote, .sl false 6 (s.was.hard.log.map encEnt), .sl false 1 (s.was.yes.map encI), .sl false 1 (s.was.next.map encI), .sl false 1 (s.was.match_.map encI), .ref 5, .ref 6], .arr 45 6 (s.r.hard.log.map encEnt), .arr 3 1 (s.r.yes.map encI), .arr 3 1 (s.r.next.map encI), .arr 3 1 (s.r.match_.map encI), .arr 47 10 (s.recs.map encRec), .arr 51 17 (s.outs.map encOut), .arr 45 6 []] := by
 refine FnSpec.of 18 Tryz.func114 rfl Tryz.ntmps114 (by simp) (AW.weakK ?_)
 refine AW.q 1 ?_
 refine AW.seq ?_
 refine AW.weak (Sub.nils [⟨true, 104, some 15, 5001, 45, 6⟩] (by kernel_rfl)) ?_
 refine AW.gD Tryz_mix ?_
 refine At.zD 14 ?_
 refine AW.ret ?_
 refine ⟨_, Sub.nils [⟨true, 104, some 15, 5002, 45, 6⟩] (by kernel_rfl), ?_⟩
 refine KF.conv (fun w => .agg [.int .i64 w.kind, .int .i64 w.from_, .int .i64 w.term, .int .i64 w.at_, .int .i64 w.atTerm, .int .i64 w.commit, .bool w.yes, .int .i64 w.release, .int .i64 w.part, .str w.bytes, .int .i64 w.cmd.kind, .int .i64 w.cmd.release, .int .i64 w.cmd.node, .int .i64 w.cmd.size, .str w.cmd.digest, .ref 7]) (fun w => [.box 102 [.int .i64 s.r.id, .int .i64 s.r.of_, .int .i64 s.r.role, .int .i64 s.r.commit, .int .i64 s.r.hard.term, .int .i64 s.r.hard.vote, .ref 1, .ref 2, .ref 3, .ref 4, .int .i64 s.was.id, .int .i64 s.was.of_, .int .i64 s.was.role, .int .i64 s.was.commit, .int .i64 s.was.hard.term, .int .i64 s.was.hard.vote, .sl false 6 (s.was.hard.log.map encEnt), .sl false 1 (s.was.yes.map encI), .sl false 1 (s.was.next.map encI), .sl false 1 (s.was.match_.map encI), .ref 5, .ref 6], .arr 45 6 (s.r.hard.log.map encEnt), .arr 3 1 (s.r.yes.map encI), .arr 3 1 (s.r.next.map encI), .arr 3 1 (s.r.match_.map encI), .arr 47 10 (s.recs.map encRec), .arr 51 17 (s.outs.map encOut), .arr 45 6 (w.entries.map encEnt)]) (show ((⟨kind, s.r.id, s.r.hard.term, 0, 0, 0, false, 0, 0, (⟨#[]⟩ : ByteArray), ⟨0, 0, 0, 0, (⟨#[]⟩ : ByteArray)⟩, []⟩ : Msg)) = ((⟨kind, s.r.id, s.r.hard.term, 0, 0, 0, false, 0, 0, ⟨#[]⟩, ⟨0, 0, 0, 0, ⟨#[]⟩⟩, []⟩ : Msg)) from rfl) ?_
 exact KF.n [(0, 0), (1, 1), (2, 2), (3, 3), (4, 4), (5, 5), (6, 6), (5002, 7)]
theorem impl_termAt_spec  (l : List Ent) (at_ : Int) (hl : l.length ≤ 1048576) (ha : 0 ≤ at_ ∧ at_ ≤ l.length) : FnSpec Tryz.prog 158 [.sl false 6 (l.map encEnt), .int .i64 at_] [] (.int .i64 (termAt l at_)) [] := by
 refine FnSpec.of 13 Tryz.func158 rfl Tryz.ntmps158 (by simp) (AW.weakK ?_)
 refine AW.q 1 ?_
 refine AW.seq ?_
 refine AW.q 2 ?_
 refine AW.cE at_ (0 : Int) (fun h1 => ?_) (fun h1 => ?_)
 · refine AW.q 1 ?_
   refine AW.ret ?_
   refine ⟨_, Sub.refl _ _, ?_⟩
   refine KF.conv (fun w => .int .i64 w) (fun w => []) (show (0) = (termAt l at_) from by unfold termAt; first | (rw [if_pos (by omega)]; done) | (rw [if_neg (by omega), he1]; rfl)) ?_
   exact KF.n []
 refine AW.skip ?_
 refine AW.r ?_
 refine At.a 3 ?_
 refine At.sI 9 (at_ - 1) (by omega) ?_
 refine At.iSl 24 10 (.tmp 7) (.tmp 9) false 6 (l.map encEnt) .i64 (at_ - 1) 45 (by omega) (by simp only [List.length_map]; omega) ?_
 refine At.a 1 ?_
 refine Exists.elim (gE l ((at_ - 1).toNat) (by omega)) fun e1 he1 => ?_
 refine At.lVp 3 12 (.tmp 11) false 6 (l.map encEnt) ((at_ - 1).toNat) 0 false 1 (encEnt e1) (.int .i64 e1.term) (mapGet he1) ?_
 refine At.z 1 ?_
 refine AW.ret ?_
 refine ⟨_, Sub.refl _ _, ?_⟩
 refine KF.conv (fun w => .int .i64 w) (fun w => []) (show (e1.term) = (termAt l at_) from by unfold termAt; first | (rw [if_pos (by omega)]; done) | (rw [if_neg (by omega), he1]; rfl)) ?_
 exact KF.n []
theorem impl_stepper_send_spec  (s : Stepper) (i : Int) (hz : SmallR s.r) (hi : 0 ≤ i ∧ i < s.r.next.length) (hn : NextOk s.r) (ho : s.outs.length ≤ 2000) : FnSpec Tryz.prog 106 [.ptr 0 0 0, .int .i64 i] [.box 102 [.int .i64 s.r.id, .int .i64 s.r.of_, .int .i64 s.r.role, .int .i64 s.r.commit, .int .i64 s.r.hard.term, .int .i64 s.r.hard.vote, .ref 1, .ref 2, .ref 3, .ref 4, .int .i64 s.was.id, .int .i64 s.was.of_, .int .i64 s.was.role, .int .i64 s.was.commit, .int .i64 s.was.hard.term, .int .i64 s.was.hard.vote, .sl false 6 (s.was.hard.log.map encEnt), .sl false 1 (s.was.yes.map encI), .sl false 1 (s.was.next.map encI), .sl false 1 (s.was.match_.map encI), .ref 5, .ref 6], .arr 45 6 (s.r.hard.log.map encEnt), .arr 3 1 (s.r.yes.map encI), .arr 3 1 (s.r.next.map encI), .arr 3 1 (s.r.match_.map encI), .arr 47 10 (s.recs.map encRec), .arr 51 17 (s.outs.map encOut)] (.tup []) [.box 102 [.int .i64 s.r.id, .int .i64 s.r.of_, .int .i64 s.r.role, .int .i64 s.r.commit, .int .i64 s.r.hard.term, .int .i64 s.r.hard.vote, .ref 1, .ref 2, .ref 3, .ref 4, .int .i64 s.was.id, .int .i64 s.was.of_, .int .i64 s.was.role, .int .i64 s.was.commit, .int .i64 s.was.hard.term, .int .i64 s.was.hard.vote, .sl false 6 (s.was.hard.log.map encEnt), .sl false 1 (s.was.yes.map encI), .sl false 1 (s.was.next.map encI), .sl false 1 (s.was.match_.map encI), .ref 5, .ref 7], .arr 45 6 (s.r.hard.log.map encEnt), .arr 3 1 (s.r.yes.map encI), .arr 3 1 (s.r.next.map encI), .arr 3 1 (s.r.match_.map encI), .arr 47 10 (s.recs.map encRec), .dead, .arr 51 17 ((s.outs ++ [sendOf s.r i]).map encOut)] := by
 obtain ⟨z1, z2, z3, z4⟩ := id hz
 refine FnSpec.of 59 Tryz.func106 rfl Tryz.ntmps106 (by simp) (AW.weakK ?_)
 refine AW.q 7 ?_
 refine AW.r ?_
 refine At.a 1 ?_
 refine At.c (impl_stepper_message_spec  s 3 ) Tryz.call114 true [(0, 0), (1, 1), (2, 2), (3, 3), (4, 4), (5, 5), (6, 6)] [(1260, 7)] [] trivial ?_
 refine At.z 2 ?_
 refine AW.r ?_
 refine At.a 6 ?_
 refine At.iRf 27 20 (.tmp 18) (.tmp 19) 3 (s.r.next.map encI) .i64 i 3 1 (by omega) (by simp only [List.length_map]; omega) ?_
 refine Exists.elim (gE s.r.next ((i).toNat) (by omega)) fun e1 he1 => ?_
 have hxe1 := hn _ (List.mem_of_getElem? he1)
 refine At.lEl 3 21 (.tmp 20) 3 3 1 (s.r.next.map encI) ((i).toNat) 0 false 1 (encI e1) (.int .i64 e1) (mapGet he1) ?_
 refine At.a 1 ?_
 refine At.sI 22 (e1 - 1) (by omega) ?_
 refine At.z 2 ?_
 refine AW.seq ?_
 refine AW.gD Tryz_mix ?_
 refine At.a 3 ?_
 refine At.c (impl_termAt_spec  s.r.hard.log (e1 - 1) (by omega) (by omega)) Tryz.call158 false [] [] [(1, 6, (s.r.hard.log.map encEnt))] ⟨rfl, ⟨45, (s.r.hard.log.map encEnt), by kernel_rfl, FrzIs.same (allP_encEnt _)⟩, trivial⟩ ?_
 refine At.zD 9 ?_
 refine AW.r ?_
 refine At.a 6 ?_
 refine At.sJ 40 ((e1 - 1) + 6) (e1 + 5) (by omega) (by omega) ?_
 refine At.a 2 ?_
 refine At.sL 42 encEnt s.r.hard.log ?_
 refine At.mm (d := 43) (b := .min) (x := .tmp 40) (y := .tmp 42) (ats := #[3, 3]) (q := .i64) (m := e1 + 5) (n := (s.r.hard.log.length : Int)) (if (s.r.hard.log.length : Int) < (e1 + 5) then (s.r.hard.log.length : Int) else e1 + 5) (by kernel_rfl) (by kernel_rfl) (by kernel_rfl) (by kernel_rfl) (.inl ⟨rfl, rfl⟩) ?_
 refine At.say 43 (.int .i64 (if (s.r.hard.log.length : Int) < (e1 + 5) then (s.r.hard.log.length : Int) else e1 + 5)) (.int .i64 (min (e1 + 5) (s.r.hard.log.length : Int))) (by kernel_rfl) (congrArg (V.int .i64) (by omega)) ?_
 refine At.sliceRef (t := 24) (d := 44) (e := 45) (es := 6) (i := 1) (x := .tmp 35) (lx := some (.tmp 37)) (hx := some (.tmp 43)) (xs := (s.r.hard.log.map encEnt)) (vl := .int .i64 (e1 - 1)) (vh := .int .i64 (min (e1 + 5) (s.r.hard.log.length : Int))) ((e1 - 1).toNat) ((min (e1 + 5) (s.r.hard.log.length : Int)).toNat) (by kernel_rfl) (by kernel_rfl) (by kernel_rfl) (by kernel_rfl) (by kernel_rfl) (.inr ⟨_, _, rfl, sayNat (by omega)⟩) (.inr ⟨_, _, rfl, sayNat (by omega)⟩) (by omega) (by simp only [List.length_map]; omega) ?_
 refine At.call (impl_copyLog_spec  ((s.r.hard.log.drop ((e1 - 1).toNat)).take (((min (e1 + 5) (s.r.hard.log.length : Int)).toNat) - ((e1 - 1).toNat))) (by simp only [List.length_map, List.length_append, List.length_take, List.length_drop, List.length_replicate, List.length_set, List.length_cons, List.length_nil]; omega)) Tryz.call162 false [] [(1900, 0)] [(1, 6, (s.r.hard.log.map encEnt))] (by kernel_rfl) (by kernel_rfl) (Eq.trans (b := [.sl false 6 (((s.r.hard.log.map encEnt).drop ((e1 - 1).toNat)).take (((min (e1 + 5) (s.r.hard.log.length : Int)).toNat) - ((e1 - 1).toNat)))]) (by kernel_rfl) (by simp only [List.map_take, List.map_drop])) (by kernel_rfl) (by kernel_rfl) ⟨rfl, ⟨45, (s.r.hard.log.map encEnt), by kernel_rfl, FrzIs.same (allP_encEnt _)⟩, trivial⟩ ?_
 refine At.z 2 ?_
 refine AW.gD Tryz_mix ?_
 refine At.a 8 ?_
 refine At.lk 55 51 17 155 (45, 6) [1900] (([(⟨i, ⟨3, s.r.id, s.r.hard.term, e1 - 1, termAt s.r.hard.log (e1 - 1), s.r.commit, false, 0, 0, ⟨#[]⟩, ⟨0, 0, 0, 0, ⟨#[]⟩⟩, ((s.r.hard.log.drop ((e1 - 1).toNat)).take (((min (e1 + 5) (s.r.hard.log.length : Int)).toNat) - ((e1 - 1).toNat)))⟩⟩ : Out)]).map encOut) [(45, 6, (((s.r.hard.log.drop ((e1 - 1).toNat)).take (((min (e1 + 5) (s.r.hard.log.length : Int)).toNat) - ((e1 - 1).toNat))).map encEnt))] (by intro p hp; simp only [List.mem_cons, List.not_mem_nil, or_false] at hp; subst hp; all_goals first | exact flatEnts | exact flatInts | (intro x hx; cases hx)) ?_
 refine At.apK 56 51 17 168 156 6 155 encOut s.outs ([(⟨i, ⟨3, s.r.id, s.r.hard.term, e1 - 1, termAt s.r.hard.log (e1 - 1), s.r.commit, false, 0, 0, ⟨#[]⟩, ⟨0, 0, 0, 0, ⟨#[]⟩⟩, ((s.r.hard.log.drop ((e1 - 1).toNat)).take (((min (e1 + 5) (s.r.hard.log.length : Int)).toNat) - ((e1 - 1).toNat)))⟩⟩ : Out)]) (by simp only [List.length_map, List.length_append, List.length_take, List.length_drop, List.length_replicate, List.length_set, List.length_cons, List.length_nil]; omega) ?_
 refine At.zD 3 ?_
 refine ⟨_, Sub.refl _ _, ?_⟩
 refine KF.conv (fun w => .tup []) (fun w => [.box 102 [.int .i64 w.r.id, .int .i64 w.r.of_, .int .i64 w.r.role, .int .i64 w.r.commit, .int .i64 w.r.hard.term, .int .i64 w.r.hard.vote, .ref 1, .ref 2, .ref 3, .ref 4, .int .i64 w.was.id, .int .i64 w.was.of_, .int .i64 w.was.role, .int .i64 w.was.commit, .int .i64 w.was.hard.term, .int .i64 w.was.hard.vote, .sl false 6 (w.was.hard.log.map encEnt), .sl false 1 (w.was.yes.map encI), .sl false 1 (w.was.next.map encI), .sl false 1 (w.was.match_.map encI), .ref 5, .ref 7], .arr 45 6 (w.r.hard.log.map encEnt), .arr 3 1 (w.r.yes.map encI), .arr 3 1 (w.r.next.map encI), .arr 3 1 (w.r.match_.map encI), .arr 47 10 (w.recs.map encRec), .dead, .arr 51 17 (w.outs.map encOut)]) (show ((⟨s.r, s.was, s.recs, s.outs ++ ([(⟨i, ⟨3, s.r.id, s.r.hard.term, e1 - 1, termAt s.r.hard.log (e1 - 1), s.r.commit, false, 0, 0, ⟨#[]⟩, ⟨0, 0, 0, 0, ⟨#[]⟩⟩, ((s.r.hard.log.drop ((e1 - 1).toNat)).take (((min (e1 + 5) (s.r.hard.log.length : Int)).toNat) - ((e1 - 1).toNat)))⟩⟩ : Out)])⟩ : Stepper)) = (({ s with outs := s.outs ++ [sendOf s.r i] } : Stepper)) from by simp only [sendOf, nextOf, he1, Option.getD_some]; rw [takeMin _ _ 6 _ (by omega)]; rfl) ?_
 exact KF.n [(0, 0), (1, 1), (2, 2), (3, 3), (4, 4), (5, 5), (6, 6), (156, 7)]
theorem impl_stepper_sendAll_spec  (s : Stepper) (hz : SmallR s.r) (hf : 0 ≤ s.r.of_ ∧ s.r.of_ ≤ 5) (hx : s.r.of_ ≤ s.r.next.length) (hn : NextOk s.r) (ho : s.outs.length ≤ 1000) : FnSpec Tryz.prog 81 [.ptr 0 0 0] [.box 102 [.int .i64 s.r.id, .int .i64 s.r.of_, .int .i64 s.r.role, .int .i64 s.r.commit, .int .i64 s.r.hard.term, .int .i64 s.r.hard.vote, .ref 1, .ref 2, .ref 3, .ref 4, .int .i64 s.was.id, .int .i64 s.was.of_, .int .i64 s.was.role, .int .i64 s.was.commit, .int .i64 s.was.hard.term, .int .i64 s.was.hard.vote, .sl false 6 (s.was.hard.log.map encEnt), .sl false 1 (s.was.yes.map encI), .sl false 1 (s.was.next.map encI), .sl false 1 (s.was.match_.map encI), .ref 5, .ref 6], .arr 45 6 (s.r.hard.log.map encEnt), .arr 3 1 (s.r.yes.map encI), .arr 3 1 (s.r.next.map encI), .arr 3 1 (s.r.match_.map encI), .arr 47 10 (s.recs.map encRec), .arr 51 17 (s.outs.map encOut)] (.tup []) [.box 102 [.int .i64 s.r.id, .int .i64 s.r.of_, .int .i64 s.r.role, .int .i64 s.r.commit, .int .i64 s.r.hard.term, .int .i64 s.r.hard.vote, .ref 1, .ref 2, .ref 3, .ref 4, .int .i64 s.was.id, .int .i64 s.was.of_, .int .i64 s.was.role, .int .i64 s.was.commit, .int .i64 s.was.hard.term, .int .i64 s.was.hard.vote, .sl false 6 (s.was.hard.log.map encEnt), .sl false 1 (s.was.yes.map encI), .sl false 1 (s.was.next.map encI), .sl false 1 (s.was.match_.map encI), .ref 5, .ref 7], .arr 45 6 (s.r.hard.log.map encEnt), .arr 3 1 (s.r.yes.map encI), .arr 3 1 (s.r.next.map encI), .arr 3 1 (s.r.match_.map encI), .arr 47 10 (s.recs.map encRec), .dead, .arr 51 17 ((s.outs ++ sendAll s.r).map encOut)] := by
 obtain ⟨z1, z2, z3, z4⟩ := id hz
 refine FnSpec.of 22 Tryz.func81 rfl Tryz.ntmps81 (by simp) (AW.weakK ?_)
 refine AW.q 6 ?_
 refine AW.block ?_
 refine AW.weak (Sub.mv 6 7000 (by kernel_rfl) (by decide)) ?_
 refine AW.loopW (fun (x : Nat × List Out) => match x with | (k, o) => Go.Sy.mk [.ptr 0 0 0, .un, .un, .un, .un, .un, .un, .int .i64 s.r.of_, .int .i64 (k : Int)] [(0, .box 102 [.int .i64 s.r.id, .int .i64 s.r.of_, .int .i64 s.r.role, .int .i64 s.r.commit, .int .i64 s.r.hard.term, .int .i64 s.r.hard.vote, .ref 1, .ref 2, .ref 3, .ref 4, .int .i64 s.was.id, .int .i64 s.was.of_, .int .i64 s.was.role, .int .i64 s.was.commit, .int .i64 s.was.hard.term, .int .i64 s.was.hard.vote, .sl false 6 (s.was.hard.log.map encEnt), .sl false 1 (s.was.yes.map encI), .sl false 1 (s.was.next.map encI), .sl false 1 (s.was.match_.map encI), .ref 5, .ref 7000]), (1, .arr 45 6 (s.r.hard.log.map encEnt)), (2, .arr 3 1 (s.r.yes.map encI)), (3, .arr 3 1 (s.r.next.map encI)), (4, .arr 3 1 (s.r.match_.map encI)), (5, .arr 47 10 (s.recs.map encRec)), (6, .dead), (7000, .arr 51 17 (o.map encOut))]) (fun (x : Nat × List Out) => match x with | (k, o) => (k : Int) ≤ s.r.of_ ∧ o = s.outs ++ sendUp s.r k) (fun (x : Nat × List Out) => match x with | (k, o) => s.r.of_.toNat - k) (0, s.outs) ⟨by omega, by simp [sendUp]⟩ (Sub.o [(0, 0), (1, 1), (2, 2), (3, 3), (4, 4), (5, 5), (6, 6), (7000, 7000)] [true, false, false, false, false, false, false, true, true]) ?_
 rintro ⟨k, o⟩ ⟨hk, hR⟩
 have hlen := sendUp_len s.r k
 have hlen2 := congrArg List.length hR
 try rw [List.length_append] at hlen2
 refine AW.q 1 ?_
 refine AW.seq ?_
 refine AW.cD ((k : Int) < s.r.of_) (fun h1 => ?_) (fun h1 => ?_)
 · refine AW.skip ?_
   refine AW.seq ?_
   refine AW.block ?_
   refine AW.q 2 ?_
   refine AW.q 7 ?_
   refine AW.cU (k : Int) s.r.id (fun h2 => ?_) (fun h2 => ?_)
   · refine AW.g ?_
     refine At.a 2 ?_
     refine At.c (impl_stepper_send_spec  (⟨s.r, s.was, s.recs, o⟩ : Stepper) (k : Int) hz (by dsimp only; omega) hn (by dsimp only; omega)) Tryz.call106 true [(0, 0), (1, 1), (2, 2), (3, 3), (4, 4), (5, 5), (7000, 6)] [(1400, 7)] [] trivial ?_
     refine At.done rfl ?_
     refine AW.g ?_
     refine At.a 1 ?_
     refine At.sI 21 ((k : Int) + 1) (by omega) ?_
     refine At.z 1 ?_
     exact ⟨(k + 1, (o ++ [sendOf s.r (k : Int)])), ⟨by omega, by rw [hR, sendUp, if_neg (by grind)]; (try rw [termAt_end]); first | rfl | exact List.append_assoc _ _ _⟩, (by simp only; omega), Sub.o [(0, 0), (1, 1), (2, 2), (3, 3), (4, 4), (5, 5), (6, 6), (1400, 7000)] [true, false, false, false, false, false, false, true, true]⟩
   refine AW.skip ?_
   refine AW.g ?_
   refine At.a 1 ?_
   refine At.sI 21 ((k : Int) + 1) (by omega) ?_
   refine At.z 1 ?_
   exact ⟨(k + 1, o), ⟨by omega, by rw [hR, sendUp, if_pos (by grind)]; simp⟩, (by simp only; omega), Sub.o [(0, 0), (1, 1), (2, 2), (3, 3), (4, 4), (5, 5), (6, 6), (7000, 7000)] [true, false, false, false, false, false, false, true, true]⟩
 refine AW.exit ?_
 refine ⟨_, Sub.refl _ _, ?_⟩
 refine KF.conv (fun w => .tup []) (fun w => [.box 102 [.int .i64 w.r.id, .int .i64 w.r.of_, .int .i64 w.r.role, .int .i64 w.r.commit, .int .i64 w.r.hard.term, .int .i64 w.r.hard.vote, .ref 1, .ref 2, .ref 3, .ref 4, .int .i64 w.was.id, .int .i64 w.was.of_, .int .i64 w.was.role, .int .i64 w.was.commit, .int .i64 w.was.hard.term, .int .i64 w.was.hard.vote, .sl false 6 (w.was.hard.log.map encEnt), .sl false 1 (w.was.yes.map encI), .sl false 1 (w.was.next.map encI), .sl false 1 (w.was.match_.map encI), .ref 5, .ref 7], .arr 45 6 (w.r.hard.log.map encEnt), .arr 3 1 (w.r.yes.map encI), .arr 3 1 (w.r.next.map encI), .arr 3 1 (w.r.match_.map encI), .arr 47 10 (w.recs.map encRec), .dead, .arr 51 17 (w.outs.map encOut)]) (show ((⟨s.r, s.was, s.recs, o⟩ : Stepper)) = (({ s with outs := s.outs ++ sendAll s.r } : Stepper)) from by rw [hR, sendAll, show s.r.of_.toNat = k from by omega]) ?_
 exact KF.n [(0, 0), (1, 1), (2, 2), (3, 3), (4, 4), (5, 5), (6, 6), (7000, 7)]
theorem impl_stepper_ask_spec  (s : Stepper) (hz : SmallR s.r) (hf : 0 ≤ s.r.of_ ∧ s.r.of_ ≤ 5) (ho : s.outs.length ≤ 1000) : FnSpec Tryz.prog 82 [.ptr 0 0 0] [.box 102 [.int .i64 s.r.id, .int .i64 s.r.of_, .int .i64 s.r.role, .int .i64 s.r.commit, .int .i64 s.r.hard.term, .int .i64 s.r.hard.vote, .ref 1, .ref 2, .ref 3, .ref 4, .int .i64 s.was.id, .int .i64 s.was.of_, .int .i64 s.was.role, .int .i64 s.was.commit, .int .i64 s.was.hard.term, .int .i64 s.was.hard.vote, .sl false 6 (s.was.hard.log.map encEnt), .sl false 1 (s.was.yes.map encI), .sl false 1 (s.was.next.map encI), .sl false 1 (s.was.match_.map encI), .ref 5, .ref 6], .arr 45 6 (s.r.hard.log.map encEnt), .arr 3 1 (s.r.yes.map encI), .arr 3 1 (s.r.next.map encI), .arr 3 1 (s.r.match_.map encI), .arr 47 10 (s.recs.map encRec), .arr 51 17 (s.outs.map encOut)] (.tup []) [.box 102 [.int .i64 s.r.id, .int .i64 s.r.of_, .int .i64 s.r.role, .int .i64 s.r.commit, .int .i64 s.r.hard.term, .int .i64 s.r.hard.vote, .ref 1, .ref 2, .ref 3, .ref 4, .int .i64 s.was.id, .int .i64 s.was.of_, .int .i64 s.was.role, .int .i64 s.was.commit, .int .i64 s.was.hard.term, .int .i64 s.was.hard.vote, .sl false 6 (s.was.hard.log.map encEnt), .sl false 1 (s.was.yes.map encI), .sl false 1 (s.was.next.map encI), .sl false 1 (s.was.match_.map encI), .ref 5, .ref 7], .arr 45 6 (s.r.hard.log.map encEnt), .arr 3 1 (s.r.yes.map encI), .arr 3 1 (s.r.next.map encI), .arr 3 1 (s.r.match_.map encI), .arr 47 10 (s.recs.map encRec), .dead, .arr 51 17 ((s.outs ++ asks s.r).map encOut)] := by
 obtain ⟨z1, z2, z3, z4⟩ := id hz
 refine FnSpec.of 59 Tryz.func82 rfl Tryz.ntmps82 (by simp) (AW.weakK ?_)
 refine AW.q 6 ?_
 refine AW.block ?_
 refine AW.weak (Sub.mv 6 7000 (by kernel_rfl) (by decide)) ?_
 refine AW.loopW (fun (x : Nat × List Out) => match x with | (k, o) => Go.Sy.mk [.ptr 0 0 0, .un, .un, .un, .un, .un, .un, .un, .int .i64 s.r.of_, .int .i64 (k : Int)] [(0, .box 102 [.int .i64 s.r.id, .int .i64 s.r.of_, .int .i64 s.r.role, .int .i64 s.r.commit, .int .i64 s.r.hard.term, .int .i64 s.r.hard.vote, .ref 1, .ref 2, .ref 3, .ref 4, .int .i64 s.was.id, .int .i64 s.was.of_, .int .i64 s.was.role, .int .i64 s.was.commit, .int .i64 s.was.hard.term, .int .i64 s.was.hard.vote, .sl false 6 (s.was.hard.log.map encEnt), .sl false 1 (s.was.yes.map encI), .sl false 1 (s.was.next.map encI), .sl false 1 (s.was.match_.map encI), .ref 5, .ref 7000]), (1, .arr 45 6 (s.r.hard.log.map encEnt)), (2, .arr 3 1 (s.r.yes.map encI)), (3, .arr 3 1 (s.r.next.map encI)), (4, .arr 3 1 (s.r.match_.map encI)), (5, .arr 47 10 (s.recs.map encRec)), (6, .dead), (7000, .arr 51 17 (o.map encOut))]) (fun (x : Nat × List Out) => match x with | (k, o) => (k : Int) ≤ s.r.of_ ∧ o = s.outs ++ askUp s.r k) (fun (x : Nat × List Out) => match x with | (k, o) => s.r.of_.toNat - k) (0, s.outs) ⟨by omega, by simp [askUp]⟩ (Sub.o [(0, 0), (1, 1), (2, 2), (3, 3), (4, 4), (5, 5), (6, 6), (7000, 7000)] [true, false, false, false, false, false, false, false, true, true]) ?_
 rintro ⟨k, o⟩ ⟨hk, hR⟩
 have hlen := askUp_len s.r k
 have hlen2 := congrArg List.length hR
 try rw [List.length_append] at hlen2
 refine AW.q 1 ?_
 refine AW.seq ?_
 refine AW.cD ((k : Int) < s.r.of_) (fun h1 => ?_) (fun h1 => ?_)
 · refine AW.skip ?_
   refine AW.seq ?_
   refine AW.block ?_
   refine AW.q 2 ?_
   refine AW.seq ?_
   refine AW.r ?_
   refine At.a 8 ?_
   by_cases h2 : (k : Int) = s.r.id
   · refine At.sB 19 _ _ (sayET h2) ?_
     refine At.z 8 ?_
     refine AW.cond true (by kernel_rfl) (fun _ => ?_) (fun h => by cases h)
     refine AW.exit ?_
     refine AW.g ?_
     refine At.a 1 ?_
     refine At.sI 58 ((k : Int) + 1) (by omega) ?_
     refine At.z 1 ?_
     exact ⟨(k + 1, o), ⟨by omega, by rw [hR, askUp, if_pos (by grind)]; simp⟩, (by simp only; omega), Sub.o [(0, 0), (1, 1), (2, 2), (3, 3), (4, 4), (5, 5), (6, 6), (7000, 7000)] [true, false, false, false, false, false, false, false, true, true]⟩
   refine At.sB 19 _ _ (sayEF h2) ?_
   refine At.a 6 ?_
   refine At.c (slices_Contains_spec  s.r.yes (k : Int) (by omega)) Tryz.call72 false [] [] [(2, 1, (s.r.yes.map encI))] ⟨rfl, ⟨3, (s.r.yes.map encI), by kernel_rfl, FrzIs.same (allP_encI _)⟩, trivial⟩ ?_
   refine At.z 1 ?_
   refine AW.cB (hasI (k : Int) s.r.yes) (fun h3 => ?_) (fun h3 => ?_)
   · refine AW.exit ?_
     refine AW.g ?_
     refine At.a 1 ?_
     refine At.sI 58 ((k : Int) + 1) (by omega) ?_
     refine At.z 1 ?_
     exact ⟨(k + 1, o), ⟨by omega, by rw [hR, askUp, if_pos (by grind)]; simp⟩, (by simp only; omega), Sub.o [(0, 0), (1, 1), (2, 2), (3, 3), (4, 4), (5, 5), (6, 6), (7000, 7000)] [true, false, false, false, false, false, false, false, true, true]⟩
   refine AW.skip ?_
   refine AW.r ?_
   refine At.a 1 ?_
   refine At.c (impl_stepper_message_spec  (⟨s.r, s.was, s.recs, o⟩ : Stepper) 1 ) Tryz.call114 true [(0, 0), (1, 1), (2, 2), (3, 3), (4, 4), (5, 5), (7000, 6)] [(1580, 7)] [] trivial ?_
   refine At.z 2 ?_
   refine AW.seq ?_
   refine AW.gD Tryz_mix ?_
   refine At.a 7 ?_
   refine At.sL 36 encEnt s.r.hard.log ?_
   refine At.a 6 ?_
   refine At.c (impl_lastTerm_spec  s.r.hard.log (by omega)) Tryz.call113 false [] [] [(1, 6, (s.r.hard.log.map encEnt))] ⟨rfl, ⟨45, (s.r.hard.log.map encEnt), by kernel_rfl, FrzIs.same (allP_encEnt _)⟩, trivial⟩ ?_
   refine At.zD 4 ?_
   refine AW.gD Tryz_mix ?_
   refine At.a 8 ?_
   refine At.lk 54 51 17 154 (45, 6) [1580] (([(⟨(k : Int), ⟨1, s.r.id, s.r.hard.term, (s.r.hard.log.length : Int), lastT s.r.hard.log, 0, false, 0, 0, ⟨#[]⟩, ⟨0, 0, 0, 0, ⟨#[]⟩⟩, []⟩⟩ : Out)]).map encOut) [(45, 6, [])] (by intro p hp; simp only [List.mem_cons, List.not_mem_nil, or_false] at hp; subst hp; all_goals first | exact flatEnts | exact flatInts | (intro x hx; cases hx)) ?_
   refine At.apK 55 51 17 168 155 7000 154 encOut o ([(⟨(k : Int), ⟨1, s.r.id, s.r.hard.term, (s.r.hard.log.length : Int), lastT s.r.hard.log, 0, false, 0, 0, ⟨#[]⟩, ⟨0, 0, 0, 0, ⟨#[]⟩⟩, []⟩⟩ : Out)]) (by simp only [List.length_map, List.length_append, List.length_take, List.length_drop, List.length_replicate, List.length_set, List.length_cons, List.length_nil]; omega) ?_
   refine At.zD 3 ?_
   refine AW.g ?_
   refine At.a 1 ?_
   refine At.sI 58 ((k : Int) + 1) (by omega) ?_
   refine At.z 1 ?_
   exact ⟨(k + 1, (o ++ ([(⟨(k : Int), ⟨1, s.r.id, s.r.hard.term, (s.r.hard.log.length : Int), lastT s.r.hard.log, 0, false, 0, 0, ⟨#[]⟩, ⟨0, 0, 0, 0, ⟨#[]⟩⟩, []⟩⟩ : Out)]))), ⟨by omega, by rw [hR, askUp, if_neg (by grind)]; (try rw [termAt_end]); first | rfl | exact List.append_assoc _ _ _⟩, (by simp only; omega), Sub.o [(0, 0), (1, 1), (2, 2), (3, 3), (4, 4), (5, 5), (6, 6), (155, 7000)] [true, false, false, false, false, false, false, false, true, true]⟩
 refine AW.exit ?_
 refine ⟨_, Sub.refl _ _, ?_⟩
 refine KF.conv (fun w => .tup []) (fun w => [.box 102 [.int .i64 w.r.id, .int .i64 w.r.of_, .int .i64 w.r.role, .int .i64 w.r.commit, .int .i64 w.r.hard.term, .int .i64 w.r.hard.vote, .ref 1, .ref 2, .ref 3, .ref 4, .int .i64 w.was.id, .int .i64 w.was.of_, .int .i64 w.was.role, .int .i64 w.was.commit, .int .i64 w.was.hard.term, .int .i64 w.was.hard.vote, .sl false 6 (w.was.hard.log.map encEnt), .sl false 1 (w.was.yes.map encI), .sl false 1 (w.was.next.map encI), .sl false 1 (w.was.match_.map encI), .ref 5, .ref 7], .arr 45 6 (w.r.hard.log.map encEnt), .arr 3 1 (w.r.yes.map encI), .arr 3 1 (w.r.next.map encI), .arr 3 1 (w.r.match_.map encI), .arr 47 10 (w.recs.map encRec), .dead, .arr 51 17 (w.outs.map encOut)]) (show ((⟨s.r, s.was, s.recs, o⟩ : Stepper)) = (({ s with outs := s.outs ++ asks s.r } : Stepper)) from by rw [hR, asks, show s.r.of_.toNat = k from by omega]) ?_
 exact KF.n [(0, 0), (1, 1), (2, 2), (3, 3), (4, 4), (5, 5), (6, 6), (7000, 7)]
def K_impl_RaftBeat (rs : List ResultVar) (r : Raft) (w0_ : List Out) : Exit → Sg → Prop := KF Tryz.prog 0 rs (.ref 0) [.arr 51 17 (w0_.map encOut)]
theorem impl_RaftBeat_spec  (r : Raft) (hz : SmallR r) : FnSpec Tryz.prog 24 [(raftA r)] [] (.ref 0) [.arr 51 17 ((beat r).map encOut)] := by
 obtain ⟨z1, z2, z3, z4⟩ := id hz
 refine FnSpec.of 26 Tryz.func24 rfl Tryz.ntmps24 (by simp) (AW.weakK ?_)
 refine AW.q 2 ?_
 refine AW.r ?_
 refine At.a 1 ?_
 refine At.c (impl_stepOf_spec  r hz) Tryz.call80 true [] [(1100, 0), (1101, 1), (1102, 2), (1103, 3), (1104, 4), (1105, 5), (1106, 6)] [] trivial ?_
 refine At.z 1 ?_
 refine AW.seq ?_
 refine AW.block ?_
 refine AW.r ?_
 refine At.a 1 ?_
 refine At.c (impl_RaftOk_spec  r hz) Tryz.call19 true [] [] [] trivial ?_
 refine At.z 2 ?_
 refine AW.cNB (raftOk r) (fun h1 => ?_) (fun h1 => ?_)
 · refine AW.skip ?_
   refine AW.q 5 ?_
   exact AW.ret (rf (k1 (K_impl_RaftBeat _ r) (show ([]) = (beat r) from by simp [beat, *]) (KF.n [(1106, 0)])))
 have h1n := raftOk1_nums (raftOk_1 h1)
 refine AW.q 4 ?_
 refine AW.cE r.role (3 : Int) (fun h2 => ?_) (fun h2 => ?_)
 · refine AW.g ?_
   refine At.a 1 ?_
   refine At.c (impl_stepper_sendAll_spec  (⟨r, r, [], []⟩ : Stepper) hz (by dsimp only; omega) (by have := raftOk_next h1 h2; dsimp only; omega) (raftOk_next h1 h2).2.1 (by simp only [List.length_map, List.length_append, List.length_take, List.length_drop, List.length_replicate, List.length_set, List.length_cons, List.length_nil]; omega)) Tryz.call81 true [(1100, 0), (1101, 1), (1102, 2), (1103, 3), (1104, 4), (1105, 5), (1106, 6)] [(1300, 7)] [] trivial ?_
   refine At.done rfl ?_
   refine AW.q 5 ?_
   exact AW.ret (rf (k1 (K_impl_RaftBeat _ r) (show (([]) ++ sendAll r) = (beat r) from by simp [beat, *]) (KF.n [(1300, 0)])))
 refine AW.q 4 ?_
 refine AW.cE r.role (2 : Int) (fun h3 => ?_) (fun h3 => ?_)
 · refine AW.g ?_
   refine At.a 1 ?_
   refine At.c (impl_stepper_ask_spec  (⟨r, r, [], []⟩ : Stepper) hz (by dsimp only; omega) (by simp only [List.length_map, List.length_append, List.length_take, List.length_drop, List.length_replicate, List.length_set, List.length_cons, List.length_nil]; omega)) Tryz.call82 true [(1100, 0), (1101, 1), (1102, 2), (1103, 3), (1104, 4), (1105, 5), (1106, 6)] [(1420, 7)] [] trivial ?_
   refine At.done rfl ?_
   refine AW.q 5 ?_
   exact AW.ret (rf (k1 (K_impl_RaftBeat _ r) (show (([]) ++ asks r) = (beat r) from by simp [beat, *]) (KF.n [(1420, 0)])))
 refine AW.skip ?_
 refine AW.q 5 ?_
 exact AW.ret (rf (k1 (K_impl_RaftBeat _ r) (show ([]) = (beat r) from by simp [beat, *]) (KF.n [(1106, 0)])))
theorem impl_fieldsOf_spec  (kind : Int) : FnSpec Tryz.prog 76 [.int .i64 kind] [] (.str (fieldsL kind)) [] := by
 refine FnSpec.of 18 Tryz.func76 rfl Tryz.ntmps76 (by simp) (AW.weakK ?_)
 refine AW.q 1 ?_
 refine AW.seq ?_
 refine AW.q 1 ?_
 refine AW.block ?_
 refine AW.q 2 ?_
 refine AW.cE kind (1 : Int) (fun h1 => ?_) (fun h1 => ?_)
 · refine AW.q 1 ?_
   refine AW.ret ?_
   refine ⟨_, Sub.refl _ _, ?_⟩
   refine KF.conv (fun w => .str w) (fun w => []) (show ((⟨#[102, 116, 97, 120]⟩ : ByteArray)) = (fieldsL kind) from by simp [fieldsL, h1]) ?_
   exact KF.n []
 refine AW.q 2 ?_
 refine AW.cE kind (2 : Int) (fun h2 => ?_) (fun h2 => ?_)
 · refine AW.q 1 ?_
   refine AW.ret ?_
   refine ⟨_, Sub.refl _ _, ?_⟩
   refine KF.conv (fun w => .str w) (fun w => []) (show ((⟨#[102, 116, 121]⟩ : ByteArray)) = (fieldsL kind) from by simp [fieldsL, h1, h2]) ?_
   exact KF.n []
 refine AW.q 2 ?_
 refine AW.cE kind (3 : Int) (fun h3 => ?_) (fun h3 => ?_)
 · refine AW.q 1 ?_
   refine AW.ret ?_
   refine ⟨_, Sub.refl _ _, ?_⟩
   refine KF.conv (fun w => .str w) (fun w => []) (show ((⟨#[102, 116, 97, 120, 99, 101]⟩ : ByteArray)) = (fieldsL kind) from by simp [fieldsL, h1, h2, h3]) ?_
   exact KF.n []
 refine AW.q 2 ?_
 refine AW.cE kind (4 : Int) (fun h4 => ?_) (fun h4 => ?_)
 · refine AW.q 1 ?_
   refine AW.ret ?_
   refine ⟨_, Sub.refl _ _, ?_⟩
   refine KF.conv (fun w => .str w) (fun w => []) (show ((⟨#[102, 116, 121, 97]⟩ : ByteArray)) = (fieldsL kind) from by simp [fieldsL, h1, h2, h3, h4]) ?_
   exact KF.n []
 refine AW.q 2 ?_
 refine AW.cE kind (5 : Int) (fun h5 => ?_) (fun h5 => ?_)
 · refine AW.q 1 ?_
   refine AW.ret ?_
   refine ⟨_, Sub.refl _ _, ?_⟩
   refine KF.conv (fun w => .str w) (fun w => []) (show ((⟨#[102, 114, 112]⟩ : ByteArray)) = (fieldsL kind) from by simp [fieldsL, h1, h2, h3, h4, h5]) ?_
   exact KF.n []
 refine AW.q 2 ?_
 refine AW.cE kind (6 : Int) (fun h6 => ?_) (fun h6 => ?_)
 · refine AW.q 1 ?_
   refine AW.ret ?_
   refine ⟨_, Sub.refl _ _, ?_⟩
   refine KF.conv (fun w => .str w) (fun w => []) (show ((⟨#[102, 114, 112, 98]⟩ : ByteArray)) = (fieldsL kind) from by simp [fieldsL, h1, h2, h3, h4, h5, h6]) ?_
   exact KF.n []
 refine AW.q 2 ?_
 refine AW.cE kind (7 : Int) (fun h7 => ?_) (fun h7 => ?_)
 · refine AW.q 1 ?_
   refine AW.ret ?_
   refine ⟨_, Sub.refl _ _, ?_⟩
   refine KF.conv (fun w => .str w) (fun w => []) (show ((⟨#[102, 100]⟩ : ByteArray)) = (fieldsL kind) from by simp [fieldsL, h1, h2, h3, h4, h5, h6, h7]) ?_
   exact KF.n []
 refine AW.skip ?_
 refine AW.q 1 ?_
 refine AW.ret ?_
 refine ⟨_, Sub.refl _ _, ?_⟩
 refine KF.conv (fun w => .str w) (fun w => []) (show ((⟨#[]⟩ : ByteArray)) = (fieldsL kind) from by simp [fieldsL, h1, h2, h3, h4, h5, h6, h7]) ?_
 exact KF.n []
theorem impl_entryOk_spec  (e : Ent) : FnSpec Tryz.prog 174 [.agg [.int .i64 e.term, .int .i64 e.cmd.kind, .int .i64 e.cmd.release, .int .i64 e.cmd.node, .int .i64 e.cmd.size, .str e.cmd.digest]] [] (.bool (entOk e)) [] := by
 refine FnSpec.of 11 Tryz.func174 rfl Tryz.ntmps174 (by simp) (AW.weakK ?_)
 refine AW.q 2 ?_
 refine AW.r ?_
 refine At.a 2 ?_
 refine At.c (impl_within_spec  e.term 1 1000000000 ) Tryz.call69 true [] [] [] trivial ?_
 refine At.a 1 ?_
 by_cases h1 : (inR e.term 1 1000000000) = true
 · refine At.sB 6 (inR e.term 1 1000000000) true (sayB h1) ?_
   have h1i := inR_iff.1 h1
   refine At.a 2 ?_
   refine At.c (impl_CmdOk_spec  e.cmd ) Tryz.call101 true [] [] [] trivial ?_
   refine At.z 2 ?_
   refine AW.ret ?_
   refine ⟨_, Sub.refl _ _, ?_⟩
   refine KF.conv (fun w => .bool w) (fun w => []) (show (cmdOk e.cmd) = (entOk e) from by (try simp only [inR_iff, inR_not] at *); rw [Bool.eq_iff_iff]; simp only [entOk, noBytes]; (repeat' split) <;> (try simp [inR_iff]) <;> grind) ?_
   exact KF.n []
 refine At.sB 6 (inR e.term 1 1000000000) false (sayB (Bool.eq_false_iff.2 h1)) ?_
 replace h1 := Bool.eq_false_iff.2 h1
 refine At.z 5 ?_
 refine AW.ret ?_
 refine ⟨_, Sub.refl _ _, ?_⟩
 refine KF.conv (fun w => .bool w) (fun w => []) (show (false) = (entOk e) from by (try simp only [inR_iff, inR_not] at *); rw [Bool.eq_iff_iff]; simp only [entOk, noBytes]; (repeat' split) <;> (try simp [inR_iff]) <;> grind) ?_
 exact KF.n []
theorem impl_entriesOk_spec  (list : List Ent) (hl : list.length ≤ 1048576) : FnSpec Tryz.prog 155 [.sl false 6 (list.map encEnt)] [] (.bool (entsFit list)) [] := by
 refine FnSpec.of 18 Tryz.func155 rfl Tryz.ntmps155 (by simp) (AW.weakK ?_)
 refine AW.q 1 ?_
 refine AW.seq ?_
 refine AW.r ?_
 refine At.a 2 ?_
 refine At.sL 6 encEnt list ?_
 refine At.z 1 ?_
 refine AW.block ?_
 refine AW.loopW (fun (k : Nat) => Go.Sy.mk [.sl false 6 (list.map encEnt), .un, .un, .un, .un, .sl false 6 (list.map encEnt), .int .i64 (list.length : Int), .int .i64 (k : Int)] []) (fun (k : Nat) => k ≤ list.length ∧ entsOk list = entsOk (list.drop k)) (fun (k : Nat) => list.length - k) 0 ⟨by omega, by rw [List.drop_zero]⟩ (Sub.o [] [true, false, false, false, false, true, true, true]) ?_
 rintro k ⟨hk, hR⟩
 refine AW.q 1 ?_
 refine AW.seq ?_
 refine AW.cD ((k : Int) < (list.length : Int)) (fun h1 => ?_) (fun h1 => ?_)
 · refine AW.skip ?_
   refine AW.seq ?_
   refine AW.block ?_
   refine AW.r ?_
   refine At.iSl 24 9 (.tmp 5) (.tmp 7) false 6 (list.map encEnt) .i64 (k : Int) 45 (by omega) (by simp only [List.length_map]; omega) ?_
   refine Exists.elim (gE list k (by omega)) fun e1 he1 => ?_
   refine At.lVp 45 10 (.tmp 9) false 6 (list.map encEnt) k 0 true 6 (encEnt e1) (.agg [.int .i64 e1.term, .int .i64 e1.cmd.kind, .int .i64 e1.cmd.release, .int .i64 e1.cmd.node, .int .i64 e1.cmd.size, .str e1.cmd.digest]) (mapGet he1) ?_
   refine At.z 2 ?_
   refine AW.r ?_
   refine At.a 1 ?_
   refine At.c (impl_entryOk_spec  e1 ) Tryz.call174 true [] [] [] trivial ?_
   refine At.z 1 ?_
   refine AW.cNB (entOk e1) (fun h2 => ?_) (fun h2 => ?_)
   · refine AW.q 1 ?_
     refine AW.ret ?_
     refine ⟨_, Sub.refl _ _, ?_⟩
     refine KF.conv (fun w => .bool w) (fun w => []) (show (false) = (entsFit list) from by rw [dropCons he1] at hR; grind [entsFit, entsOk]) ?_
     exact KF.n []
   have h2n := entOk_nums h2
   refine AW.skip ?_
   refine AW.g ?_
   refine At.a 1 ?_
   refine At.sI 14 ((k : Int) + 1) (by omega) ?_
   refine At.z 1 ?_
   exact ⟨k + 1, ⟨by omega, by rw [hR, dropCons he1, entsOk]; simp only [*, Bool.true_and]⟩, (by omega), Sub.o [] [true, false, false, false, false, true, true, true]⟩
 refine AW.exit ?_
 refine AW.r ?_
 refine At.a 2 ?_
 refine At.sL 16 encEnt list ?_
 refine At.z 2 ?_
 refine AW.ret ?_
 refine ⟨_, Sub.refl _ _, ?_⟩
 refine KF.conv (fun w => .bool w) (fun w => []) (show (decide ((list.length : Int) ≤ 6)) = (entsFit list) from by rw [List.drop_of_length_le (by omega)] at hR; grind [entsFit, entsOk]) ?_
 exact KF.n []
def K_impl_Msg_take (rs : List ResultVar) (m : Msg) (field : UInt8) (w0_ : Bool) (w1_ : Msg) : Exit → Sg → Prop := KF Tryz.prog 1 rs (.bool w0_) [.box 33 [.int .i64 w1_.kind, .int .i64 w1_.from_, .int .i64 w1_.term, .int .i64 w1_.at_, .int .i64 w1_.atTerm, .int .i64 w1_.commit, .bool w1_.yes, .int .i64 w1_.release, .int .i64 w1_.part, .str w1_.bytes, .int .i64 w1_.cmd.kind, .int .i64 w1_.cmd.release, .int .i64 w1_.cmd.node, .int .i64 w1_.cmd.size, .str w1_.cmd.digest, .sl false 6 (w1_.entries.map encEnt)]]
theorem impl_Msg_take_spec  (m : Msg) (field : UInt8) (hl : m.entries.length ≤ 1048576) : FnSpec Tryz.prog 77 [.ptr 0 0 0, .int .u8 (field.toNat : Int)] [.box 33 [.int .i64 m.kind, .int .i64 m.from_, .int .i64 m.term, .int .i64 m.at_, .int .i64 m.atTerm, .int .i64 m.commit, .bool m.yes, .int .i64 m.release, .int .i64 m.part, .str m.bytes, .int .i64 m.cmd.kind, .int .i64 m.cmd.release, .int .i64 m.cmd.node, .int .i64 m.cmd.size, .str m.cmd.digest, .sl false 6 (m.entries.map encEnt)]] (.bool (takeOk m field.toNat)) [.box 33 [.int .i64 ((takeM m field.toNat).kind), .int .i64 ((takeM m field.toNat).from_), .int .i64 ((takeM m field.toNat).term), .int .i64 ((takeM m field.toNat).at_), .int .i64 ((takeM m field.toNat).atTerm), .int .i64 ((takeM m field.toNat).commit), .bool ((takeM m field.toNat).yes), .int .i64 ((takeM m field.toNat).release), .int .i64 ((takeM m field.toNat).part), .str ((takeM m field.toNat).bytes), .int .i64 ((takeM m field.toNat).cmd.kind), .int .i64 ((takeM m field.toNat).cmd.release), .int .i64 ((takeM m field.toNat).cmd.node), .int .i64 ((takeM m field.toNat).cmd.size), .str ((takeM m field.toNat).cmd.digest), .sl false 6 (((takeM m field.toNat).entries).map encEnt)]] := by
 refine FnSpec.of 113 Tryz.func77 rfl Tryz.ntmps77 (by simp) (AW.weakK ?_)
 refine AW.q 1 ?_
 refine AW.q 1 ?_
 refine AW.seq ?_
 refine AW.q 1 ?_
 refine AW.block ?_
 refine AW.q 2 ?_
 refine AW.cE (field.toNat : Int) (102 : Int) (fun h1 => ?_) (fun h1 => ?_)
 · refine AW.g ?_
   refine At.a 5 ?_
   refine At.c (impl_isNode_spec  m.from_ ) Tryz.call152 true [] [] [] trivial ?_
   refine At.z 4 ?_
   refine AW.q 2 ?_
   exact AW.ret (rf (k2 (K_impl_Msg_take _ m field) (show (inR m.from_ 0 4) = (takeOk m field.toNat) from by simp only [takeOk, takeM, h1, if_true, if_false] <;> rfl) (show ((⟨m.kind, 0, m.term, m.at_, m.atTerm, m.commit, m.yes, m.release, m.part, m.bytes, m.cmd, m.entries⟩ : Msg)) = (takeM m field.toNat) from by simp only [takeOk, takeM, h1, if_true, if_false] <;> rfl) (KF.n [(0, 0)])))
 refine AW.q 2 ?_
 refine AW.cE (field.toNat : Int) (116 : Int) (fun h2 => ?_) (fun h2 => ?_)
 · refine AW.g ?_
   refine At.a 5 ?_
   refine At.c (impl_isWhole_spec  m.term ) Tryz.call150 true [] [] [] trivial ?_
   refine At.z 4 ?_
   refine AW.q 2 ?_
   exact AW.ret (rf (k2 (K_impl_Msg_take _ m field) (show (inR m.term 0 1000000000) = (takeOk m field.toNat) from by simp only [takeOk, takeM, h1, h2, if_true, if_false] <;> rfl) (show ((⟨m.kind, m.from_, 0, m.at_, m.atTerm, m.commit, m.yes, m.release, m.part, m.bytes, m.cmd, m.entries⟩ : Msg)) = (takeM m field.toNat) from by simp only [takeOk, takeM, h1, h2, if_true, if_false] <;> rfl) (KF.n [(0, 0)])))
 refine AW.q 2 ?_
 refine AW.cE (field.toNat : Int) (97 : Int) (fun h3 => ?_) (fun h3 => ?_)
 · refine AW.g ?_
   refine At.a 5 ?_
   refine At.c (impl_within_spec  m.at_ 0 80 ) Tryz.call69 true [] [] [] trivial ?_
   refine At.z 4 ?_
   refine AW.q 2 ?_
   exact AW.ret (rf (k2 (K_impl_Msg_take _ m field) (show (inR m.at_ 0 80) = (takeOk m field.toNat) from by simp only [takeOk, takeM, h1, h2, h3, if_true, if_false] <;> rfl) (show ((⟨m.kind, m.from_, m.term, 0, m.atTerm, m.commit, m.yes, m.release, m.part, m.bytes, m.cmd, m.entries⟩ : Msg)) = (takeM m field.toNat) from by simp only [takeOk, takeM, h1, h2, h3, if_true, if_false] <;> rfl) (KF.n [(0, 0)])))
 refine AW.q 2 ?_
 refine AW.cE (field.toNat : Int) (120 : Int) (fun h4 => ?_) (fun h4 => ?_)
 · refine AW.g ?_
   refine At.a 5 ?_
   refine At.c (impl_isWhole_spec  m.atTerm ) Tryz.call150 true [] [] [] trivial ?_
   refine At.z 4 ?_
   refine AW.q 2 ?_
   exact AW.ret (rf (k2 (K_impl_Msg_take _ m field) (show (inR m.atTerm 0 1000000000) = (takeOk m field.toNat) from by simp only [takeOk, takeM, h1, h2, h3, h4, if_true, if_false] <;> rfl) (show ((⟨m.kind, m.from_, m.term, m.at_, 0, m.commit, m.yes, m.release, m.part, m.bytes, m.cmd, m.entries⟩ : Msg)) = (takeM m field.toNat) from by simp only [takeOk, takeM, h1, h2, h3, h4, if_true, if_false] <;> rfl) (KF.n [(0, 0)])))
 refine AW.q 2 ?_
 refine AW.cE (field.toNat : Int) (99 : Int) (fun h5 => ?_) (fun h5 => ?_)
 · refine AW.g ?_
   refine At.a 5 ?_
   refine At.c (impl_within_spec  m.commit 0 80 ) Tryz.call69 true [] [] [] trivial ?_
   refine At.z 4 ?_
   refine AW.q 2 ?_
   exact AW.ret (rf (k2 (K_impl_Msg_take _ m field) (show (inR m.commit 0 80) = (takeOk m field.toNat) from by simp only [takeOk, takeM, h1, h2, h3, h4, h5, if_true, if_false] <;> rfl) (show ((⟨m.kind, m.from_, m.term, m.at_, m.atTerm, 0, m.yes, m.release, m.part, m.bytes, m.cmd, m.entries⟩ : Msg)) = (takeM m field.toNat) from by simp only [takeOk, takeM, h1, h2, h3, h4, h5, if_true, if_false] <;> rfl) (KF.n [(0, 0)])))
 refine AW.q 2 ?_
 refine AW.cE (field.toNat : Int) (121 : Int) (fun h6 => ?_) (fun h6 => ?_)
 · refine AW.gq 4 ?_
   refine AW.q 2 ?_
   exact AW.ret (rf (k2 (K_impl_Msg_take _ m field) (show (true) = (takeOk m field.toNat) from by simp only [takeOk, takeM, h1, h2, h3, h4, h5, h6, if_true, if_false] <;> rfl) (show ((⟨m.kind, m.from_, m.term, m.at_, m.atTerm, m.commit, false, m.release, m.part, m.bytes, m.cmd, m.entries⟩ : Msg)) = (takeM m field.toNat) from by simp only [takeOk, takeM, h1, h2, h3, h4, h5, h6, if_true, if_false] <;> rfl) (KF.n [(0, 0)])))
 refine AW.q 2 ?_
 refine AW.cE (field.toNat : Int) (114 : Int) (fun h7 => ?_) (fun h7 => ?_)
 · refine AW.g ?_
   refine At.a 5 ?_
   refine At.c (impl_isRelease_spec  m.release ) Tryz.call153 true [] [] [] trivial ?_
   refine At.z 4 ?_
   refine AW.q 2 ?_
   exact AW.ret (rf (k2 (K_impl_Msg_take _ m field) (show (inR m.release 1 1000) = (takeOk m field.toNat) from by simp only [takeOk, takeM, h1, h2, h3, h4, h5, h6, h7, if_true, if_false] <;> rfl) (show ((⟨m.kind, m.from_, m.term, m.at_, m.atTerm, m.commit, m.yes, 0, m.part, m.bytes, m.cmd, m.entries⟩ : Msg)) = (takeM m field.toNat) from by simp only [takeOk, takeM, h1, h2, h3, h4, h5, h6, h7, if_true, if_false] <;> rfl) (KF.n [(0, 0)])))
 refine AW.q 2 ?_
 refine AW.cE (field.toNat : Int) (112 : Int) (fun h8 => ?_) (fun h8 => ?_)
 · refine AW.g ?_
   refine At.a 5 ?_
   refine At.c (impl_isSize_spec  m.part ) Tryz.call154 true [] [] [] trivial ?_
   refine At.z 4 ?_
   refine AW.q 2 ?_
   exact AW.ret (rf (k2 (K_impl_Msg_take _ m field) (show (inR m.part 0 1000) = (takeOk m field.toNat) from by simp only [takeOk, takeM, h1, h2, h3, h4, h5, h6, h7, h8, if_true, if_false] <;> rfl) (show ((⟨m.kind, m.from_, m.term, m.at_, m.atTerm, m.commit, m.yes, m.release, 0, m.bytes, m.cmd, m.entries⟩ : Msg)) = (takeM m field.toNat) from by simp only [takeOk, takeM, h1, h2, h3, h4, h5, h6, h7, h8, if_true, if_false] <;> rfl) (KF.n [(0, 0)])))
 refine AW.q 2 ?_
 refine AW.cE (field.toNat : Int) (98 : Int) (fun h9 => ?_) (fun h9 => ?_)
 · refine AW.g ?_
   refine At.a 6 ?_
   refine At.c (impl_within_spec  (m.bytes.size : Int) 1 16 ) Tryz.call69 true [] [] [] trivial ?_
   refine At.z 4 ?_
   refine AW.q 2 ?_
   exact AW.ret (rf (k2 (K_impl_Msg_take _ m field) (show (inR (m.bytes.size : Int) 1 16) = (takeOk m field.toNat) from by simp only [takeOk, takeM, h1, h2, h3, h4, h5, h6, h7, h8, h9, if_true, if_false] <;> rfl) (show ((⟨m.kind, m.from_, m.term, m.at_, m.atTerm, m.commit, m.yes, m.release, m.part, (⟨#[]⟩ : ByteArray), m.cmd, m.entries⟩ : Msg)) = (takeM m field.toNat) from by simp only [takeOk, takeM, h1, h2, h3, h4, h5, h6, h7, h8, h9, if_true, if_false] <;> rfl) (KF.n [(0, 0)])))
 refine AW.q 2 ?_
 refine AW.cE (field.toNat : Int) (100 : Int) (fun h10 => ?_) (fun h10 => ?_)
 · refine AW.g ?_
   refine At.a 5 ?_
   refine At.c (impl_CmdOk_spec  m.cmd ) Tryz.call101 true [] [] [] trivial ?_
   refine At.z 5 ?_
   refine AW.q 2 ?_
   exact AW.ret (rf (k2 (K_impl_Msg_take _ m field) (show (cmdOk m.cmd) = (takeOk m field.toNat) from by simp only [takeOk, takeM, h1, h2, h3, h4, h5, h6, h7, h8, h9, h10, if_true, if_false] <;> rfl) (show ((⟨m.kind, m.from_, m.term, m.at_, m.atTerm, m.commit, m.yes, m.release, m.part, m.bytes, ⟨0, 0, 0, 0, (⟨#[]⟩ : ByteArray)⟩, m.entries⟩ : Msg)) = (takeM m field.toNat) from by simp only [takeOk, takeM, h1, h2, h3, h4, h5, h6, h7, h8, h9, h10, if_true, if_false] <;> rfl) (KF.n [(0, 0)])))
 refine AW.g ?_
 refine At.a 5 ?_
 refine At.c (impl_entriesOk_spec  m.entries (by omega)) Tryz.call155 true [] [] [] trivial ?_
 refine At.z 4 ?_
 refine AW.seq ?_
 refine AW.weak (Sub.nsl 0 15 33 6 [.int .i64 m.kind, .int .i64 m.from_, .int .i64 m.term, .int .i64 m.at_, .int .i64 m.atTerm, .int .i64 m.commit, .bool m.yes, .int .i64 m.release, .int .i64 m.part, .str m.bytes, .int .i64 m.cmd.kind, .int .i64 m.cmd.release, .int .i64 m.cmd.node, .int .i64 m.cmd.size, .str m.cmd.digest, .nil] (by kernel_rfl)) ?_
 refine AW.gq 2 ?_
 exact AW.ret (rf (k2 (K_impl_Msg_take _ m field) (show (entsFit m.entries) = (takeOk m field.toNat) from by simp only [takeOk, takeM, h1, h2, h3, h4, h5, h6, h7, h8, h9, h10, if_true, if_false] <;> rfl) (show ((⟨m.kind, m.from_, m.term, m.at_, m.atTerm, m.commit, m.yes, m.release, m.part, m.bytes, m.cmd, []⟩ : Msg)) = (takeM m field.toNat) from by simp only [takeOk, takeM, h1, h2, h3, h4, h5, h6, h7, h8, h9, h10, if_true, if_false] <;> rfl) (KF.n [(0, 0)])))
theorem slices_Equal_spec  (s1 : List Ent) (s2 : List Ent) (ha : s1.length ≤ 1048576) (hb : s2.length ≤ 1048576) : FnSpec Tryz.prog 156 [.sl false 6 (s1.map encEnt), .sl false 6 (s2.map encEnt)] [] (.bool (listEq entEq s1 s2)) [] := by
 refine FnSpec.of 26 Tryz.func156 rfl Tryz.ntmps156 (by simp) (AW.weakK ?_)
 refine AW.q 1 ?_
 refine AW.seq ?_
 refine AW.r ?_
 refine At.a 2 ?_
 refine At.sL 7 encEnt s1 ?_
 refine At.a 2 ?_
 refine At.sL 9 encEnt s2 ?_
 refine At.z 1 ?_
 refine AW.cU (s1.length : Int) (s2.length : Int) (fun h1 => ?_) (fun h1 => ?_)
 · refine AW.q 1 ?_
   refine AW.ret ?_
   refine ⟨_, Sub.refl _ _, ?_⟩
   refine KF.conv (fun w => .bool w) (fun w => []) (show (false) = (listEq entEq s1 s2) from by rw [listEq_len (by omega)]) ?_
   exact KF.n []
 refine AW.skip ?_
 refine AW.seq ?_
 refine AW.r ?_
 refine At.a 2 ?_
 refine At.sL 12 encEnt s1 ?_
 refine At.z 1 ?_
 refine AW.block ?_
 refine AW.loopW (fun (k : Nat) => Go.Sy.mk [.sl false 6 (s1.map encEnt), .sl false 6 (s2.map encEnt), .un, .un, .un, .un, .un, .un, .un, .un, .un, .un, .int .i64 (s1.length : Int), .int .i64 (k : Int)] []) (fun (k : Nat) => k ≤ s1.length ∧ listEq entEq s1 s2 = listEq entEq (s1.drop k) (s2.drop k)) (fun (k : Nat) => s1.length - k) 0 ⟨by omega, by rw [List.drop_zero, List.drop_zero]⟩ (Sub.o [] [true, true, false, false, false, false, false, false, false, false, false, false, true, true]) ?_
 rintro k ⟨hk, hR⟩
 refine AW.q 1 ?_
 refine AW.seq ?_
 refine AW.cD ((k : Int) < (s1.length : Int)) (fun h2 => ?_) (fun h2 => ?_)
 · refine AW.skip ?_
   refine AW.seq ?_
   refine AW.block ?_
   refine AW.q 2 ?_
   refine AW.seq ?_
   refine AW.gD Tryz_mix ?_
   refine At.a 2 ?_
   refine At.iSl 24 18 (.tmp 16) (.tmp 17) false 6 (s1.map encEnt) .i64 (k : Int) 45 (by omega) (by simp only [List.length_map]; omega) ?_
   refine Exists.elim (gE s1 k (by omega)) fun e1 he1 => ?_
   refine At.lVp 45 19 (.tmp 18) false 6 (s1.map encEnt) k 0 true 6 (encEnt e1) (.agg [.int .i64 e1.term, .int .i64 e1.cmd.kind, .int .i64 e1.cmd.release, .int .i64 e1.cmd.node, .int .i64 e1.cmd.size, .str e1.cmd.digest]) (mapGet he1) ?_
   refine At.a 2 ?_
   refine At.iSl 24 22 (.tmp 20) (.tmp 21) false 6 (s2.map encEnt) .i64 (k : Int) 45 (by omega) (by simp only [List.length_map]; omega) ?_
   refine Exists.elim (gE s2 k (by omega)) fun e2 he2 => ?_
   refine At.lVp 45 23 (.tmp 22) false 6 (s2.map encEnt) k 0 true 6 (encEnt e2) (.agg [.int .i64 e2.term, .int .i64 e2.cmd.kind, .int .i64 e2.cmd.release, .int .i64 e2.cmd.node, .int .i64 e2.cmd.size, .str e2.cmd.digest]) (mapGet he2) ?_
   refine At.eqA (t := 45) (u := 45) (d := 24) (op := .neq) (x := .tmp 19) (y := .tmp 23) (X := [.int .i64 e1.term, .int .i64 e1.cmd.kind, .int .i64 e1.cmd.release, .int .i64 e1.cmd.node, .int .i64 e1.cmd.size, .str e1.cmd.digest]) (Y := [.int .i64 e2.term, .int .i64 e2.cmd.kind, .int .i64 e2.cmd.release, .int .i64 e2.cmd.node, .int .i64 e2.cmd.size, .str e2.cmd.digest]) (entEq e1 e2) (by kernel_rfl) (by kernel_rfl) (by kernel_rfl) (by kernel_rfl) (by kernel_rfl) (.bool (!(entEq e1 e2))) (.inr ⟨rfl, rfl⟩) ?_
   refine At.done rfl ⟨by kernel_rfl, ?_⟩
   refine AW.cNB (entEq e1 e2) (fun h3 => ?_) (fun h3 => ?_)
   · refine AW.q 1 ?_
     refine AW.ret ?_
     refine ⟨_, Sub.refl _ _, ?_⟩
     refine KF.conv (fun w => .bool w) (fun w => []) (show (false) = (listEq entEq s1 s2) from by rw [hR, dropCons he1, dropCons he2, listEq]; simp [*]) ?_
     exact KF.n []
   refine AW.skip ?_
   refine AW.g ?_
   refine At.a 1 ?_
   refine At.sI 25 ((k : Int) + 1) (by omega) ?_
   refine At.z 1 ?_
   exact ⟨k + 1, ⟨by omega, by rw [hR, dropCons he1, dropCons he2, listEq]; simp [*]⟩, (by omega), Sub.o [] [true, true, false, false, false, false, false, false, false, false, false, false, true, true]⟩
 refine AW.exit ?_
 refine AW.q 1 ?_
 refine AW.ret ?_
 refine ⟨_, Sub.refl _ _, ?_⟩
 refine KF.conv (fun w => .bool w) (fun w => []) (show (true) = (listEq entEq s1 s2) from by rw [hR, List.drop_of_length_le (by omega), List.drop_of_length_le (by omega)]; rfl) ?_
 exact KF.n []
def K_impl_MsgSame (rs : List ResultVar) (a : Msg) (b : Msg) (w0_ : Bool) : Exit → Sg → Prop := KF Tryz.prog 0 rs (.bool w0_) []
theorem impl_MsgSame_spec  (a : Msg) (b : Msg) (ha : a.entries.length ≤ 1048576) (hb : b.entries.length ≤ 1048576) : FnSpec Tryz.prog 78 [(msgA a), (msgA b)] [] (.bool (msgEq a b)) [] := by
 refine FnSpec.of 91 Tryz.func78 rfl Tryz.ntmps78 (by simp) (AW.weakK ?_)
 refine AW.q 3 ?_
 refine AW.r ?_
 refine At.a 6 ?_
 by_cases h1 : a.kind = b.kind
 · refine At.sB 12 _ _ (sayET h1) ?_
   refine At.a 7 ?_
   by_cases h2 : a.from_ = b.from_
   · refine At.sB 19 _ _ (sayET h2) ?_
     refine At.a 7 ?_
     by_cases h3 : a.term = b.term
     · refine At.sB 26 _ _ (sayET h3) ?_
       refine At.a 7 ?_
       by_cases h4 : a.at_ = b.at_
       · refine At.sB 33 _ _ (sayET h4) ?_
         refine At.a 7 ?_
         by_cases h5 : a.atTerm = b.atTerm
         · refine At.sB 40 _ _ (sayET h5) ?_
           refine At.z 7 ?_
           refine AW.r ?_
           refine At.a 4 ?_
           refine At.eqB (t := 4) (u := 4) (d := 51) (op := .eql) (x := .tmp 48) (y := .tmp 50) (a := a.yes) (b := b.yes) (by kernel_rfl) (by kernel_rfl) (by kernel_rfl) (by kernel_rfl) (by kernel_rfl) (.bool (a.yes == b.yes)) (.inl ⟨rfl, rfl⟩) ?_
           refine At.a 1 ?_
           by_cases h6 : (a.yes == b.yes) = true
           · refine At.sB 52 (a.yes == b.yes) true (sayB h6) ?_
             refine At.a 7 ?_
             by_cases h7 : a.release = b.release
             · refine At.sB 59 _ _ (sayET h7) ?_
               refine At.a 7 ?_
               by_cases h8 : a.part = b.part
               · refine At.sB 66 _ _ (sayET h8) ?_
                 refine At.a 7 ?_
                 by_cases h9 : a.bytes.toList = b.bytes.toList
                 · refine At.sB 73 _ _ (sayET h9) ?_
                   refine At.a 4 ?_
                   refine At.eqA (t := 31) (u := 31) (d := 78) (op := .eql) (x := .tmp 75) (y := .tmp 77) (X := [.int .i64 a.cmd.kind, .int .i64 a.cmd.release, .int .i64 a.cmd.node, .int .i64 a.cmd.size, .str a.cmd.digest]) (Y := [.int .i64 b.cmd.kind, .int .i64 b.cmd.release, .int .i64 b.cmd.node, .int .i64 b.cmd.size, .str b.cmd.digest]) (cmdEq a.cmd b.cmd) (by kernel_rfl) (by kernel_rfl) (by kernel_rfl) (by kernel_rfl) (by kernel_rfl) (.bool (cmdEq a.cmd b.cmd)) (.inl ⟨rfl, rfl⟩) ?_
                   refine At.z 2 ?_
                   refine AW.r ?_
                   refine At.a 2 ?_
                   by_cases h10 : a.commit = b.commit
                   · refine At.sB 81 _ _ (sayET h10) ?_
                     refine At.a 3 ?_
                     by_cases h11 : (cmdEq a.cmd b.cmd) = true
                     · refine At.sB 84 (cmdEq a.cmd b.cmd) true (sayB h11) ?_
                       refine At.a 4 ?_
                       refine At.c (slices_Equal_spec  a.entries b.entries (by omega) (by omega)) Tryz.call156 true [] [] [] trivial ?_
                       refine At.z 2 ?_
                       exact AW.ret (rf (k1 (K_impl_MsgSame _ a b) (show (listEq entEq a.entries b.entries) = (msgEq a b) from by grind [msgEq]) (KF.n [])))
                     refine At.sB 84 (cmdEq a.cmd b.cmd) false (sayB (Bool.eq_false_iff.2 h11)) ?_
                     replace h11 := Bool.eq_false_iff.2 h11
                     refine At.z 7 ?_
                     exact AW.ret (rf (k1 (K_impl_MsgSame _ a b) (show (false) = (msgEq a b) from by grind [msgEq]) (KF.n [])))
                   refine At.sB 81 _ _ (sayEF h10) ?_
                   refine At.z 10 ?_
                   exact AW.ret (rf (k1 (K_impl_MsgSame _ a b) (show (false) = (msgEq a b) from by grind [msgEq]) (KF.n [])))
                 refine At.sB 73 _ _ (sayEF h9) ?_
                 refine At.z 7 ?_
                 refine AW.r ?_
                 refine At.a 2 ?_
                 by_cases h12 : a.commit = b.commit
                 · refine At.sB 81 _ _ (sayET h12) ?_
                   refine At.z 10 ?_
                   exact AW.ret (rf (k1 (K_impl_MsgSame _ a b) (show (false) = (msgEq a b) from by grind [msgEq]) (KF.n [])))
                 refine At.sB 81 _ _ (sayEF h12) ?_
                 refine At.z 10 ?_
                 exact AW.ret (rf (k1 (K_impl_MsgSame _ a b) (show (false) = (msgEq a b) from by grind [msgEq]) (KF.n [])))
               refine At.sB 66 _ _ (sayEF h8) ?_
               refine At.z 14 ?_
               refine AW.r ?_
               refine At.a 2 ?_
               by_cases h13 : a.commit = b.commit
               · refine At.sB 81 _ _ (sayET h13) ?_
                 refine At.z 10 ?_
                 exact AW.ret (rf (k1 (K_impl_MsgSame _ a b) (show (false) = (msgEq a b) from by grind [msgEq]) (KF.n [])))
               refine At.sB 81 _ _ (sayEF h13) ?_
               refine At.z 10 ?_
               exact AW.ret (rf (k1 (K_impl_MsgSame _ a b) (show (false) = (msgEq a b) from by grind [msgEq]) (KF.n [])))
             refine At.sB 59 _ _ (sayEF h7) ?_
             refine At.z 21 ?_
             refine AW.r ?_
             refine At.a 2 ?_
             by_cases h14 : a.commit = b.commit
             · refine At.sB 81 _ _ (sayET h14) ?_
               refine At.z 10 ?_
               exact AW.ret (rf (k1 (K_impl_MsgSame _ a b) (show (false) = (msgEq a b) from by grind [msgEq]) (KF.n [])))
             refine At.sB 81 _ _ (sayEF h14) ?_
             refine At.z 10 ?_
             exact AW.ret (rf (k1 (K_impl_MsgSame _ a b) (show (false) = (msgEq a b) from by grind [msgEq]) (KF.n [])))
           refine At.sB 52 (a.yes == b.yes) false (sayB (Bool.eq_false_iff.2 h6)) ?_
           replace h6 := Bool.eq_false_iff.2 h6
           refine At.z 28 ?_
           refine AW.r ?_
           refine At.a 2 ?_
           by_cases h15 : a.commit = b.commit
           · refine At.sB 81 _ _ (sayET h15) ?_
             refine At.z 10 ?_
             exact AW.ret (rf (k1 (K_impl_MsgSame _ a b) (show (false) = (msgEq a b) from by grind [msgEq]) (KF.n [])))
           refine At.sB 81 _ _ (sayEF h15) ?_
           refine At.z 10 ?_
           exact AW.ret (rf (k1 (K_impl_MsgSame _ a b) (show (false) = (msgEq a b) from by grind [msgEq]) (KF.n [])))
         refine At.sB 40 _ _ (sayEF h5) ?_
         refine At.z 7 ?_
         refine AW.r ?_
         refine At.a 4 ?_
         refine At.eqB (t := 4) (u := 4) (d := 51) (op := .eql) (x := .tmp 48) (y := .tmp 50) (a := a.yes) (b := b.yes) (by kernel_rfl) (by kernel_rfl) (by kernel_rfl) (by kernel_rfl) (by kernel_rfl) (.bool (a.yes == b.yes)) (.inl ⟨rfl, rfl⟩) ?_
         refine At.a 1 ?_
         by_cases h16 : (a.yes == b.yes) = true
         · refine At.sB 52 (a.yes == b.yes) true (sayB h16) ?_
           refine At.a 7 ?_
           by_cases h17 : a.release = b.release
           · refine At.sB 59 _ _ (sayET h17) ?_
             refine At.a 7 ?_
             by_cases h18 : a.part = b.part
             · refine At.sB 66 _ _ (sayET h18) ?_
               refine At.a 7 ?_
               by_cases h19 : a.bytes.toList = b.bytes.toList
               · refine At.sB 73 _ _ (sayET h19) ?_
                 refine At.a 4 ?_
                 refine At.eqA (t := 31) (u := 31) (d := 78) (op := .eql) (x := .tmp 75) (y := .tmp 77) (X := [.int .i64 a.cmd.kind, .int .i64 a.cmd.release, .int .i64 a.cmd.node, .int .i64 a.cmd.size, .str a.cmd.digest]) (Y := [.int .i64 b.cmd.kind, .int .i64 b.cmd.release, .int .i64 b.cmd.node, .int .i64 b.cmd.size, .str b.cmd.digest]) (cmdEq a.cmd b.cmd) (by kernel_rfl) (by kernel_rfl) (by kernel_rfl) (by kernel_rfl) (by kernel_rfl) (.bool (cmdEq a.cmd b.cmd)) (.inl ⟨rfl, rfl⟩) ?_
                 refine At.z 2 ?_
                 refine AW.q 12 ?_
                 exact AW.ret (rf (k1 (K_impl_MsgSame _ a b) (show (false) = (msgEq a b) from by grind [msgEq]) (KF.n [])))
               refine At.sB 73 _ _ (sayEF h19) ?_
               refine At.z 7 ?_
               refine AW.q 12 ?_
               exact AW.ret (rf (k1 (K_impl_MsgSame _ a b) (show (false) = (msgEq a b) from by grind [msgEq]) (KF.n [])))
             refine At.sB 66 _ _ (sayEF h18) ?_
             refine At.z 14 ?_
             refine AW.q 12 ?_
             exact AW.ret (rf (k1 (K_impl_MsgSame _ a b) (show (false) = (msgEq a b) from by grind [msgEq]) (KF.n [])))
           refine At.sB 59 _ _ (sayEF h17) ?_
           refine At.z 21 ?_
           refine AW.q 12 ?_
           exact AW.ret (rf (k1 (K_impl_MsgSame _ a b) (show (false) = (msgEq a b) from by grind [msgEq]) (KF.n [])))
         refine At.sB 52 (a.yes == b.yes) false (sayB (Bool.eq_false_iff.2 h16)) ?_
         replace h16 := Bool.eq_false_iff.2 h16
         refine At.z 28 ?_
         refine AW.q 12 ?_
         exact AW.ret (rf (k1 (K_impl_MsgSame _ a b) (show (false) = (msgEq a b) from by grind [msgEq]) (KF.n [])))
       refine At.sB 33 _ _ (sayEF h4) ?_
       refine At.z 14 ?_
       refine AW.r ?_
       refine At.a 4 ?_
       refine At.eqB (t := 4) (u := 4) (d := 51) (op := .eql) (x := .tmp 48) (y := .tmp 50) (a := a.yes) (b := b.yes) (by kernel_rfl) (by kernel_rfl) (by kernel_rfl) (by kernel_rfl) (by kernel_rfl) (.bool (a.yes == b.yes)) (.inl ⟨rfl, rfl⟩) ?_
       refine At.a 1 ?_
       by_cases h20 : (a.yes == b.yes) = true
       · refine At.sB 52 (a.yes == b.yes) true (sayB h20) ?_
         refine At.a 7 ?_
         by_cases h21 : a.release = b.release
         · refine At.sB 59 _ _ (sayET h21) ?_
           refine At.a 7 ?_
           by_cases h22 : a.part = b.part
           · refine At.sB 66 _ _ (sayET h22) ?_
             refine At.a 7 ?_
             by_cases h23 : a.bytes.toList = b.bytes.toList
             · refine At.sB 73 _ _ (sayET h23) ?_
               refine At.a 4 ?_
               refine At.eqA (t := 31) (u := 31) (d := 78) (op := .eql) (x := .tmp 75) (y := .tmp 77) (X := [.int .i64 a.cmd.kind, .int .i64 a.cmd.release, .int .i64 a.cmd.node, .int .i64 a.cmd.size, .str a.cmd.digest]) (Y := [.int .i64 b.cmd.kind, .int .i64 b.cmd.release, .int .i64 b.cmd.node, .int .i64 b.cmd.size, .str b.cmd.digest]) (cmdEq a.cmd b.cmd) (by kernel_rfl) (by kernel_rfl) (by kernel_rfl) (by kernel_rfl) (by kernel_rfl) (.bool (cmdEq a.cmd b.cmd)) (.inl ⟨rfl, rfl⟩) ?_
               refine At.z 2 ?_
               refine AW.q 12 ?_
               exact AW.ret (rf (k1 (K_impl_MsgSame _ a b) (show (false) = (msgEq a b) from by grind [msgEq]) (KF.n [])))
             refine At.sB 73 _ _ (sayEF h23) ?_
             refine At.z 7 ?_
             refine AW.q 12 ?_
             exact AW.ret (rf (k1 (K_impl_MsgSame _ a b) (show (false) = (msgEq a b) from by grind [msgEq]) (KF.n [])))
           refine At.sB 66 _ _ (sayEF h22) ?_
           refine At.z 14 ?_
           refine AW.q 12 ?_
           exact AW.ret (rf (k1 (K_impl_MsgSame _ a b) (show (false) = (msgEq a b) from by grind [msgEq]) (KF.n [])))
         refine At.sB 59 _ _ (sayEF h21) ?_
         refine At.z 21 ?_
         refine AW.q 12 ?_
         exact AW.ret (rf (k1 (K_impl_MsgSame _ a b) (show (false) = (msgEq a b) from by grind [msgEq]) (KF.n [])))
       refine At.sB 52 (a.yes == b.yes) false (sayB (Bool.eq_false_iff.2 h20)) ?_
       replace h20 := Bool.eq_false_iff.2 h20
       refine At.z 28 ?_
       refine AW.q 12 ?_
       exact AW.ret (rf (k1 (K_impl_MsgSame _ a b) (show (false) = (msgEq a b) from by grind [msgEq]) (KF.n [])))
     refine At.sB 26 _ _ (sayEF h3) ?_
     refine At.z 21 ?_
     refine AW.r ?_
     refine At.a 4 ?_
     refine At.eqB (t := 4) (u := 4) (d := 51) (op := .eql) (x := .tmp 48) (y := .tmp 50) (a := a.yes) (b := b.yes) (by kernel_rfl) (by kernel_rfl) (by kernel_rfl) (by kernel_rfl) (by kernel_rfl) (.bool (a.yes == b.yes)) (.inl ⟨rfl, rfl⟩) ?_
     refine At.a 1 ?_
     by_cases h24 : (a.yes == b.yes) = true
     · refine At.sB 52 (a.yes == b.yes) true (sayB h24) ?_
       refine At.a 7 ?_
       by_cases h25 : a.release = b.release
       · refine At.sB 59 _ _ (sayET h25) ?_
         refine At.a 7 ?_
         by_cases h26 : a.part = b.part
         · refine At.sB 66 _ _ (sayET h26) ?_
           refine At.a 7 ?_
           by_cases h27 : a.bytes.toList = b.bytes.toList
           · refine At.sB 73 _ _ (sayET h27) ?_
             refine At.a 4 ?_
             refine At.eqA (t := 31) (u := 31) (d := 78) (op := .eql) (x := .tmp 75) (y := .tmp 77) (X := [.int .i64 a.cmd.kind, .int .i64 a.cmd.release, .int .i64 a.cmd.node, .int .i64 a.cmd.size, .str a.cmd.digest]) (Y := [.int .i64 b.cmd.kind, .int .i64 b.cmd.release, .int .i64 b.cmd.node, .int .i64 b.cmd.size, .str b.cmd.digest]) (cmdEq a.cmd b.cmd) (by kernel_rfl) (by kernel_rfl) (by kernel_rfl) (by kernel_rfl) (by kernel_rfl) (.bool (cmdEq a.cmd b.cmd)) (.inl ⟨rfl, rfl⟩) ?_
             refine At.z 2 ?_
             refine AW.q 12 ?_
             exact AW.ret (rf (k1 (K_impl_MsgSame _ a b) (show (false) = (msgEq a b) from by grind [msgEq]) (KF.n [])))
           refine At.sB 73 _ _ (sayEF h27) ?_
           refine At.z 7 ?_
           refine AW.q 12 ?_
           exact AW.ret (rf (k1 (K_impl_MsgSame _ a b) (show (false) = (msgEq a b) from by grind [msgEq]) (KF.n [])))
         refine At.sB 66 _ _ (sayEF h26) ?_
         refine At.z 14 ?_
         refine AW.q 12 ?_
         exact AW.ret (rf (k1 (K_impl_MsgSame _ a b) (show (false) = (msgEq a b) from by grind [msgEq]) (KF.n [])))
       refine At.sB 59 _ _ (sayEF h25) ?_
       refine At.z 21 ?_
       refine AW.q 12 ?_
       exact AW.ret (rf (k1 (K_impl_MsgSame _ a b) (show (false) = (msgEq a b) from by grind [msgEq]) (KF.n [])))
     refine At.sB 52 (a.yes == b.yes) false (sayB (Bool.eq_false_iff.2 h24)) ?_
     replace h24 := Bool.eq_false_iff.2 h24
     refine At.z 28 ?_
     refine AW.q 12 ?_
     exact AW.ret (rf (k1 (K_impl_MsgSame _ a b) (show (false) = (msgEq a b) from by grind [msgEq]) (KF.n [])))
   refine At.sB 19 _ _ (sayEF h2) ?_
   refine At.z 28 ?_
   refine AW.r ?_
   refine At.a 4 ?_
   refine At.eqB (t := 4) (u := 4) (d := 51) (op := .eql) (x := .tmp 48) (y := .tmp 50) (a := a.yes) (b := b.yes) (by kernel_rfl) (by kernel_rfl) (by kernel_rfl) (by kernel_rfl) (by kernel_rfl) (.bool (a.yes == b.yes)) (.inl ⟨rfl, rfl⟩) ?_
   refine At.a 1 ?_
   by_cases h28 : (a.yes == b.yes) = true
   · refine At.sB 52 (a.yes == b.yes) true (sayB h28) ?_
     refine At.a 7 ?_
     by_cases h29 : a.release = b.release
     · refine At.sB 59 _ _ (sayET h29) ?_
       refine At.a 7 ?_
       by_cases h30 : a.part = b.part
       · refine At.sB 66 _ _ (sayET h30) ?_
         refine At.a 7 ?_
         by_cases h31 : a.bytes.toList = b.bytes.toList
         · refine At.sB 73 _ _ (sayET h31) ?_
           refine At.a 4 ?_
           refine At.eqA (t := 31) (u := 31) (d := 78) (op := .eql) (x := .tmp 75) (y := .tmp 77) (X := [.int .i64 a.cmd.kind, .int .i64 a.cmd.release, .int .i64 a.cmd.node, .int .i64 a.cmd.size, .str a.cmd.digest]) (Y := [.int .i64 b.cmd.kind, .int .i64 b.cmd.release, .int .i64 b.cmd.node, .int .i64 b.cmd.size, .str b.cmd.digest]) (cmdEq a.cmd b.cmd) (by kernel_rfl) (by kernel_rfl) (by kernel_rfl) (by kernel_rfl) (by kernel_rfl) (.bool (cmdEq a.cmd b.cmd)) (.inl ⟨rfl, rfl⟩) ?_
           refine At.z 2 ?_
           refine AW.q 12 ?_
           exact AW.ret (rf (k1 (K_impl_MsgSame _ a b) (show (false) = (msgEq a b) from by grind [msgEq]) (KF.n [])))
         refine At.sB 73 _ _ (sayEF h31) ?_
         refine At.z 7 ?_
         refine AW.q 12 ?_
         exact AW.ret (rf (k1 (K_impl_MsgSame _ a b) (show (false) = (msgEq a b) from by grind [msgEq]) (KF.n [])))
       refine At.sB 66 _ _ (sayEF h30) ?_
       refine At.z 14 ?_
       refine AW.q 12 ?_
       exact AW.ret (rf (k1 (K_impl_MsgSame _ a b) (show (false) = (msgEq a b) from by grind [msgEq]) (KF.n [])))
     refine At.sB 59 _ _ (sayEF h29) ?_
     refine At.z 21 ?_
     refine AW.q 12 ?_
     exact AW.ret (rf (k1 (K_impl_MsgSame _ a b) (show (false) = (msgEq a b) from by grind [msgEq]) (KF.n [])))
   refine At.sB 52 (a.yes == b.yes) false (sayB (Bool.eq_false_iff.2 h28)) ?_
   replace h28 := Bool.eq_false_iff.2 h28
   refine At.z 28 ?_
   refine AW.q 12 ?_
   exact AW.ret (rf (k1 (K_impl_MsgSame _ a b) (show (false) = (msgEq a b) from by grind [msgEq]) (KF.n [])))
 refine At.sB 12 _ _ (sayEF h1) ?_
 refine At.z 35 ?_
 refine AW.r ?_
 refine At.a 4 ?_
 refine At.eqB (t := 4) (u := 4) (d := 51) (op := .eql) (x := .tmp 48) (y := .tmp 50) (a := a.yes) (b := b.yes) (by kernel_rfl) (by kernel_rfl) (by kernel_rfl) (by kernel_rfl) (by kernel_rfl) (.bool (a.yes == b.yes)) (.inl ⟨rfl, rfl⟩) ?_
 refine At.a 1 ?_
 by_cases h32 : (a.yes == b.yes) = true
 · refine At.sB 52 (a.yes == b.yes) true (sayB h32) ?_
   refine At.a 7 ?_
   by_cases h33 : a.release = b.release
   · refine At.sB 59 _ _ (sayET h33) ?_
     refine At.a 7 ?_
     by_cases h34 : a.part = b.part
     · refine At.sB 66 _ _ (sayET h34) ?_
       refine At.a 7 ?_
       by_cases h35 : a.bytes.toList = b.bytes.toList
       · refine At.sB 73 _ _ (sayET h35) ?_
         refine At.a 4 ?_
         refine At.eqA (t := 31) (u := 31) (d := 78) (op := .eql) (x := .tmp 75) (y := .tmp 77) (X := [.int .i64 a.cmd.kind, .int .i64 a.cmd.release, .int .i64 a.cmd.node, .int .i64 a.cmd.size, .str a.cmd.digest]) (Y := [.int .i64 b.cmd.kind, .int .i64 b.cmd.release, .int .i64 b.cmd.node, .int .i64 b.cmd.size, .str b.cmd.digest]) (cmdEq a.cmd b.cmd) (by kernel_rfl) (by kernel_rfl) (by kernel_rfl) (by kernel_rfl) (by kernel_rfl) (.bool (cmdEq a.cmd b.cmd)) (.inl ⟨rfl, rfl⟩) ?_
         refine At.z 2 ?_
         refine AW.q 12 ?_
         exact AW.ret (rf (k1 (K_impl_MsgSame _ a b) (show (false) = (msgEq a b) from by grind [msgEq]) (KF.n [])))
       refine At.sB 73 _ _ (sayEF h35) ?_
       refine At.z 7 ?_
       refine AW.q 12 ?_
       exact AW.ret (rf (k1 (K_impl_MsgSame _ a b) (show (false) = (msgEq a b) from by grind [msgEq]) (KF.n [])))
     refine At.sB 66 _ _ (sayEF h34) ?_
     refine At.z 14 ?_
     refine AW.q 12 ?_
     exact AW.ret (rf (k1 (K_impl_MsgSame _ a b) (show (false) = (msgEq a b) from by grind [msgEq]) (KF.n [])))
   refine At.sB 59 _ _ (sayEF h33) ?_
   refine At.z 21 ?_
   refine AW.q 12 ?_
   exact AW.ret (rf (k1 (K_impl_MsgSame _ a b) (show (false) = (msgEq a b) from by grind [msgEq]) (KF.n [])))
 refine At.sB 52 (a.yes == b.yes) false (sayB (Bool.eq_false_iff.2 h32)) ?_
 replace h32 := Bool.eq_false_iff.2 h32
 refine At.z 28 ?_
 refine AW.q 12 ?_
 exact AW.ret (rf (k1 (K_impl_MsgSame _ a b) (show (false) = (msgEq a b) from by grind [msgEq]) (KF.n [])))
theorem impl_MsgFits_spec  (m : Msg) (hl : m.entries.length ≤ 1048576) : FnSpec Tryz.prog 22 [(msgA m)] [] (.bool (msgFits m)) [] := by
 have hfs := fieldsL_small m.kind
 refine FnSpec.of 30 Tryz.func22 rfl Tryz.ntmps22 (by simp) (AW.weakK ?_)
 refine AW.q 2 ?_
 refine AW.r ?_
 refine At.a 2 ?_
 refine At.c (impl_fieldsOf_spec  m.kind ) Tryz.call76 true [] [] [] trivial ?_
 refine At.z 1 ?_
 refine AW.q 3 ?_
 refine AW.seq ?_
 refine AW.q 3 ?_
 refine AW.block ?_
 refine AW.loopW (fun (x : Nat × Msg) => match x with | (k, q) => Go.Sy.mk [.un, .ptr 101 0 0, .un, .str (fieldsL m.kind), .ptr 104 0 0, .un, .un, .un, .un, .un, .un, .int .i64 ((fieldsL m.kind).size : Int), .int .i64 (k : Int)] [(101, .box 33 [.int .i64 m.kind, .int .i64 m.from_, .int .i64 m.term, .int .i64 m.at_, .int .i64 m.atTerm, .int .i64 m.commit, .bool m.yes, .int .i64 m.release, .int .i64 m.part, .str m.bytes, .int .i64 m.cmd.kind, .int .i64 m.cmd.release, .int .i64 m.cmd.node, .int .i64 m.cmd.size, .str m.cmd.digest, .sl false 6 (m.entries.map encEnt)]), (104, .box 33 [.int .i64 q.kind, .int .i64 q.from_, .int .i64 q.term, .int .i64 q.at_, .int .i64 q.atTerm, .int .i64 q.commit, .bool q.yes, .int .i64 q.release, .int .i64 q.part, .str q.bytes, .int .i64 q.cmd.kind, .int .i64 q.cmd.release, .int .i64 q.cmd.node, .int .i64 q.cmd.size, .str q.cmd.digest, .sl false 6 (q.entries.map encEnt)])]) (fun (x : Nat × Msg) => match x with | (k, q) => k ≤ (fieldsL m.kind).size ∧ q.entries.length ≤ 1048576 ∧ runTake m.kind (fieldsL m.kind).data.toList m = runTake m.kind ((fieldsL m.kind).data.toList.drop k) q) (fun (x : Nat × Msg) => match x with | (k, q) => (fieldsL m.kind).size - k) (0, m) ⟨by omega, hl, by rw [List.drop_zero]⟩ (Sub.o [(101, 101), (104, 104)] [false, true, false, true, true, false, false, false, false, false, false, true, true]) ?_
 rintro ⟨k, q⟩ ⟨hk, hq, hR⟩
 refine AW.q 1 ?_
 refine AW.seq ?_
 refine AW.cD ((k : Int) < ((fieldsL m.kind).size : Int)) (fun h1 => ?_) (fun h1 => ?_)
 · refine AW.skip ?_
   refine AW.seq ?_
   refine AW.block ?_
   refine AW.q 2 ?_
   refine AW.r ?_
   refine At.a 2 ?_
   refine Exists.elim (show ∃ e, (fieldsL m.kind).data[k]? = some e from ⟨_, Array.getElem?_eq_getElem (by show _ < (fieldsL m.kind).size; omega)⟩) fun e1 he1 => ?_
   have hl1 : (fieldsL m.kind).data.toList[k]? = some e1 := by simpa using he1
   refine At.idxStr (t := 9) (d := 17) (x := .tmp 15) (y := .tmp 16) (s := fieldsL m.kind) (kd := .i64) (i := (k : Int)) e1 (by kernel_rfl) (by kernel_rfl) (by kernel_rfl) (by kernel_rfl) (by omega) he1 ?_
   refine At.c (impl_Msg_take_spec  q e1 (by omega)) Tryz.call77 true [(104, 0)] [] [] trivial ?_
   refine At.z 1 ?_
   refine AW.cNB (takeOk q e1.toNat) (fun h2 => ?_) (fun h2 => ?_)
   · refine AW.q 1 ?_
     refine AW.ret ?_
     refine ⟨_, Sub.refl _ _, ?_⟩
     refine KF.conv (fun w => .bool w) (fun w => []) (show (false) = (msgFits m) from by rw [fits_run, hR, dropCons hl1, runTake]; simp [h1, h2]) ?_
     exact KF.n []
   refine AW.skip ?_
   refine AW.g ?_
   refine At.a 1 ?_
   refine At.sI 20 ((k : Int) + 1) (by omega) ?_
   refine At.z 1 ?_
   exact ⟨(k + 1, (takeM q e1.toNat)), ⟨by omega, takeM_small hq _, by rw [hR, dropCons hl1, runTake]; simp only [*, Bool.true_and]⟩, (by simp only; omega), Sub.o [(101, 101), (104, 104)] [false, true, false, true, true, false, false, false, false, false, false, true, true]⟩
 refine AW.exit ?_
 refine AW.r ?_
 refine At.a 3 ?_
 by_cases h3 : (fieldsL m.kind).toList = (⟨#[]⟩ : ByteArray).toList
 · refine At.sB 23 (!((fieldsL m.kind).toList == (⟨#[]⟩ : ByteArray).toList)) false (sayNF (sayET h3)) ?_
   refine At.z 7 ?_
   refine AW.ret ?_
   refine ⟨_, Sub.refl _ _, ?_⟩
   refine KF.conv (fun w => .bool w) (fun w => []) (show (false) = (msgFits m) from by rw [fits_run, show ((fieldsL m.kind).toList == []) = true from beq_iff_eq.2 (by rw [← noBytes]; assumption)]; rfl) ?_
   exact KF.n []
 refine At.sB 23 (!((fieldsL m.kind).toList == (⟨#[]⟩ : ByteArray).toList)) true (sayNT (sayEF h3)) ?_
 refine At.a 4 ?_
 refine At.c (FnSpec.nz (As := [.agg [.int .i64 q.kind, .int .i64 q.from_, .int .i64 q.term, .int .i64 q.at_, .int .i64 q.atTerm, .int .i64 q.commit, .bool q.yes, .int .i64 q.release, .int .i64 q.part, .str q.bytes, .int .i64 q.cmd.kind, .int .i64 q.cmd.release, .int .i64 q.cmd.node, .int .i64 q.cmd.size, .str q.cmd.digest, .sl false 6 (q.entries.map encEnt)], .agg [.int .i64 m.kind, .int .i64 0, .int .i64 0, .int .i64 0, .int .i64 0, .int .i64 0, .bool false, .int .i64 0, .int .i64 0, .str (⟨#[]⟩ : ByteArray), .int .i64 0, .int .i64 0, .int .i64 0, .int .i64 0, .str (⟨#[]⟩ : ByteArray), .nil]]) 6 (impl_MsgSame_spec  q (⟨m.kind, 0, 0, 0, 0, 0, false, 0, 0, (⟨#[]⟩ : ByteArray), ⟨0, 0, 0, 0, (⟨#[]⟩ : ByteArray)⟩, []⟩ : Msg) (by omega) (by simp only [List.length_map, List.length_append, List.length_take, List.length_drop, List.length_replicate, List.length_set, List.length_cons, List.length_nil]; omega))) Tryz.call78 true [] [] [] trivial ?_
 refine At.z 2 ?_
 refine AW.ret ?_
 refine ⟨_, Sub.refl _ _, ?_⟩
 refine KF.conv (fun w => .bool w) (fun w => []) (show (msgEq q (⟨m.kind, 0, 0, 0, 0, 0, false, 0, 0, (⟨#[]⟩ : ByteArray), ⟨0, 0, 0, 0, (⟨#[]⟩ : ByteArray)⟩, []⟩ : Msg)) = (msgFits m) from by rw [fits_run, hR, List.drop_of_length_le (by rw [Array.length_toList]; show (fieldsL m.kind).size ≤ _; omega), runTake, beq_eq_false_iff_ne.2 (by rw [← noBytes]; assumption)]; rfl) ?_
 exact KF.n []
def K_impl_stepper_mayHear (rs : List ResultVar) (s : Stepper) (m : Msg) (kind : Int) (w0_ : Bool) : Exit → Sg → Prop := KF Tryz.prog 7 rs (.bool w0_) [.box 102 [.int .i64 s.r.id, .int .i64 s.r.of_, .int .i64 s.r.role, .int .i64 s.r.commit, .int .i64 s.r.hard.term, .int .i64 s.r.hard.vote, .ref 1, .ref 2, .ref 3, .ref 4, .int .i64 s.was.id, .int .i64 s.was.of_, .int .i64 s.was.role, .int .i64 s.was.commit, .int .i64 s.was.hard.term, .int .i64 s.was.hard.vote, .sl false 6 (s.was.hard.log.map encEnt), .sl false 1 (s.was.yes.map encI), .sl false 1 (s.was.next.map encI), .sl false 1 (s.was.match_.map encI), .ref 5, .ref 6], .arr 45 6 (s.r.hard.log.map encEnt), .arr 3 1 (s.r.yes.map encI), .arr 3 1 (s.r.next.map encI), .arr 3 1 (s.r.match_.map encI), .arr 47 10 (s.recs.map encRec), .arr 51 17 (s.outs.map encOut)]
theorem impl_stepper_mayHear_spec  (s : Stepper) (m : Msg) (kind : Int) (hz : SmallR s.was) (hm : m.entries.length ≤ 1048576) : FnSpec Tryz.prog 85 [.ptr 0 0 0, (msgA m), .int .i64 kind] [.box 102 [.int .i64 s.r.id, .int .i64 s.r.of_, .int .i64 s.r.role, .int .i64 s.r.commit, .int .i64 s.r.hard.term, .int .i64 s.r.hard.vote, .ref 1, .ref 2, .ref 3, .ref 4, .int .i64 s.was.id, .int .i64 s.was.of_, .int .i64 s.was.role, .int .i64 s.was.commit, .int .i64 s.was.hard.term, .int .i64 s.was.hard.vote, .sl false 6 (s.was.hard.log.map encEnt), .sl false 1 (s.was.yes.map encI), .sl false 1 (s.was.next.map encI), .sl false 1 (s.was.match_.map encI), .ref 5, .ref 6], .arr 45 6 (s.r.hard.log.map encEnt), .arr 3 1 (s.r.yes.map encI), .arr 3 1 (s.r.next.map encI), .arr 3 1 (s.r.match_.map encI), .arr 47 10 (s.recs.map encRec), .arr 51 17 (s.outs.map encOut)] (.bool (hears s.was m kind)) [.box 102 [.int .i64 s.r.id, .int .i64 s.r.of_, .int .i64 s.r.role, .int .i64 s.r.commit, .int .i64 s.r.hard.term, .int .i64 s.r.hard.vote, .ref 1, .ref 2, .ref 3, .ref 4, .int .i64 s.was.id, .int .i64 s.was.of_, .int .i64 s.was.role, .int .i64 s.was.commit, .int .i64 s.was.hard.term, .int .i64 s.was.hard.vote, .sl false 6 (s.was.hard.log.map encEnt), .sl false 1 (s.was.yes.map encI), .sl false 1 (s.was.next.map encI), .sl false 1 (s.was.match_.map encI), .ref 5, .ref 6], .arr 45 6 (s.r.hard.log.map encEnt), .arr 3 1 (s.r.yes.map encI), .arr 3 1 (s.r.next.map encI), .arr 3 1 (s.r.match_.map encI), .arr 47 10 (s.recs.map encRec), .arr 51 17 (s.outs.map encOut)] := by
 refine FnSpec.of 42 Tryz.func85 rfl Tryz.ntmps85 (by simp) (AW.weakK ?_)
 refine AW.q 2 ?_
 refine AW.seq ?_
 refine AW.gD Tryz_mix ?_
 refine At.a 4 ?_
 refine At.c (impl_RaftOk_spec  s.was hz) Tryz.call19 true [] [] [] trivial ?_
 refine At.a 1 ?_
 by_cases h1 : (raftOk s.was) = true
 · refine At.sB 12 (raftOk s.was) true (sayB h1) ?_
   have h1n := raftOk1_nums (raftOk_1 h1)
   refine At.a 1 ?_
   refine At.c (impl_MsgFits_spec  m hm) Tryz.call22 true [] [] [] trivial ?_
   refine At.a 2 ?_
   by_cases h2 : (msgFits m) = true
   · refine At.sB 16 (msgFits m) true (sayB h2) ?_
     refine At.a 6 ?_
     by_cases h3 : m.kind = kind
     · refine At.sB 22 _ _ (sayET h3) ?_
       refine At.a 10 ?_
       by_cases h4 : m.from_ < s.was.of_
       · refine At.sB 32 _ _ (sayT h4) ?_
         refine At.zD 10 ?_
         exact AW.ret (rf (k1 (K_impl_stepper_mayHear _ s m kind) (show (m.from_ != s.was.id) = (hears s.was m kind) from by grind [hears]) (KF.n [(0, 0), (1, 1), (2, 2), (3, 3), (4, 4), (5, 5), (6, 6)])))
       refine At.sB 32 _ _ (sayF h4) ?_
       refine At.zD 10 ?_
       exact AW.ret (rf (k1 (K_impl_stepper_mayHear _ s m kind) (show (false) = (hears s.was m kind) from by grind [hears]) (KF.n [(0, 0), (1, 1), (2, 2), (3, 3), (4, 4), (5, 5), (6, 6)])))
     refine At.sB 22 _ _ (sayEF h3) ?_
     refine At.zD 20 ?_
     exact AW.ret (rf (k1 (K_impl_stepper_mayHear _ s m kind) (show (false) = (hears s.was m kind) from by grind [hears]) (KF.n [(0, 0), (1, 1), (2, 2), (3, 3), (4, 4), (5, 5), (6, 6)])))
   refine At.sB 16 (msgFits m) false (sayB (Bool.eq_false_iff.2 h2)) ?_
   replace h2 := Bool.eq_false_iff.2 h2
   refine At.zD 26 ?_
   exact AW.ret (rf (k1 (K_impl_stepper_mayHear _ s m kind) (show (false) = (hears s.was m kind) from by grind [hears]) (KF.n [(0, 0), (1, 1), (2, 2), (3, 3), (4, 4), (5, 5), (6, 6)])))
 refine At.sB 12 (raftOk s.was) false (sayB (Bool.eq_false_iff.2 h1)) ?_
 replace h1 := Bool.eq_false_iff.2 h1
 refine At.zD 30 ?_
 exact AW.ret (rf (k1 (K_impl_stepper_mayHear _ s m kind) (show (false) = (hears s.was m kind) from by grind [hears]) (KF.n [(0, 0), (1, 1), (2, 2), (3, 3), (4, 4), (5, 5), (6, 6)])))
theorem impl_inRow_spec  (m : Msg) (hm : m.entries.length ≤ 1048576) (ha : 0 ≤ m.at_ ∧ m.at_ ≤ 80) : FnSpec Tryz.prog 86 [(msgA m)] [] (.bool (rowB m)) [] := by
 refine FnSpec.of 28 Tryz.func86 rfl Tryz.ntmps86 (by simp) (AW.weakK ?_)
 refine AW.q 2 ?_
 refine AW.q 1 ?_
 refine AW.seq ?_
 refine AW.q 3 ?_
 refine AW.cU m.at_ (0 : Int) (fun h1 => ?_) (fun h1 => ?_)
 · refine AW.gq 3 ?_
   refine AW.seq ?_
   refine AW.r ?_
   refine At.a 3 ?_
   refine At.sL 13 encEnt m.entries ?_
   refine At.z 1 ?_
   refine AW.block ?_
   refine AW.loopW (fun (x : Nat × Int) => match x with | (k, lo) => Go.Sy.mk [.un, .ptr 101 0 0, .un, .int .i64 lo, .un, .un, .un, .un, .un, .un, .un, .un, .sl false 6 (m.entries.map encEnt), .int .i64 (m.entries.length : Int), .int .i64 (k : Int)] [(101, .box 33 [.int .i64 m.kind, .int .i64 m.from_, .int .i64 m.term, .int .i64 m.at_, .int .i64 m.atTerm, .int .i64 m.commit, .bool m.yes, .int .i64 m.release, .int .i64 m.part, .str m.bytes, .int .i64 m.cmd.kind, .int .i64 m.cmd.release, .int .i64 m.cmd.node, .int .i64 m.cmd.size, .str m.cmd.digest, .sl false 6 (m.entries.map encEnt)])]) (fun (x : Nat × Int) => match x with | (k, lo) => k ≤ m.entries.length ∧ rowGo m.term m.atTerm m.entries = rowGo m.term lo (m.entries.drop k)) (fun (x : Nat × Int) => match x with | (k, lo) => m.entries.length - k) (0, m.atTerm) ⟨by omega, by rw [List.drop_zero]⟩ (Sub.o [(101, 101)] [false, true, false, true, false, false, false, false, false, false, false, false, true, true, true]) ?_
   rintro ⟨k, lo⟩ ⟨hk, hR⟩
   refine AW.q 1 ?_
   refine AW.seq ?_
   refine AW.cD ((k : Int) < (m.entries.length : Int)) (fun h2 => ?_) (fun h2 => ?_)
   · refine AW.skip ?_
     refine AW.seq ?_
     refine AW.block ?_
     refine AW.r ?_
     refine At.iSl 24 16 (.tmp 12) (.tmp 14) false 6 (m.entries.map encEnt) .i64 (k : Int) 45 (by omega) (by simp only [List.length_map]; omega) ?_
     refine Exists.elim (gE m.entries k (by omega)) fun e1 he1 => ?_
     refine At.lVp 45 17 (.tmp 16) false 6 (m.entries.map encEnt) k 0 true 6 (encEnt e1) (.agg [.int .i64 e1.term, .int .i64 e1.cmd.kind, .int .i64 e1.cmd.release, .int .i64 e1.cmd.node, .int .i64 e1.cmd.size, .str e1.cmd.digest]) (mapGet he1) ?_
     refine At.z 2 ?_
     refine AW.seq ?_
     refine AW.r ?_
     refine At.a 5 ?_
     refine At.c (impl_within_spec  e1.term lo m.term ) Tryz.call69 true [] [] [] trivial ?_
     refine At.z 1 ?_
     refine AW.cNB (inR e1.term lo m.term) (fun h3 => ?_) (fun h3 => ?_)
     · refine AW.q 1 ?_
       refine AW.ret ?_
       refine ⟨_, Sub.refl _ _, ?_⟩
       refine KF.conv (fun w => .bool w) (fun w => []) (show (false) = (rowB m) from by have q := hR; unfold rowB; first | (rw [List.drop_of_length_le (by omega), rowGo] at hR; rw [← hR]; congr 1; (first | rw [if_pos (by omega)] | rw [if_neg (by omega)]); done) | (rw [dropCons (by assumption), rowGo] at hR; grind)) ?_
       exact KF.n []
     have h3i := inR_iff.1 h3
     refine AW.skip ?_
     refine AW.gq 3 ?_
     refine AW.g ?_
     refine At.a 1 ?_
     refine At.sI 27 ((k : Int) + 1) (by omega) ?_
     refine At.z 1 ?_
     exact ⟨(k + 1, e1.term), ⟨by omega, by rw [hR, dropCons (by assumption), rowGo, inR_iff.2 (by omega), Bool.true_and]⟩, (by simp only; omega), Sub.o [(101, 101)] [false, true, false, true, false, false, false, false, false, false, false, false, true, true, true]⟩
   refine AW.exit ?_
   refine AW.q 1 ?_
   refine AW.ret ?_
   refine ⟨_, Sub.refl _ _, ?_⟩
   refine KF.conv (fun w => .bool w) (fun w => []) (show (true) = (rowB m) from by have q := hR; unfold rowB; first | (rw [List.drop_of_length_le (by omega), rowGo] at hR; rw [← hR]; congr 1; (first | rw [if_pos (by omega)] | rw [if_neg (by omega)]); done) | (rw [dropCons (by assumption), rowGo] at hR; grind)) ?_
   exact KF.n []
 refine AW.skip ?_
 refine AW.seq ?_
 refine AW.r ?_
 refine At.a 3 ?_
 refine At.sL 13 encEnt m.entries ?_
 refine At.z 1 ?_
 refine AW.block ?_
 refine AW.loopW (fun (x : Nat × Int) => match x with | (k, lo) => Go.Sy.mk [.un, .ptr 101 0 0, .un, .int .i64 lo, .un, .un, .un, .un, .un, .un, .un, .un, .sl false 6 (m.entries.map encEnt), .int .i64 (m.entries.length : Int), .int .i64 (k : Int)] [(101, .box 33 [.int .i64 m.kind, .int .i64 m.from_, .int .i64 m.term, .int .i64 m.at_, .int .i64 m.atTerm, .int .i64 m.commit, .bool m.yes, .int .i64 m.release, .int .i64 m.part, .str m.bytes, .int .i64 m.cmd.kind, .int .i64 m.cmd.release, .int .i64 m.cmd.node, .int .i64 m.cmd.size, .str m.cmd.digest, .sl false 6 (m.entries.map encEnt)])]) (fun (x : Nat × Int) => match x with | (k, lo) => k ≤ m.entries.length ∧ rowGo m.term 0 m.entries = rowGo m.term lo (m.entries.drop k)) (fun (x : Nat × Int) => match x with | (k, lo) => m.entries.length - k) (0, 0) ⟨by omega, by rw [List.drop_zero]⟩ (Sub.o [(101, 101)] [false, true, false, true, false, false, false, false, false, false, false, false, true, true, true]) ?_
 rintro ⟨k, lo⟩ ⟨hk, hR⟩
 refine AW.q 1 ?_
 refine AW.seq ?_
 refine AW.cD ((k : Int) < (m.entries.length : Int)) (fun h4 => ?_) (fun h4 => ?_)
 · refine AW.skip ?_
   refine AW.seq ?_
   refine AW.block ?_
   refine AW.r ?_
   refine At.iSl 24 16 (.tmp 12) (.tmp 14) false 6 (m.entries.map encEnt) .i64 (k : Int) 45 (by omega) (by simp only [List.length_map]; omega) ?_
   refine Exists.elim (gE m.entries k (by omega)) fun e2 he2 => ?_
   refine At.lVp 45 17 (.tmp 16) false 6 (m.entries.map encEnt) k 0 true 6 (encEnt e2) (.agg [.int .i64 e2.term, .int .i64 e2.cmd.kind, .int .i64 e2.cmd.release, .int .i64 e2.cmd.node, .int .i64 e2.cmd.size, .str e2.cmd.digest]) (mapGet he2) ?_
   refine At.z 2 ?_
   refine AW.seq ?_
   refine AW.r ?_
   refine At.a 5 ?_
   refine At.c (impl_within_spec  e2.term lo m.term ) Tryz.call69 true [] [] [] trivial ?_
   refine At.z 1 ?_
   refine AW.cNB (inR e2.term lo m.term) (fun h5 => ?_) (fun h5 => ?_)
   · refine AW.q 1 ?_
     refine AW.ret ?_
     refine ⟨_, Sub.refl _ _, ?_⟩
     refine KF.conv (fun w => .bool w) (fun w => []) (show (false) = (rowB m) from by have q := hR; unfold rowB; first | (rw [List.drop_of_length_le (by omega), rowGo] at hR; rw [← hR]; congr 1; (first | rw [if_pos (by omega)] | rw [if_neg (by omega)]); done) | (rw [dropCons (by assumption), rowGo] at hR; grind)) ?_
     exact KF.n []
   have h5i := inR_iff.1 h5
   refine AW.skip ?_
   refine AW.gq 3 ?_
   refine AW.g ?_
   refine At.a 1 ?_
   refine At.sI 27 ((k : Int) + 1) (by omega) ?_
   refine At.z 1 ?_
   exact ⟨(k + 1, e2.term), ⟨by omega, by rw [hR, dropCons (by assumption), rowGo, inR_iff.2 (by omega), Bool.true_and]⟩, (by simp only; omega), Sub.o [(101, 101)] [false, true, false, true, false, false, false, false, false, false, false, false, true, true, true]⟩
 refine AW.exit ?_
 refine AW.q 1 ?_
 refine AW.ret ?_
 refine ⟨_, Sub.refl _ _, ?_⟩
 refine KF.conv (fun w => .bool w) (fun w => []) (show (true) = (rowB m) from by have q := hR; unfold rowB; first | (rw [List.drop_of_length_le (by omega), rowGo] at hR; rw [← hR]; congr 1; (first | rw [if_pos (by omega)] | rw [if_neg (by omega)]); done) | (rw [dropCons (by assumption), rowGo] at hR; grind)) ?_
 exact KF.n []
theorem impl_fits_spec  (log : List Ent) (m : Msg) (hl : log.length ≤ 1048576) (hm : m.entries.length ≤ 1048576) (ha : 0 ≤ m.at_ ∧ m.at_ ≤ 80) : FnSpec Tryz.prog 93 [.sl false 6 (log.map encEnt), (msgA m)] [] (.bool (fitsB log m)) [] := by
 refine FnSpec.of 24 Tryz.func93 rfl Tryz.ntmps93 (by simp) (AW.weakK ?_)
 refine AW.q 2 ?_
 refine AW.seq ?_
 refine AW.gD Tryz_mix ?_
 refine At.a 4 ?_
 refine At.sL 8 encEnt log ?_
 refine At.a 2 ?_
 by_cases h1 : m.at_ ≤ (log.length : Int)
 · refine At.sB 10 _ _ (sayT h1) ?_
   refine At.a 4 ?_
   by_cases h2 : m.at_ = 0
   · refine At.sB 14 _ _ (sayET h2) ?_
     refine At.zD 10 ?_
     refine AW.ret ?_
     refine ⟨_, Sub.refl _ _, ?_⟩
     refine KF.conv (fun w => .bool w) (fun w => []) (show (true) = (fitsB log m) from by grind [fitsB]) ?_
     exact KF.n []
   refine At.sB 14 _ _ (sayEF h2) ?_
   refine At.a 3 ?_
   refine At.c (impl_termAt_spec  log m.at_ hl (by omega)) Tryz.call158 true [] [] [] trivial ?_
   refine At.zD 6 ?_
   refine AW.ret ?_
   refine ⟨_, Sub.refl _ _, ?_⟩
   refine KF.conv (fun w => .bool w) (fun w => []) (show ((termAt log m.at_) == m.atTerm) = (fitsB log m) from by grind [fitsB]) ?_
   exact KF.n []
 refine At.sB 10 _ _ (sayF h1) ?_
 refine At.zD 14 ?_
 refine AW.ret ?_
 refine ⟨_, Sub.refl _ _, ?_⟩
 refine KF.conv (fun w => .bool w) (fun w => []) (show (false) = (fitsB log m) from by grind [fitsB]) ?_
 exact KF.n []
theorem impl_cutsBelow_spec  (r : Raft) (m : Msg) (hz : SmallR r) (hm : m.entries.length ≤ 1048576) (ha : 0 ≤ m.at_ ∧ m.at_ ≤ 80) : FnSpec Tryz.prog 87 [(raftA r), (msgA m)] [] (.bool (cutsB r m)) [] := by
 obtain ⟨z1, z2, z3, z4⟩ := id hz
 refine FnSpec.of 45 Tryz.func87 rfl Tryz.ntmps87 (by simp) (AW.weakK ?_)
 refine AW.q 3 ?_
 refine AW.q 4 ?_
 refine AW.seq ?_
 refine AW.r ?_
 refine At.a 2 ?_
 refine At.c (impl_fits_spec  r.hard.log m (by omega) hm ha) Tryz.call93 true [] [] [] trivial ?_
 refine At.z 1 ?_
 refine AW.cNB (fitsB r.hard.log m) (fun h1 => ?_) (fun h1 => ?_)
 · refine AW.q 1 ?_
   refine AW.ret ?_
   refine ⟨_, Sub.refl _ _, ?_⟩
   refine KF.conv (fun w => .bool w) (fun w => []) (show (false) = (cutsB r m) from by rw [cutsB, h1, Bool.false_and]) ?_
   exact KF.n []
 have hfit := h1
 have hat : m.at_ ≤ (r.hard.log.length : Int) := by have q := h1; simp only [fitsB, Bool.and_eq_true, decide_eq_true_eq] at q; exact q.1
 refine AW.skip ?_
 refine AW.seq ?_
 refine AW.r ?_
 refine At.a 3 ?_
 refine At.sL 18 encEnt m.entries ?_
 refine At.z 1 ?_
 refine AW.block ?_
 refine AW.loopW (fun (j : Nat) => Go.Sy.mk [.un, .un, .ptr 102 0 0, .ptr 103 0 0, .un, .sl false 6 (r.hard.log.map encEnt), .un, .un, .un, .un, .un, .un, .un, .un, .un, .un, .un, .sl false 6 (m.entries.map encEnt), .int .i64 (m.entries.length : Int), .int .i64 (j : Int)] [(102, .box 29 [.int .i64 r.id, .int .i64 r.of_, .int .i64 r.role, .int .i64 r.commit, .int .i64 r.hard.term, .int .i64 r.hard.vote, .sl false 6 (r.hard.log.map encEnt), .sl false 1 (r.yes.map encI), .sl false 1 (r.next.map encI), .sl false 1 (r.match_.map encI)]), (103, .box 33 [.int .i64 m.kind, .int .i64 m.from_, .int .i64 m.term, .int .i64 m.at_, .int .i64 m.atTerm, .int .i64 m.commit, .bool m.yes, .int .i64 m.release, .int .i64 m.part, .str m.bytes, .int .i64 m.cmd.kind, .int .i64 m.cmd.release, .int .i64 m.cmd.node, .int .i64 m.cmd.size, .str m.cmd.digest, .sl false 6 (m.entries.map encEnt)])]) (fun (j : Nat) => j ≤ m.entries.length ∧ cutGo r.hard.log r.commit m.at_ m.entries = cutGo r.hard.log r.commit (m.at_ + (j : Int)) (m.entries.drop j)) (fun (j : Nat) => m.entries.length - j) 0 ⟨by omega, by rw [List.drop_zero]; simp⟩ (Sub.o [(102, 102), (103, 103)] [false, false, true, true, false, true, false, false, false, false, false, false, false, false, false, false, false, true, true, true]) ?_
 rintro j ⟨hkj, hQ⟩
 refine AW.q 1 ?_
 refine AW.seq ?_
 refine AW.cD ((j : Int) < (m.entries.length : Int)) (fun h2 => ?_) (fun h2 => ?_)
 · refine AW.skip ?_
   refine AW.seq ?_
   refine AW.block ?_
   refine AW.r ?_
   refine At.a 1 ?_
   refine At.iSl 24 22 (.tmp 17) (.tmp 19) false 6 (m.entries.map encEnt) .i64 (j : Int) 45 (by omega) (by simp only [List.length_map]; omega) ?_
   refine Exists.elim (gE m.entries j (by omega)) fun e1 he1 => ?_
   refine At.lVp 45 23 (.tmp 22) false 6 (m.entries.map encEnt) j 0 true 6 (encEnt e1) (.agg [.int .i64 e1.term, .int .i64 e1.cmd.kind, .int .i64 e1.cmd.release, .int .i64 e1.cmd.node, .int .i64 e1.cmd.size, .str e1.cmd.digest]) (mapGet he1) ?_
   refine At.z 3 ?_
   refine AW.r ?_
   refine At.a 4 ?_
   refine At.sI 27 (m.at_ + (j : Int)) (by omega) ?_
   refine At.a 1 ?_
   refine At.sI 28 ((m.at_ + (j : Int)) + 1) (by omega) ?_
   refine At.z 1 ?_
   refine AW.seq ?_
   refine AW.r ?_
   refine At.a 3 ?_
   refine At.sL 31 encEnt r.hard.log ?_
   refine At.z 1 ?_
   refine AW.cD (((m.at_ + (j : Int)) + 1) > (r.hard.log.length : Int)) (fun h3 => ?_) (fun h3 => ?_)
   · refine AW.exit ?_
     refine AW.q 1 ?_
     refine AW.ret ?_
     refine ⟨_, Sub.refl _ _, ?_⟩
     refine KF.conv (fun w => .bool w) (fun w => []) (show (false) = (cutsB r m) from by rw [cutsB, hfit, Bool.true_and, hQ, dropCons (List.getElem?_eq_getElem (l := m.entries) (i := j) (by omega)), cutGo, if_neg (by omega)]) ?_
     exact KF.n []
   refine AW.skip ?_
   refine AW.seq ?_
   refine AW.gD Tryz_mix ?_
   refine At.a 2 ?_
   refine At.c (impl_termAt_spec  r.hard.log ((m.at_ + (j : Int)) + 1) (by omega) (by omega)) Tryz.call158 true [] [] [] trivial ?_
   refine At.zD 3 ?_
   refine AW.cU (termAt r.hard.log ((m.at_ + (j : Int)) + 1)) e1.term (fun h4 => ?_) (fun h4 => ?_)
   · refine AW.r ?_
     refine At.a 2 ?_
     refine At.sJ 40 (((m.at_ + (j : Int)) + 1) - 1) (m.at_ + (j : Int)) (by omega) (by omega) ?_
     refine At.z 4 ?_
     refine AW.ret ?_
     refine ⟨_, Sub.refl _ _, ?_⟩
     refine KF.conv (fun w => .bool w) (fun w => []) (show (decide ((m.at_ + (j : Int)) < r.commit)) = (cutsB r m) from by rw [cutsB, hfit, Bool.true_and, hQ, dropCons (by assumption), cutGo, if_pos (by omega), if_neg (by assumption)]) ?_
     exact KF.n []
   refine AW.skip ?_
   refine AW.g ?_
   refine At.a 1 ?_
   refine At.sI 44 ((j : Int) + 1) (by omega) ?_
   refine At.z 1 ?_
   exact ⟨j + 1, ⟨by omega, by rw [hQ, dropCons (by assumption), cutGo, if_pos (by omega), if_pos (by assumption), show m.at_ + ((j + 1 : Nat) : Int) = m.at_ + (j : Int) + 1 from by omega]⟩, (by omega), Sub.o [(102, 102), (103, 103)] [false, false, true, true, false, true, false, false, false, false, false, false, false, false, false, false, false, true, true, true]⟩
 refine AW.exit ?_
 refine AW.q 1 ?_
 refine AW.ret ?_
 refine ⟨_, Sub.refl _ _, ?_⟩
 refine KF.conv (fun w => .bool w) (fun w => []) (show (false) = (cutsB r m) from by rw [cutsB, hfit, Bool.true_and, hQ, List.drop_of_length_le (by omega), cutGo]) ?_
 exact KF.n []
def K_impl_stepper_none (rs : List ResultVar) (s : Stepper) (w0_ : Raft) : Exit → Sg → Prop := KF Tryz.prog 7 rs (.tup [.agg [.int .i64 w0_.id, .int .i64 w0_.of_, .int .i64 w0_.role, .int .i64 w0_.commit, .int .i64 w0_.hard.term, .int .i64 w0_.hard.vote, .ref 7, .ref 8, .ref 9, .ref 10], .ref 11, .ref 12]) [.box 102 [.int .i64 s.r.id, .int .i64 s.r.of_, .int .i64 s.r.role, .int .i64 s.r.commit, .int .i64 s.r.hard.term, .int .i64 s.r.hard.vote, .ref 1, .ref 2, .ref 3, .ref 4, .int .i64 s.was.id, .int .i64 s.was.of_, .int .i64 s.was.role, .int .i64 s.was.commit, .int .i64 s.was.hard.term, .int .i64 s.was.hard.vote, .sl false 6 (s.was.hard.log.map encEnt), .sl false 1 (s.was.yes.map encI), .sl false 1 (s.was.next.map encI), .sl false 1 (s.was.match_.map encI), .ref 5, .ref 6], .arr 45 6 (s.r.hard.log.map encEnt), .arr 3 1 (s.r.yes.map encI), .arr 3 1 (s.r.next.map encI), .arr 3 1 (s.r.match_.map encI), .arr 47 10 (s.recs.map encRec), .arr 51 17 (s.outs.map encOut), .arr 45 6 (w0_.hard.log.map encEnt), .arr 3 1 (w0_.yes.map encI), .arr 3 1 (w0_.next.map encI), .arr 3 1 (w0_.match_.map encI), .arr 47 10 [], .arr 51 17 []]
theorem impl_stepper_none_spec  (s : Stepper) (hz : SmallR s.was) : FnSpec Tryz.prog 88 [.ptr 0 0 0] [.box 102 [.int .i64 s.r.id, .int .i64 s.r.of_, .int .i64 s.r.role, .int .i64 s.r.commit, .int .i64 s.r.hard.term, .int .i64 s.r.hard.vote, .ref 1, .ref 2, .ref 3, .ref 4, .int .i64 s.was.id, .int .i64 s.was.of_, .int .i64 s.was.role, .int .i64 s.was.commit, .int .i64 s.was.hard.term, .int .i64 s.was.hard.vote, .sl false 6 (s.was.hard.log.map encEnt), .sl false 1 (s.was.yes.map encI), .sl false 1 (s.was.next.map encI), .sl false 1 (s.was.match_.map encI), .ref 5, .ref 6], .arr 45 6 (s.r.hard.log.map encEnt), .arr 3 1 (s.r.yes.map encI), .arr 3 1 (s.r.next.map encI), .arr 3 1 (s.r.match_.map encI), .arr 47 10 (s.recs.map encRec), .arr 51 17 (s.outs.map encOut)] (.tup [.agg [.int .i64 ((same s.was).id), .int .i64 ((same s.was).of_), .int .i64 ((same s.was).role), .int .i64 ((same s.was).commit), .int .i64 ((same s.was).hard.term), .int .i64 ((same s.was).hard.vote), .ref 7, .ref 8, .ref 9, .ref 10], .ref 11, .ref 12]) [.box 102 [.int .i64 s.r.id, .int .i64 s.r.of_, .int .i64 s.r.role, .int .i64 s.r.commit, .int .i64 s.r.hard.term, .int .i64 s.r.hard.vote, .ref 1, .ref 2, .ref 3, .ref 4, .int .i64 s.was.id, .int .i64 s.was.of_, .int .i64 s.was.role, .int .i64 s.was.commit, .int .i64 s.was.hard.term, .int .i64 s.was.hard.vote, .sl false 6 (s.was.hard.log.map encEnt), .sl false 1 (s.was.yes.map encI), .sl false 1 (s.was.next.map encI), .sl false 1 (s.was.match_.map encI), .ref 5, .ref 6], .arr 45 6 (s.r.hard.log.map encEnt), .arr 3 1 (s.r.yes.map encI), .arr 3 1 (s.r.next.map encI), .arr 3 1 (s.r.match_.map encI), .arr 47 10 (s.recs.map encRec), .arr 51 17 (s.outs.map encOut), .arr 45 6 (((same s.was).hard.log).map encEnt), .arr 3 1 (((same s.was).yes).map encI), .arr 3 1 (((same s.was).next).map encI), .arr 3 1 (((same s.was).match_).map encI), .arr 47 10 [], .arr 51 17 []] := by
 obtain ⟨z1, z2, z3, z4⟩ := id hz
 refine FnSpec.of 17 Tryz.func88 rfl Tryz.ntmps88 (by simp) (AW.weakK ?_)
 refine AW.q 3 ?_
 refine AW.seq ?_
 refine AW.seq ?_
 refine AW.weak (Sub.nils [⟨true, 102, some 6, 5001, 45, 6⟩, ⟨true, 102, some 7, 5002, 3, 1⟩, ⟨true, 102, some 8, 5003, 3, 1⟩, ⟨true, 102, some 9, 5004, 3, 1⟩] (by kernel_rfl)) ?_
 refine AW.g ?_
 refine At.a 4 ?_
 refine At.c (impl_RaftOk_spec  s.was hz) Tryz.call19 true [] [] [] trivial ?_
 refine At.z 1 ?_
 refine AW.cNB (raftOk s.was) (fun h1 => ?_) (fun h1 => ?_)
 · refine AW.q 4 ?_
   refine AW.ret ?_
   refine ⟨_, Sub.nils [⟨true, 102, some 6, 5005, 45, 6⟩, ⟨true, 102, some 7, 5006, 3, 1⟩, ⟨true, 102, some 8, 5007, 3, 1⟩, ⟨true, 102, some 9, 5008, 3, 1⟩, ⟨false, 3, none, 5009, 47, 10⟩, ⟨false, 4, none, 5010, 51, 17⟩] (by kernel_rfl), ?_⟩
   exact k1 (K_impl_stepper_none _ s) (show ((⟨0, 0, 0, 0, ⟨0, 0, []⟩, [], [], []⟩ : Raft)) = (same s.was) from by simp only [same, h1, if_true] <;> rfl) (KF.n [(0, 0), (1, 1), (2, 2), (3, 3), (4, 4), (5, 5), (6, 6), (5005, 7), (5006, 8), (5007, 9), (5008, 10), (5009, 11), (5010, 12)])
 have h1n := raftOk1_nums (raftOk_1 h1)
 refine AW.skip ?_
 refine AW.r ?_
 refine At.a 4 ?_
 refine At.c (impl_copyRaft_spec  s.was hz) Tryz.call157 true [] [(1320, 0), (1321, 1), (1322, 2), (1323, 3)] [] trivial ?_
 refine At.z 3 ?_
 refine AW.ret ?_
 refine ⟨_, Sub.nils [⟨false, 3, none, 5011, 47, 10⟩, ⟨false, 4, none, 5012, 51, 17⟩] (by kernel_rfl), ?_⟩
 exact k1 (K_impl_stepper_none _ s) (show (s.was) = (same s.was) from by simp only [same, h1, if_true] <;> rfl) (KF.n [(0, 0), (1, 1), (2, 2), (3, 3), (4, 4), (5, 5), (6, 6), (1320, 7), (1321, 8), (1322, 9), (1323, 10), (5011, 11), (5012, 12)])
theorem impl_stepper_none_T_spec  (s : Stepper) (hz : SmallR s.was) (hok : raftOk s.was = true) : FnSpec Tryz.prog 88 [.ptr 0 0 0] [.box 102 [.int .i64 s.r.id, .int .i64 s.r.of_, .int .i64 s.r.role, .int .i64 s.r.commit, .int .i64 s.r.hard.term, .int .i64 s.r.hard.vote, .ref 1, .ref 2, .ref 3, .ref 4, .int .i64 s.was.id, .int .i64 s.was.of_, .int .i64 s.was.role, .int .i64 s.was.commit, .int .i64 s.was.hard.term, .int .i64 s.was.hard.vote, .sl false 6 (s.was.hard.log.map encEnt), .sl false 1 (s.was.yes.map encI), .sl false 1 (s.was.next.map encI), .sl false 1 (s.was.match_.map encI), .ref 5, .ref 6], .arr 45 6 (s.r.hard.log.map encEnt), .arr 3 1 (s.r.yes.map encI), .arr 3 1 (s.r.next.map encI), .arr 3 1 (s.r.match_.map encI), .arr 47 10 (s.recs.map encRec), .arr 51 17 (s.outs.map encOut)] (.tup [.agg [.int .i64 s.was.id, .int .i64 s.was.of_, .int .i64 s.was.role, .int .i64 s.was.commit, .int .i64 s.was.hard.term, .int .i64 s.was.hard.vote, .ref 7, .ref 8, .ref 9, .ref 10], .ref 11, .ref 12]) [.box 102 [.int .i64 s.r.id, .int .i64 s.r.of_, .int .i64 s.r.role, .int .i64 s.r.commit, .int .i64 s.r.hard.term, .int .i64 s.r.hard.vote, .ref 1, .ref 2, .ref 3, .ref 4, .int .i64 s.was.id, .int .i64 s.was.of_, .int .i64 s.was.role, .int .i64 s.was.commit, .int .i64 s.was.hard.term, .int .i64 s.was.hard.vote, .sl false 6 (s.was.hard.log.map encEnt), .sl false 1 (s.was.yes.map encI), .sl false 1 (s.was.next.map encI), .sl false 1 (s.was.match_.map encI), .ref 5, .ref 6], .arr 45 6 (s.r.hard.log.map encEnt), .arr 3 1 (s.r.yes.map encI), .arr 3 1 (s.r.next.map encI), .arr 3 1 (s.r.match_.map encI), .arr 47 10 (s.recs.map encRec), .arr 51 17 (s.outs.map encOut), .arr 45 6 (s.was.hard.log.map encEnt), .arr 3 1 (s.was.yes.map encI), .arr 3 1 (s.was.next.map encI), .arr 3 1 (s.was.match_.map encI), .arr 47 10 [], .arr 51 17 []] := by have := impl_stepper_none_spec s hz; rw [show same s.was = s.was from if_pos hok] at this; exact this
theorem impl_stepper_none_F_spec  (s : Stepper) (hz : SmallR s.was) (hok : ¬ raftOk s.was = true) : FnSpec Tryz.prog 88 [.ptr 0 0 0] [.box 102 [.int .i64 s.r.id, .int .i64 s.r.of_, .int .i64 s.r.role, .int .i64 s.r.commit, .int .i64 s.r.hard.term, .int .i64 s.r.hard.vote, .ref 1, .ref 2, .ref 3, .ref 4, .int .i64 s.was.id, .int .i64 s.was.of_, .int .i64 s.was.role, .int .i64 s.was.commit, .int .i64 s.was.hard.term, .int .i64 s.was.hard.vote, .sl false 6 (s.was.hard.log.map encEnt), .sl false 1 (s.was.yes.map encI), .sl false 1 (s.was.next.map encI), .sl false 1 (s.was.match_.map encI), .ref 5, .ref 6], .arr 45 6 (s.r.hard.log.map encEnt), .arr 3 1 (s.r.yes.map encI), .arr 3 1 (s.r.next.map encI), .arr 3 1 (s.r.match_.map encI), .arr 47 10 (s.recs.map encRec), .arr 51 17 (s.outs.map encOut)] (.tup [.agg [.int .i64 0, .int .i64 0, .int .i64 0, .int .i64 0, .int .i64 0, .int .i64 0, .ref 7, .ref 8, .ref 9, .ref 10], .ref 11, .ref 12]) [.box 102 [.int .i64 s.r.id, .int .i64 s.r.of_, .int .i64 s.r.role, .int .i64 s.r.commit, .int .i64 s.r.hard.term, .int .i64 s.r.hard.vote, .ref 1, .ref 2, .ref 3, .ref 4, .int .i64 s.was.id, .int .i64 s.was.of_, .int .i64 s.was.role, .int .i64 s.was.commit, .int .i64 s.was.hard.term, .int .i64 s.was.hard.vote, .sl false 6 (s.was.hard.log.map encEnt), .sl false 1 (s.was.yes.map encI), .sl false 1 (s.was.next.map encI), .sl false 1 (s.was.match_.map encI), .ref 5, .ref 6], .arr 45 6 (s.r.hard.log.map encEnt), .arr 3 1 (s.r.yes.map encI), .arr 3 1 (s.r.next.map encI), .arr 3 1 (s.r.match_.map encI), .arr 47 10 (s.recs.map encRec), .arr 51 17 (s.outs.map encOut), .arr 45 6 [], .arr 3 1 [], .arr 3 1 [], .arr 3 1 [], .arr 47 10 [], .arr 51 17 []] := by have := impl_stepper_none_spec s hz; rw [show same s.was = zRaft from if_neg hok] at this; exact this
theorem impl_stepper_got_spec  (s : Stepper) (to : Int) (yes : Bool) (at_ : Int) (ho : s.outs.length ≤ 1000) : FnSpec Tryz.prog 89 [.ptr 0 0 0, .int .i64 to, .bool yes, .int .i64 at_] [.box 102 [.int .i64 s.r.id, .int .i64 s.r.of_, .int .i64 s.r.role, .int .i64 s.r.commit, .int .i64 s.r.hard.term, .int .i64 s.r.hard.vote, .ref 1, .ref 2, .ref 3, .ref 4, .int .i64 s.was.id, .int .i64 s.was.of_, .int .i64 s.was.role, .int .i64 s.was.commit, .int .i64 s.was.hard.term, .int .i64 s.was.hard.vote, .sl false 6 (s.was.hard.log.map encEnt), .sl false 1 (s.was.yes.map encI), .sl false 1 (s.was.next.map encI), .sl false 1 (s.was.match_.map encI), .ref 5, .ref 6], .arr 45 6 (s.r.hard.log.map encEnt), .arr 3 1 (s.r.yes.map encI), .arr 3 1 (s.r.next.map encI), .arr 3 1 (s.r.match_.map encI), .arr 47 10 (s.recs.map encRec), .arr 51 17 (s.outs.map encOut)] (.tup []) [.box 102 [.int .i64 s.r.id, .int .i64 s.r.of_, .int .i64 s.r.role, .int .i64 s.r.commit, .int .i64 s.r.hard.term, .int .i64 s.r.hard.vote, .ref 1, .ref 2, .ref 3, .ref 4, .int .i64 s.was.id, .int .i64 s.was.of_, .int .i64 s.was.role, .int .i64 s.was.commit, .int .i64 s.was.hard.term, .int .i64 s.was.hard.vote, .sl false 6 (s.was.hard.log.map encEnt), .sl false 1 (s.was.yes.map encI), .sl false 1 (s.was.next.map encI), .sl false 1 (s.was.match_.map encI), .ref 5, .ref 7], .arr 45 6 (s.r.hard.log.map encEnt), .arr 3 1 (s.r.yes.map encI), .arr 3 1 (s.r.next.map encI), .arr 3 1 (s.r.match_.map encI), .arr 47 10 (s.recs.map encRec), .dead, .arr 51 17 ((s.outs ++ [(⟨to, ⟨4, s.r.id, s.r.hard.term, at_, 0, 0, yes, 0, 0, ⟨#[]⟩, ⟨0, 0, 0, 0, ⟨#[]⟩⟩, []⟩⟩ : Out)]).map encOut)] := by
 refine FnSpec.of 27 Tryz.func89 rfl Tryz.ntmps89 (by simp) (AW.weakK ?_)
 refine AW.r ?_
 refine At.a 1 ?_
 refine At.c (impl_stepper_message_spec  s 4 ) Tryz.call114 true [(0, 0), (1, 1), (2, 2), (3, 3), (4, 4), (5, 5), (6, 6)] [(1200, 7)] [] trivial ?_
 refine At.z 2 ?_
 refine AW.q 6 ?_
 refine AW.gD Tryz_mix ?_
 refine At.a 8 ?_
 refine At.lk 23 51 17 123 (45, 6) [1200] (([(⟨to, ⟨4, s.r.id, s.r.hard.term, at_, 0, 0, yes, 0, 0, ⟨#[]⟩, ⟨0, 0, 0, 0, ⟨#[]⟩⟩, []⟩⟩ : Out)]).map encOut) [(45, 6, [])] (by intro p hp; simp only [List.mem_cons, List.not_mem_nil, or_false] at hp; subst hp; all_goals first | exact flatEnts | exact flatInts | (intro x hx; cases hx)) ?_
 refine At.apK 24 51 17 168 124 6 123 encOut s.outs ([(⟨to, ⟨4, s.r.id, s.r.hard.term, at_, 0, 0, yes, 0, 0, ⟨#[]⟩, ⟨0, 0, 0, 0, ⟨#[]⟩⟩, []⟩⟩ : Out)]) (by simp only [List.length_map, List.length_append, List.length_take, List.length_drop, List.length_replicate, List.length_set, List.length_cons, List.length_nil]; omega) ?_
 refine At.zD 3 ?_
 refine ⟨_, Sub.refl _ _, ?_⟩
 refine KF.conv (fun w => .tup []) (fun w => [.box 102 [.int .i64 w.r.id, .int .i64 w.r.of_, .int .i64 w.r.role, .int .i64 w.r.commit, .int .i64 w.r.hard.term, .int .i64 w.r.hard.vote, .ref 1, .ref 2, .ref 3, .ref 4, .int .i64 w.was.id, .int .i64 w.was.of_, .int .i64 w.was.role, .int .i64 w.was.commit, .int .i64 w.was.hard.term, .int .i64 w.was.hard.vote, .sl false 6 (w.was.hard.log.map encEnt), .sl false 1 (w.was.yes.map encI), .sl false 1 (w.was.next.map encI), .sl false 1 (w.was.match_.map encI), .ref 5, .ref 7], .arr 45 6 (w.r.hard.log.map encEnt), .arr 3 1 (w.r.yes.map encI), .arr 3 1 (w.r.next.map encI), .arr 3 1 (w.r.match_.map encI), .arr 47 10 (w.recs.map encRec), .dead, .arr 51 17 (w.outs.map encOut)]) (show ((⟨s.r, s.was, s.recs, s.outs ++ ([(⟨to, ⟨4, s.r.id, s.r.hard.term, at_, 0, 0, yes, 0, 0, ⟨#[]⟩, ⟨0, 0, 0, 0, ⟨#[]⟩⟩, []⟩⟩ : Out)])⟩ : Stepper)) = (({ s with outs := s.outs ++ [(⟨to, ⟨4, s.r.id, s.r.hard.term, at_, 0, 0, yes, 0, 0, ⟨#[]⟩, ⟨0, 0, 0, 0, ⟨#[]⟩⟩, []⟩⟩ : Out)] } : Stepper)) from rfl) ?_
 exact KF.n [(0, 0), (1, 1), (2, 2), (3, 3), (4, 4), (5, 5), (6, 6), (124, 7)]
def K_impl_stepper_end (rs : List ResultVar) (s : Stepper) (w0_ : List Rec) : Exit → Sg → Prop := KF Tryz.prog 7 rs (.tup [.agg [.int .i64 s.r.id, .int .i64 s.r.of_, .int .i64 s.r.role, .int .i64 s.r.commit, .int .i64 s.r.hard.term, .int .i64 s.r.hard.vote, .ref 1, .ref 2, .ref 3, .ref 4], .ref 7, .ref 6]) [.box 102 [.int .i64 s.r.id, .int .i64 s.r.of_, .int .i64 s.r.role, .int .i64 s.r.commit, .int .i64 s.r.hard.term, .int .i64 s.r.hard.vote, .ref 1, .ref 2, .ref 3, .ref 4, .int .i64 s.was.id, .int .i64 s.was.of_, .int .i64 s.was.role, .int .i64 s.was.commit, .int .i64 s.was.hard.term, .int .i64 s.was.hard.vote, .sl false 6 (s.was.hard.log.map encEnt), .sl false 1 (s.was.yes.map encI), .sl false 1 (s.was.next.map encI), .sl false 1 (s.was.match_.map encI), .un, .ref 6], .arr 45 6 (s.r.hard.log.map encEnt), .arr 3 1 (s.r.yes.map encI), .arr 3 1 (s.r.next.map encI), .arr 3 1 (s.r.match_.map encI), .dead, .arr 51 17 (s.outs.map encOut), .arr 47 10 (w0_.map encRec)]
theorem impl_stepper_end_spec  (s : Stepper) (hr : s.recs.length ≤ 1048576) : FnSpec Tryz.prog 90 [.ptr 0 0 0] [.box 102 [.int .i64 s.r.id, .int .i64 s.r.of_, .int .i64 s.r.role, .int .i64 s.r.commit, .int .i64 s.r.hard.term, .int .i64 s.r.hard.vote, .ref 1, .ref 2, .ref 3, .ref 4, .int .i64 s.was.id, .int .i64 s.was.of_, .int .i64 s.was.role, .int .i64 s.was.commit, .int .i64 s.was.hard.term, .int .i64 s.was.hard.vote, .sl false 6 (s.was.hard.log.map encEnt), .sl false 1 (s.was.yes.map encI), .sl false 1 (s.was.next.map encI), .sl false 1 (s.was.match_.map encI), .ref 5, .ref 6], .arr 45 6 (s.r.hard.log.map encEnt), .arr 3 1 (s.r.yes.map encI), .arr 3 1 (s.r.next.map encI), .arr 3 1 (s.r.match_.map encI), .arr 47 10 (s.recs.map encRec), .arr 51 17 (s.outs.map encOut)] (.tup [.agg [.int .i64 s.r.id, .int .i64 s.r.of_, .int .i64 s.r.role, .int .i64 s.r.commit, .int .i64 s.r.hard.term, .int .i64 s.r.hard.vote, .ref 1, .ref 2, .ref 3, .ref 4], .ref 7, .ref 6]) [.box 102 [.int .i64 s.r.id, .int .i64 s.r.of_, .int .i64 s.r.role, .int .i64 s.r.commit, .int .i64 s.r.hard.term, .int .i64 s.r.hard.vote, .ref 1, .ref 2, .ref 3, .ref 4, .int .i64 s.was.id, .int .i64 s.was.of_, .int .i64 s.was.role, .int .i64 s.was.commit, .int .i64 s.was.hard.term, .int .i64 s.was.hard.vote, .sl false 6 (s.was.hard.log.map encEnt), .sl false 1 (s.was.yes.map encI), .sl false 1 (s.was.next.map encI), .sl false 1 (s.was.match_.map encI), .un, .ref 6], .arr 45 6 (s.r.hard.log.map encEnt), .arr 3 1 (s.r.yes.map encI), .arr 3 1 (s.r.next.map encI), .arr 3 1 (s.r.match_.map encI), .dead, .arr 51 17 (s.outs.map encOut), .arr 47 10 ((endRecs s).map encRec)] := by
 refine FnSpec.of 60 Tryz.func90 rfl Tryz.ntmps90 (by simp) (AW.weakK ?_)
 refine AW.q 3 ?_
 refine AW.seq ?_
 refine AW.weak (Sub.nils [⟨true, 102, some 6, 5001, 45, 6⟩, ⟨true, 102, some 7, 5002, 3, 1⟩, ⟨true, 102, some 8, 5003, 3, 1⟩, ⟨true, 102, some 9, 5004, 3, 1⟩] (by kernel_rfl)) ?_
 refine AW.gD Tryz_mix ?_
 refine At.zD 14 ?_
 refine AW.seq ?_
 refine AW.r ?_
 refine At.a 6 ?_
 by_cases h1 : s.r.hard.term = s.was.hard.term
 · refine At.sB 22 _ _ (sayET h1) ?_
   refine At.z 6 ?_
   refine AW.cE s.r.hard.vote s.was.hard.vote (fun h2 => ?_) (fun h2 => ?_)
   · refine AW.seq ?_
     refine AW.gD Tryz_mix ?_
     refine At.zD 15 ?_
     refine AW.ret ?_
     refine ⟨_, (Sub.trans (Sub.trans (Sub.refl _ _) (Sub.mv 5 8005 (by kernel_rfl) (by decide))) (Sub.un1 0 20 102 [.int .i64 s.r.id, .int .i64 s.r.of_, .int .i64 s.r.role, .int .i64 s.r.commit, .int .i64 s.r.hard.term, .int .i64 s.r.hard.vote, .ref 1, .ref 2, .ref 3, .ref 4, .int .i64 s.was.id, .int .i64 s.was.of_, .int .i64 s.was.role, .int .i64 s.was.commit, .int .i64 s.was.hard.term, .int .i64 s.was.hard.vote, .sl false 6 (s.was.hard.log.map encEnt), .sl false 1 (s.was.yes.map encI), .sl false 1 (s.was.next.map encI), .sl false 1 (s.was.match_.map encI), .ref 8005, .ref 6] (by kernel_rfl))), ?_⟩
     exact k1 (K_impl_stepper_end _ s) (show (s.recs) = (endRecs s) from by simp [endRecs, voteRec, h1, h2]; try rfl) (KF.n [(0, 0), (1, 1), (2, 2), (3, 3), (4, 4), (5, 5), (6, 6), (8005, 7)])
   refine AW.skip ?_
   refine AW.seq ?_
   refine AW.gD Tryz_mix ?_
   refine At.a 9 ?_
   refine At.ll 50 47 10 150 (45, 6) (([(⟨1, s.r.hard.term, s.r.hard.vote, 0, ⟨0, ⟨0, 0, 0, 0, (⟨#[]⟩ : ByteArray)⟩⟩⟩ : Rec)]).map encRec) ?_
   refine At.a 4 ?_
   refine At.apC 55 47 10 88 155 150 5 encRec ([(⟨1, s.r.hard.term, s.r.hard.vote, 0, ⟨0, ⟨0, 0, 0, 0, (⟨#[]⟩ : ByteArray)⟩⟩⟩ : Rec)]) s.recs (by simp only [List.length_map, List.length_append, List.length_take, List.length_drop, List.length_replicate, List.length_set, List.length_cons, List.length_nil]; omega) (allP_encRec _) ?_
   refine At.zD 7 ?_
   refine AW.ret ?_
   refine ⟨_, (Sub.trans (Sub.trans (Sub.refl _ _) (Sub.mv 5 8005 (by kernel_rfl) (by decide))) (Sub.un1 0 20 102 [.int .i64 s.r.id, .int .i64 s.r.of_, .int .i64 s.r.role, .int .i64 s.r.commit, .int .i64 s.r.hard.term, .int .i64 s.r.hard.vote, .ref 1, .ref 2, .ref 3, .ref 4, .int .i64 s.was.id, .int .i64 s.was.of_, .int .i64 s.was.role, .int .i64 s.was.commit, .int .i64 s.was.hard.term, .int .i64 s.was.hard.vote, .sl false 6 (s.was.hard.log.map encEnt), .sl false 1 (s.was.yes.map encI), .sl false 1 (s.was.next.map encI), .sl false 1 (s.was.match_.map encI), .ref 8005, .ref 6] (by kernel_rfl))), ?_⟩
   exact k1 (K_impl_stepper_end _ s) (show (([(⟨1, s.r.hard.term, s.r.hard.vote, 0, ⟨0, ⟨0, 0, 0, 0, (⟨#[]⟩ : ByteArray)⟩⟩⟩ : Rec)]) ++ s.recs) = (endRecs s) from by simp [endRecs, voteRec, h1, h2]; try rfl) (KF.n [(0, 0), (1, 1), (2, 2), (3, 3), (4, 4), (5, 5), (6, 6), (155, 7)])
 refine At.sB 22 _ _ (sayEF h1) ?_
 refine At.z 6 ?_
 refine AW.cond false (by kernel_rfl) (fun h => by cases h) (fun _ => ?_)
 refine AW.skip ?_
 refine AW.seq ?_
 refine AW.gD Tryz_mix ?_
 refine At.a 9 ?_
 refine At.ll 50 47 10 150 (45, 6) (([(⟨1, s.r.hard.term, s.r.hard.vote, 0, ⟨0, ⟨0, 0, 0, 0, (⟨#[]⟩ : ByteArray)⟩⟩⟩ : Rec)]).map encRec) ?_
 refine At.a 4 ?_
 refine At.apC 55 47 10 88 155 150 5 encRec ([(⟨1, s.r.hard.term, s.r.hard.vote, 0, ⟨0, ⟨0, 0, 0, 0, (⟨#[]⟩ : ByteArray)⟩⟩⟩ : Rec)]) s.recs (by simp only [List.length_map, List.length_append, List.length_take, List.length_drop, List.length_replicate, List.length_set, List.length_cons, List.length_nil]; omega) (allP_encRec _) ?_
 refine At.zD 7 ?_
 refine AW.ret ?_
 refine ⟨_, (Sub.trans (Sub.trans (Sub.refl _ _) (Sub.mv 5 8005 (by kernel_rfl) (by decide))) (Sub.un1 0 20 102 [.int .i64 s.r.id, .int .i64 s.r.of_, .int .i64 s.r.role, .int .i64 s.r.commit, .int .i64 s.r.hard.term, .int .i64 s.r.hard.vote, .ref 1, .ref 2, .ref 3, .ref 4, .int .i64 s.was.id, .int .i64 s.was.of_, .int .i64 s.was.role, .int .i64 s.was.commit, .int .i64 s.was.hard.term, .int .i64 s.was.hard.vote, .sl false 6 (s.was.hard.log.map encEnt), .sl false 1 (s.was.yes.map encI), .sl false 1 (s.was.next.map encI), .sl false 1 (s.was.match_.map encI), .ref 8005, .ref 6] (by kernel_rfl))), ?_⟩
 exact k1 (K_impl_stepper_end _ s) (show (([(⟨1, s.r.hard.term, s.r.hard.vote, 0, ⟨0, ⟨0, 0, 0, 0, (⟨#[]⟩ : ByteArray)⟩⟩⟩ : Rec)]) ++ s.recs) = (endRecs s) from by simp [endRecs, voteRec, h1]; try rfl) (KF.n [(0, 0), (1, 1), (2, 2), (3, 3), (4, 4), (5, 5), (6, 6), (155, 7)])
theorem impl_stepper_follow_spec  (s : Stepper) : FnSpec Tryz.prog 92 [.ptr 0 0 0] [.box 102 [.int .i64 s.r.id, .int .i64 s.r.of_, .int .i64 s.r.role, .int .i64 s.r.commit, .int .i64 s.r.hard.term, .int .i64 s.r.hard.vote, .ref 1, .ref 2, .ref 3, .ref 4, .int .i64 s.was.id, .int .i64 s.was.of_, .int .i64 s.was.role, .int .i64 s.was.commit, .int .i64 s.was.hard.term, .int .i64 s.was.hard.vote, .sl false 6 (s.was.hard.log.map encEnt), .sl false 1 (s.was.yes.map encI), .sl false 1 (s.was.next.map encI), .sl false 1 (s.was.match_.map encI), .ref 5, .ref 6], .arr 45 6 (s.r.hard.log.map encEnt), .arr 3 1 (s.r.yes.map encI), .arr 3 1 (s.r.next.map encI), .arr 3 1 (s.r.match_.map encI), .arr 47 10 (s.recs.map encRec), .arr 51 17 (s.outs.map encOut)] (.tup []) [.box 102 [.int .i64 s.r.id, .int .i64 s.r.of_, .int .i64 1, .int .i64 s.r.commit, .int .i64 s.r.hard.term, .int .i64 s.r.hard.vote, .ref 1, .ref 7, .ref 8, .ref 9, .int .i64 s.was.id, .int .i64 s.was.of_, .int .i64 s.was.role, .int .i64 s.was.commit, .int .i64 s.was.hard.term, .int .i64 s.was.hard.vote, .sl false 6 (s.was.hard.log.map encEnt), .sl false 1 (s.was.yes.map encI), .sl false 1 (s.was.next.map encI), .sl false 1 (s.was.match_.map encI), .ref 5, .ref 6], .arr 45 6 (s.r.hard.log.map encEnt), .dead, .dead, .dead, .arr 47 10 (s.recs.map encRec), .arr 51 17 (s.outs.map encOut), .arr 3 1 [], .arr 3 1 [], .arr 3 1 []] := by
 refine FnSpec.of 18 Tryz.func92 rfl Tryz.ntmps92 (by simp) (AW.weakK ?_)
 refine AW.gq 20 ?_
 refine ⟨_, (Sub.trans (Sub.trans (Sub.trans (Sub.nils [⟨true, 0, some 7, 5001, 3, 1⟩, ⟨true, 0, some 8, 5002, 3, 1⟩, ⟨true, 0, some 9, 5003, 3, 1⟩] (by kernel_rfl)) (Sub.mv 2 8002 (by kernel_rfl) (by decide))) (Sub.mv 3 8003 (by kernel_rfl) (by decide))) (Sub.mv 4 8004 (by kernel_rfl) (by decide))), ?_⟩
 refine KF.conv (fun w => .tup []) (fun w => [.box 102 [.int .i64 w.r.id, .int .i64 w.r.of_, .int .i64 w.r.role, .int .i64 w.r.commit, .int .i64 w.r.hard.term, .int .i64 w.r.hard.vote, .ref 1, .ref 7, .ref 8, .ref 9, .int .i64 w.was.id, .int .i64 w.was.of_, .int .i64 w.was.role, .int .i64 w.was.commit, .int .i64 w.was.hard.term, .int .i64 w.was.hard.vote, .sl false 6 (w.was.hard.log.map encEnt), .sl false 1 (w.was.yes.map encI), .sl false 1 (w.was.next.map encI), .sl false 1 (w.was.match_.map encI), .ref 5, .ref 6], .arr 45 6 (w.r.hard.log.map encEnt), .dead, .dead, .dead, .arr 47 10 (w.recs.map encRec), .arr 51 17 (w.outs.map encOut), .arr 3 1 (w.r.yes.map encI), .arr 3 1 (w.r.next.map encI), .arr 3 1 (w.r.match_.map encI)]) (show ((⟨⟨s.r.id, s.r.of_, 1, s.r.commit, ⟨s.r.hard.term, s.r.hard.vote, s.r.hard.log⟩, [], [], []⟩, s.was, s.recs, s.outs⟩ : Stepper)) = (({ s with r := ({ s.r with role := 1, yes := [], next := [], match_ := [] } : Raft) } : Stepper)) from by simp_all) ?_
 exact KF.n [(0, 0), (1, 1), (2, 2), (3, 3), (4, 4), (5, 5), (6, 6), (5001, 7), (5002, 8), (5003, 9)]
theorem impl_stepper_followTerm_T_spec  (s : Stepper) (t_ : Int) (ht : t_ ≤ s.r.hard.term) : FnSpec Tryz.prog 91 [.ptr 0 0 0, .int .i64 t_] [.box 102 [.int .i64 s.r.id, .int .i64 s.r.of_, .int .i64 s.r.role, .int .i64 s.r.commit, .int .i64 s.r.hard.term, .int .i64 s.r.hard.vote, .ref 1, .ref 2, .ref 3, .ref 4, .int .i64 s.was.id, .int .i64 s.was.of_, .int .i64 s.was.role, .int .i64 s.was.commit, .int .i64 s.was.hard.term, .int .i64 s.was.hard.vote, .sl false 6 (s.was.hard.log.map encEnt), .sl false 1 (s.was.yes.map encI), .sl false 1 (s.was.next.map encI), .sl false 1 (s.was.match_.map encI), .ref 5, .ref 6], .arr 45 6 (s.r.hard.log.map encEnt), .arr 3 1 (s.r.yes.map encI), .arr 3 1 (s.r.next.map encI), .arr 3 1 (s.r.match_.map encI), .arr 47 10 (s.recs.map encRec), .arr 51 17 (s.outs.map encOut)] (.bool false) [.box 102 [.int .i64 s.r.id, .int .i64 s.r.of_, .int .i64 s.r.role, .int .i64 s.r.commit, .int .i64 s.r.hard.term, .int .i64 s.r.hard.vote, .ref 1, .ref 2, .ref 3, .ref 4, .int .i64 s.was.id, .int .i64 s.was.of_, .int .i64 s.was.role, .int .i64 s.was.commit, .int .i64 s.was.hard.term, .int .i64 s.was.hard.vote, .sl false 6 (s.was.hard.log.map encEnt), .sl false 1 (s.was.yes.map encI), .sl false 1 (s.was.next.map encI), .sl false 1 (s.was.match_.map encI), .ref 5, .ref 6], .arr 45 6 (s.r.hard.log.map encEnt), .arr 3 1 (s.r.yes.map encI), .arr 3 1 (s.r.next.map encI), .arr 3 1 (s.r.match_.map encI), .arr 47 10 (s.recs.map encRec), .arr 51 17 (s.outs.map encOut)] := by
 refine FnSpec.of 26 Tryz.func91 rfl Tryz.ntmps91 (by simp) (AW.weakK ?_)
 refine AW.q 1 ?_
 refine AW.seq ?_
 refine AW.q 8 ?_
 refine AW.condT (decide (t_ ≤ s.r.hard.term)) (by kernel_rfl) (decide_eq_true ht) ?_
 refine AW.q 1 ?_
 exact AW.ret (rf (KF.n [(0, 0), (1, 1), (2, 2), (3, 3), (4, 4), (5, 5), (6, 6)]))
theorem impl_stepper_followTerm_F_spec  (s : Stepper) (t_ : Int) (ht : ¬ t_ ≤ s.r.hard.term) : FnSpec Tryz.prog 91 [.ptr 0 0 0, .int .i64 t_] [.box 102 [.int .i64 s.r.id, .int .i64 s.r.of_, .int .i64 s.r.role, .int .i64 s.r.commit, .int .i64 s.r.hard.term, .int .i64 s.r.hard.vote, .ref 1, .ref 2, .ref 3, .ref 4, .int .i64 s.was.id, .int .i64 s.was.of_, .int .i64 s.was.role, .int .i64 s.was.commit, .int .i64 s.was.hard.term, .int .i64 s.was.hard.vote, .sl false 6 (s.was.hard.log.map encEnt), .sl false 1 (s.was.yes.map encI), .sl false 1 (s.was.next.map encI), .sl false 1 (s.was.match_.map encI), .ref 5, .ref 6], .arr 45 6 (s.r.hard.log.map encEnt), .arr 3 1 (s.r.yes.map encI), .arr 3 1 (s.r.next.map encI), .arr 3 1 (s.r.match_.map encI), .arr 47 10 (s.recs.map encRec), .arr 51 17 (s.outs.map encOut)] (.bool true) [.box 102 [.int .i64 s.r.id, .int .i64 s.r.of_, .int .i64 1, .int .i64 s.r.commit, .int .i64 t_, .int .i64 0, .ref 1, .ref 7, .ref 8, .ref 9, .int .i64 s.was.id, .int .i64 s.was.of_, .int .i64 s.was.role, .int .i64 s.was.commit, .int .i64 s.was.hard.term, .int .i64 s.was.hard.vote, .sl false 6 (s.was.hard.log.map encEnt), .sl false 1 (s.was.yes.map encI), .sl false 1 (s.was.next.map encI), .sl false 1 (s.was.match_.map encI), .ref 5, .ref 6], .arr 45 6 (s.r.hard.log.map encEnt), .dead, .dead, .dead, .arr 47 10 (s.recs.map encRec), .arr 51 17 (s.outs.map encOut), .arr 3 1 [], .arr 3 1 [], .arr 3 1 []] := by
 refine FnSpec.of 26 Tryz.func91 rfl Tryz.ntmps91 (by simp) (AW.weakK ?_)
 refine AW.q 1 ?_
 refine AW.seq ?_
 refine AW.q 8 ?_
 refine AW.condF (decide (t_ ≤ s.r.hard.term)) (by kernel_rfl) (decide_eq_false ht) ?_
 refine AW.skip ?_
 refine AW.r ?_
 refine At.a 1 ?_
 refine At.c (impl_stepper_follow_spec  s ) Tryz.call92 true [(0, 0), (1, 1), (2, 2), (3, 3), (4, 4), (5, 5), (6, 6)] [(1280, 7), (1281, 8), (1282, 9)] [] trivial ?_
 refine At.done rfl ?_
 refine AW.q 13 ?_
 refine AW.q 1 ?_
 refine AW.ret ?_
 refine ⟨_, Sub.refl _ _, ?_⟩
 refine KF.conv (fun w => .bool true) (fun w => [.box 102 [.int .i64 w.r.id, .int .i64 w.r.of_, .int .i64 w.r.role, .int .i64 w.r.commit, .int .i64 w.r.hard.term, .int .i64 w.r.hard.vote, .ref 1, .ref 7, .ref 8, .ref 9, .int .i64 w.was.id, .int .i64 w.was.of_, .int .i64 w.was.role, .int .i64 w.was.commit, .int .i64 w.was.hard.term, .int .i64 w.was.hard.vote, .sl false 6 (w.was.hard.log.map encEnt), .sl false 1 (w.was.yes.map encI), .sl false 1 (w.was.next.map encI), .sl false 1 (w.was.match_.map encI), .ref 5, .ref 6], .arr 45 6 (w.r.hard.log.map encEnt), .dead, .dead, .dead, .arr 47 10 (w.recs.map encRec), .arr 51 17 (w.outs.map encOut), .arr 3 1 (w.r.yes.map encI), .arr 3 1 (w.r.next.map encI), .arr 3 1 (w.r.match_.map encI)]) (show ((⟨⟨s.r.id, s.r.of_, 1, s.r.commit, ⟨t_, 0, s.r.hard.log⟩, [], [], []⟩, s.was, s.recs, s.outs⟩ : Stepper)) = (({ s with r := ({ s.r with role := 1, yes := [], next := [], match_ := [], hard := { s.r.hard with term := t_, vote := 0 } } : Raft) } : Stepper)) from by simp_all) ?_
 exact KF.n [(0, 0), (1, 1), (2, 2), (3, 3), (4, 4), (5, 5), (6, 6), (1280, 7), (1281, 8), (1282, 9)]
theorem impl_stepper_put_spec  (s : Stepper) (e : Ent) (hl : s.r.hard.log.length ≤ 1048576) (hr : s.recs.length ≤ 1048576) : FnSpec Tryz.prog 102 [.ptr 0 0 0, .agg [.int .i64 e.term, .int .i64 e.cmd.kind, .int .i64 e.cmd.release, .int .i64 e.cmd.node, .int .i64 e.cmd.size, .str e.cmd.digest]] [.box 102 [.int .i64 s.r.id, .int .i64 s.r.of_, .int .i64 s.r.role, .int .i64 s.r.commit, .int .i64 s.r.hard.term, .int .i64 s.r.hard.vote, .ref 1, .ref 2, .ref 3, .ref 4, .int .i64 s.was.id, .int .i64 s.was.of_, .int .i64 s.was.role, .int .i64 s.was.commit, .int .i64 s.was.hard.term, .int .i64 s.was.hard.vote, .sl false 6 (s.was.hard.log.map encEnt), .sl false 1 (s.was.yes.map encI), .sl false 1 (s.was.next.map encI), .sl false 1 (s.was.match_.map encI), .ref 5, .ref 6], .arr 45 6 (s.r.hard.log.map encEnt), .arr 3 1 (s.r.yes.map encI), .arr 3 1 (s.r.next.map encI), .arr 3 1 (s.r.match_.map encI), .arr 47 10 (s.recs.map encRec), .arr 51 17 (s.outs.map encOut)] (.tup []) [.box 102 [.int .i64 s.r.id, .int .i64 s.r.of_, .int .i64 s.r.role, .int .i64 s.r.commit, .int .i64 s.r.hard.term, .int .i64 s.r.hard.vote, .ref 7, .ref 2, .ref 3, .ref 4, .int .i64 s.was.id, .int .i64 s.was.of_, .int .i64 s.was.role, .int .i64 s.was.commit, .int .i64 s.was.hard.term, .int .i64 s.was.hard.vote, .sl false 6 (s.was.hard.log.map encEnt), .sl false 1 (s.was.yes.map encI), .sl false 1 (s.was.next.map encI), .sl false 1 (s.was.match_.map encI), .ref 8, .ref 6], .dead, .arr 3 1 (s.r.yes.map encI), .arr 3 1 (s.r.next.map encI), .arr 3 1 (s.r.match_.map encI), .dead, .arr 51 17 (s.outs.map encOut), .arr 45 6 ((s.r.hard.log ++ [e]).map encEnt), .arr 47 10 ((s.recs ++ [(⟨2, 0, 0, ((s.r.hard.log ++ [e]).length : Int), e⟩ : Rec)]).map encRec)] := by
 refine FnSpec.of 36 Tryz.func102 rfl Tryz.ntmps102 (by simp) (AW.weakK ?_)
 refine AW.q 1 ?_
 refine AW.seq ?_
 refine AW.gD Tryz_mix ?_
 refine At.a 8 ?_
 refine At.ll 12 45 6 112 (45, 6) (([e]).map encEnt) ?_
 refine At.apK 13 45 6 56 113 1 112 encEnt s.r.hard.log ([e]) (by simp only [List.length_map, List.length_append, List.length_take, List.length_drop, List.length_replicate, List.length_set, List.length_cons, List.length_nil]; omega) ?_
 refine At.zD 5 ?_
 refine AW.gD Tryz_mix ?_
 refine At.a 12 ?_
 refine At.sL 29 encEnt (s.r.hard.log ++ ([e])) ?_
 refine At.a 2 ?_
 refine At.ll 32 47 10 132 (45, 6) (([(⟨2, 0, 0, ((s.r.hard.log ++ ([e])).length : Int), e⟩ : Rec)]).map encRec) ?_
 refine At.apK 33 47 10 88 133 5 132 encRec s.recs ([(⟨2, 0, 0, ((s.r.hard.log ++ ([e])).length : Int), e⟩ : Rec)]) (by simp only [List.length_map, List.length_append, List.length_take, List.length_drop, List.length_replicate, List.length_set, List.length_cons, List.length_nil]; omega) ?_
 refine At.zD 3 ?_
 refine ⟨_, Sub.refl _ _, ?_⟩
 refine KF.conv (fun w => .tup []) (fun w => [.box 102 [.int .i64 w.r.id, .int .i64 w.r.of_, .int .i64 w.r.role, .int .i64 w.r.commit, .int .i64 w.r.hard.term, .int .i64 w.r.hard.vote, .ref 7, .ref 2, .ref 3, .ref 4, .int .i64 w.was.id, .int .i64 w.was.of_, .int .i64 w.was.role, .int .i64 w.was.commit, .int .i64 w.was.hard.term, .int .i64 w.was.hard.vote, .sl false 6 (w.was.hard.log.map encEnt), .sl false 1 (w.was.yes.map encI), .sl false 1 (w.was.next.map encI), .sl false 1 (w.was.match_.map encI), .ref 8, .ref 6], .dead, .arr 3 1 (w.r.yes.map encI), .arr 3 1 (w.r.next.map encI), .arr 3 1 (w.r.match_.map encI), .dead, .arr 51 17 (w.outs.map encOut), .arr 45 6 (w.r.hard.log.map encEnt), .arr 47 10 (w.recs.map encRec)]) (show ((⟨⟨s.r.id, s.r.of_, s.r.role, s.r.commit, ⟨s.r.hard.term, s.r.hard.vote, s.r.hard.log ++ ([e])⟩, s.r.yes, s.r.next, s.r.match_⟩, s.was, s.recs ++ ([(⟨2, 0, 0, ((s.r.hard.log ++ ([e])).length : Int), e⟩ : Rec)]), s.outs⟩ : Stepper)) = (({ s with r := ({ s.r with hard := { s.r.hard with log := s.r.hard.log ++ [e] } } : Raft), recs := s.recs ++ [(⟨2, 0, 0, ((s.r.hard.log ++ [e]).length : Int), e⟩ : Rec)] } : Stepper)) from by rfl) ?_
 exact KF.n [(0, 0), (1, 1), (2, 2), (3, 3), (4, 4), (5, 5), (6, 6), (113, 7), (133, 8)]
end Go.Proofs.YtlmadhahghiedaaGreat
