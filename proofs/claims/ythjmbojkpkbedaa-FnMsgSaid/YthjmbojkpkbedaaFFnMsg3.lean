/- The contracts of the functions that FnMsg reaches (each: what it answers, said over values), printed by a program of this session (wip/sy/g/gen.py). -/
import Derived.Test.YthjmbojkpkbedaaFFnMsg2
set_option linter.unusedVariables false
set_option linter.unusedSimpArgs false
set_option maxRecDepth 100000
set_option maxHeartbeats 4000000
namespace Go.Proofs.Ythjmbojkpkbedaa
open Go Go.Sy Go.Proofs
def K_impl_reader_text (rs : List ResultVar) (r : Rd) (w0_ : ByteArray) (w1_ : Rd) : Exit → Sg → Prop := KF Try.prog 1 rs (.str w0_) [.box 70 [.sl false 1 (w1_.b.map encU8), .int .i64 w1_.at_, .bool w1_.bad]]
theorem impl_reader_text_spec  (r : Rd) (hr : RdOk r) : FnSpec Try.prog 77 [.ptr 0 0 0] [.box 70 [.sl false 1 (r.b.map encU8), .int .i64 r.at_, .bool r.bad]] (.str ((rdText r).2)) [.box 70 [.sl false 1 ((((rdText r).1).b).map encU8), .int .i64 (((rdText r).1).at_), .bool (((rdText r).1).bad)]] := by
 obtain ⟨r1, r2, r3⟩ := id hr
 have hgn := getN_num r.b (at_ := r.at_)
 have hn0 := rdNum_in r
 refine FnSpec.of 14 Try.func77 rfl Try.ntmps77 (by simp) (AW.weakK ?_)
 refine AW.q 1 ?_
 refine AW.r ?_
 refine At.a 1 ?_
 refine At.c (impl_reader_num_spec  r (by assumption)) Try.call46 true [(0, 0)] [] [] trivial ?_
 refine At.z 1 ?_
 refine AW.seq ?_
 refine AW.q 2 ?_
 refine AW.cD (((rdNum r).2) > 3000) (fun h1 => ?_) (fun h1 => ?_)
 · refine AW.gq 4 ?_
   refine AW.r ?_
   refine At.a 2 ?_
   refine At.c (impl_reader_bytes_spec  (⟨((rdNum r).1).b, ((rdNum r).1).at_, true⟩ : Rd) ((rdNum r).2) (by exact rdNum_ok hr) (by omega)) Try.call92 true [(0, 0)] [] [] trivial ?_
   refine At.z 1 ?_
   exact AW.ret (rf (k2 (K_impl_reader_text _ r) (show ((rdBytes (⟨((rdNum r).1).b, ((rdNum r).1).at_, true⟩ : Rd) ((rdNum r).2)).2) = ((rdText r).2) from by simp [rdText, h1]) (show (((rdBytes (⟨((rdNum r).1).b, ((rdNum r).1).at_, true⟩ : Rd) ((rdNum r).2)).1)) = ((rdText r).1) from by simp [rdText, h1]) (KF.n [(0, 0)])))
 refine AW.skip ?_
 refine AW.r ?_
 refine At.a 2 ?_
 refine At.c (impl_reader_bytes_spec  ((rdNum r).1) ((rdNum r).2) (by exact rdNum_ok hr) (by omega)) Try.call92 true [(0, 0)] [] [] trivial ?_
 refine At.z 1 ?_
 exact AW.ret (rf (k2 (K_impl_reader_text _ r) (show ((rdBytes ((rdNum r).1) ((rdNum r).2)).2) = ((rdText r).2) from by simp [rdText, h1]) (show (((rdBytes ((rdNum r).1) ((rdNum r).2)).1)) = ((rdText r).1) from by simp [rdText, h1]) (KF.n [(0, 0)])))
def K_impl_reader_cmd (rs : List ResultVar) (r : Rd) (w0_ : Cmd) (w1_ : Rd) : Exit → Sg → Prop := KF Try.prog 1 rs (.agg [.int .i64 w0_.kind, .int .i64 w0_.release, .int .i64 w0_.node, .int .i64 w0_.size, .str w0_.digest]) [.box 70 [.sl false 1 (w1_.b.map encU8), .int .i64 w1_.at_, .bool w1_.bad]]
theorem impl_reader_cmd_spec  (r : Rd) (hr : RdOk r) : FnSpec Try.prog 78 [.ptr 0 0 0] [.box 70 [.sl false 1 (r.b.map encU8), .int .i64 r.at_, .bool r.bad]] (.agg [.int .i64 (((rdCmd r).2).kind), .int .i64 (((rdCmd r).2).release), .int .i64 (((rdCmd r).2).node), .int .i64 (((rdCmd r).2).size), .str (((rdCmd r).2).digest)]) [.box 70 [.sl false 1 ((((rdCmd r).1).b).map encU8), .int .i64 (((rdCmd r).1).at_), .bool (((rdCmd r).1).bad)]] := by
 obtain ⟨r1, r2, r3⟩ := id hr
 have hgn := getN_num r.b (at_ := r.at_)
 refine FnSpec.of 43 Try.func78 rfl Try.ntmps78 (by simp) (AW.weakK ?_)
 refine AW.q 1 ?_
 refine AW.q 3 ?_
 refine AW.r ?_
 refine At.a 1 ?_
 refine At.c (impl_reader_num_spec  r (by assumption)) Try.call46 true [(0, 0)] [] [] trivial ?_
 refine At.z 2 ?_
 refine AW.seq ?_
 refine AW.q 3 ?_
 refine AW.cU ((rdNum r).2) (1 : Int) (fun h1 => ?_) (fun h1 => ?_)
 · refine AW.g ?_
   refine At.a 1 ?_
   refine At.c (impl_reader_num_spec  ((rdNum r).1) (by exact rdNum_ok hr)) Try.call46 true [(0, 0)] [] [] trivial ?_
   refine At.z 2 ?_
   refine AW.seq ?_
   refine AW.q 2 ?_
   refine AW.block ?_
   refine AW.q 2 ?_
   refine AW.cE ((rdNum r).2) (3 : Int) (fun h2 => ?_) (fun h2 => ?_)
   · refine AW.g ?_
     refine At.a 1 ?_
     refine At.c (impl_reader_num_spec  ((rdNum ((rdNum r).1)).1) (by exact rdNum_ok (rdNum_ok hr))) Try.call46 true [(0, 0)] [] [] trivial ?_
     refine At.z 2 ?_
     refine AW.seq ?_
     refine AW.r ?_
     refine At.a 5 ?_
     by_cases h3 : (((rdNum ((rdNum ((rdNum r).1)).1)).1).bad) = true
     · refine At.sB 33 (((rdNum ((rdNum ((rdNum r).1)).1)).1).bad) true (sayB h3) ?_
       refine At.z 4 ?_
       refine AW.cond true (by kernel_rfl) (fun _ => ?_) (fun h => by cases h)
       refine AW.q 4 ?_
       refine AW.q 2 ?_
       exact AW.ret (rf (k2 (K_impl_reader_cmd _ r) (show ((⟨0, 0, 0, 0, (⟨#[]⟩ : ByteArray)⟩ : Cmd)) = ((rdCmd r).2) from by grind [rdCmd, rdCmd0, zCmd]) (show ((⟨((rdNum ((rdNum ((rdNum r).1)).1)).1).b, ((rdNum ((rdNum ((rdNum r).1)).1)).1).at_, true⟩ : Rd)) = ((rdCmd r).1) from by grind [rdCmd, rdCmd0, zCmd]) (KF.n [(0, 0)])))
     refine At.sB 33 (((rdNum ((rdNum ((rdNum r).1)).1)).1).bad) false (sayB (Bool.eq_false_iff.2 h3)) ?_
     replace h3 := Bool.eq_false_iff.2 h3
     refine At.a 1 ?_
     refine At.c (impl_CmdOk_spec  (⟨(rdNum r).2, (rdNum ((rdNum r).1)).2, (rdNum ((rdNum ((rdNum r).1)).1)).2, 0, (⟨#[]⟩ : ByteArray)⟩ : Cmd) ) Try.call88 true [] [] [] trivial ?_
     refine At.z 2 ?_
     refine AW.cNB (cmdOk (⟨(rdNum r).2, (rdNum ((rdNum r).1)).2, (rdNum ((rdNum ((rdNum r).1)).1)).2, 0, (⟨#[]⟩ : ByteArray)⟩ : Cmd)) (fun h4 => ?_) (fun h4 => ?_)
     · refine AW.q 4 ?_
       refine AW.q 2 ?_
       exact AW.ret (rf (k2 (K_impl_reader_cmd _ r) (show ((⟨0, 0, 0, 0, (⟨#[]⟩ : ByteArray)⟩ : Cmd)) = ((rdCmd r).2) from by grind [rdCmd, rdCmd0, zCmd]) (show ((⟨((rdNum ((rdNum ((rdNum r).1)).1)).1).b, ((rdNum ((rdNum ((rdNum r).1)).1)).1).at_, true⟩ : Rd)) = ((rdCmd r).1) from by grind [rdCmd, rdCmd0, zCmd]) (KF.n [(0, 0)])))
     refine AW.skip ?_
     refine AW.q 2 ?_
     exact AW.ret (rf (k2 (K_impl_reader_cmd _ r) (show ((⟨(rdNum r).2, (rdNum ((rdNum r).1)).2, (rdNum ((rdNum ((rdNum r).1)).1)).2, 0, (⟨#[]⟩ : ByteArray)⟩ : Cmd)) = ((rdCmd r).2) from by grind [rdCmd, rdCmd0, zCmd]) (show (((rdNum ((rdNum ((rdNum r).1)).1)).1)) = ((rdCmd r).1) from by grind [rdCmd, rdCmd0, zCmd]) (KF.n [(0, 0)])))
   refine AW.q 2 ?_
   refine AW.cE ((rdNum r).2) (2 : Int) (fun h5 => ?_) (fun h5 => ?_)
   · refine AW.r ?_
     refine At.a 1 ?_
     refine At.c (impl_reader_num_spec  ((rdNum ((rdNum r).1)).1) (by exact rdNum_ok (rdNum_ok hr))) Try.call46 true [(0, 0)] [] [] trivial ?_
     refine At.z 2 ?_
     refine AW.g ?_
     refine At.a 1 ?_
     refine At.c (impl_reader_bytes_spec  ((rdNum ((rdNum ((rdNum r).1)).1)).1) 32 (by exact rdNum_ok (rdNum_ok (rdNum_ok hr))) (by omega)) Try.call92 true [(0, 0)] [] [] trivial ?_
     refine At.z 2 ?_
     refine AW.seq ?_
     refine AW.r ?_
     refine At.a 5 ?_
     by_cases h6 : (((rdBytes ((rdNum ((rdNum ((rdNum r).1)).1)).1) 32).1).bad) = true
     · refine At.sB 33 (((rdBytes ((rdNum ((rdNum ((rdNum r).1)).1)).1) 32).1).bad) true (sayB h6) ?_
       refine At.z 4 ?_
       refine AW.cond true (by kernel_rfl) (fun _ => ?_) (fun h => by cases h)
       refine AW.q 4 ?_
       refine AW.q 2 ?_
       exact AW.ret (rf (k2 (K_impl_reader_cmd _ r) (show ((⟨0, 0, 0, 0, (⟨#[]⟩ : ByteArray)⟩ : Cmd)) = ((rdCmd r).2) from by grind [rdCmd, rdCmd0, zCmd]) (show ((⟨((rdBytes ((rdNum ((rdNum ((rdNum r).1)).1)).1) 32).1).b, ((rdBytes ((rdNum ((rdNum ((rdNum r).1)).1)).1) 32).1).at_, true⟩ : Rd)) = ((rdCmd r).1) from by grind [rdCmd, rdCmd0, zCmd]) (KF.n [(0, 0)])))
     refine At.sB 33 (((rdBytes ((rdNum ((rdNum ((rdNum r).1)).1)).1) 32).1).bad) false (sayB (Bool.eq_false_iff.2 h6)) ?_
     replace h6 := Bool.eq_false_iff.2 h6
     refine At.a 1 ?_
     refine At.c (impl_CmdOk_spec  (⟨(rdNum r).2, (rdNum ((rdNum r).1)).2, 0, (rdNum ((rdNum ((rdNum r).1)).1)).2, (rdBytes ((rdNum ((rdNum ((rdNum r).1)).1)).1) 32).2⟩ : Cmd) ) Try.call88 true [] [] [] trivial ?_
     refine At.z 2 ?_
     refine AW.cNB (cmdOk (⟨(rdNum r).2, (rdNum ((rdNum r).1)).2, 0, (rdNum ((rdNum ((rdNum r).1)).1)).2, (rdBytes ((rdNum ((rdNum ((rdNum r).1)).1)).1) 32).2⟩ : Cmd)) (fun h7 => ?_) (fun h7 => ?_)
     · refine AW.q 4 ?_
       refine AW.q 2 ?_
       exact AW.ret (rf (k2 (K_impl_reader_cmd _ r) (show ((⟨0, 0, 0, 0, (⟨#[]⟩ : ByteArray)⟩ : Cmd)) = ((rdCmd r).2) from by grind [rdCmd, rdCmd0, zCmd]) (show ((⟨((rdBytes ((rdNum ((rdNum ((rdNum r).1)).1)).1) 32).1).b, ((rdBytes ((rdNum ((rdNum ((rdNum r).1)).1)).1) 32).1).at_, true⟩ : Rd)) = ((rdCmd r).1) from by grind [rdCmd, rdCmd0, zCmd]) (KF.n [(0, 0)])))
     refine AW.skip ?_
     refine AW.q 2 ?_
     exact AW.ret (rf (k2 (K_impl_reader_cmd _ r) (show ((⟨(rdNum r).2, (rdNum ((rdNum r).1)).2, 0, (rdNum ((rdNum ((rdNum r).1)).1)).2, (rdBytes ((rdNum ((rdNum ((rdNum r).1)).1)).1) 32).2⟩ : Cmd)) = ((rdCmd r).2) from by grind [rdCmd, rdCmd0, zCmd]) (show (((rdBytes ((rdNum ((rdNum ((rdNum r).1)).1)).1) 32).1)) = ((rdCmd r).1) from by grind [rdCmd, rdCmd0, zCmd]) (KF.n [(0, 0)])))
   refine AW.skip ?_
   refine AW.seq ?_
   refine AW.r ?_
   refine At.a 5 ?_
   by_cases h8 : (((rdNum ((rdNum r).1)).1).bad) = true
   · refine At.sB 33 (((rdNum ((rdNum r).1)).1).bad) true (sayB h8) ?_
     refine At.z 4 ?_
     refine AW.cond true (by kernel_rfl) (fun _ => ?_) (fun h => by cases h)
     refine AW.q 4 ?_
     refine AW.q 2 ?_
     exact AW.ret (rf (k2 (K_impl_reader_cmd _ r) (show ((⟨0, 0, 0, 0, (⟨#[]⟩ : ByteArray)⟩ : Cmd)) = ((rdCmd r).2) from by grind [rdCmd, rdCmd0, zCmd]) (show ((⟨((rdNum ((rdNum r).1)).1).b, ((rdNum ((rdNum r).1)).1).at_, true⟩ : Rd)) = ((rdCmd r).1) from by grind [rdCmd, rdCmd0, zCmd]) (KF.n [(0, 0)])))
   refine At.sB 33 (((rdNum ((rdNum r).1)).1).bad) false (sayB (Bool.eq_false_iff.2 h8)) ?_
   replace h8 := Bool.eq_false_iff.2 h8
   refine At.a 1 ?_
   refine At.c (impl_CmdOk_spec  (⟨(rdNum r).2, (rdNum ((rdNum r).1)).2, 0, 0, (⟨#[]⟩ : ByteArray)⟩ : Cmd) ) Try.call88 true [] [] [] trivial ?_
   refine At.z 2 ?_
   refine AW.cNB (cmdOk (⟨(rdNum r).2, (rdNum ((rdNum r).1)).2, 0, 0, (⟨#[]⟩ : ByteArray)⟩ : Cmd)) (fun h9 => ?_) (fun h9 => ?_)
   · refine AW.q 4 ?_
     refine AW.q 2 ?_
     exact AW.ret (rf (k2 (K_impl_reader_cmd _ r) (show ((⟨0, 0, 0, 0, (⟨#[]⟩ : ByteArray)⟩ : Cmd)) = ((rdCmd r).2) from by grind [rdCmd, rdCmd0, zCmd]) (show ((⟨((rdNum ((rdNum r).1)).1).b, ((rdNum ((rdNum r).1)).1).at_, true⟩ : Rd)) = ((rdCmd r).1) from by grind [rdCmd, rdCmd0, zCmd]) (KF.n [(0, 0)])))
   refine AW.skip ?_
   refine AW.q 2 ?_
   exact AW.ret (rf (k2 (K_impl_reader_cmd _ r) (show ((⟨(rdNum r).2, (rdNum ((rdNum r).1)).2, 0, 0, (⟨#[]⟩ : ByteArray)⟩ : Cmd)) = ((rdCmd r).2) from by grind [rdCmd, rdCmd0, zCmd]) (show (((rdNum ((rdNum r).1)).1)) = ((rdCmd r).1) from by grind [rdCmd, rdCmd0, zCmd]) (KF.n [(0, 0)])))
 refine AW.skip ?_
 refine AW.seq ?_
 refine AW.q 2 ?_
 refine AW.block ?_
 refine AW.q 2 ?_
 refine AW.cE ((rdNum r).2) (3 : Int) (fun h10 => ?_) (fun h10 => ?_)
 · refine AW.g ?_
   refine At.a 1 ?_
   refine At.c (impl_reader_num_spec  ((rdNum r).1) (by exact rdNum_ok hr)) Try.call46 true [(0, 0)] [] [] trivial ?_
   refine At.z 2 ?_
   refine AW.seq ?_
   refine AW.r ?_
   refine At.a 5 ?_
   by_cases h11 : (((rdNum ((rdNum r).1)).1).bad) = true
   · refine At.sB 33 (((rdNum ((rdNum r).1)).1).bad) true (sayB h11) ?_
     refine At.z 4 ?_
     refine AW.cond true (by kernel_rfl) (fun _ => ?_) (fun h => by cases h)
     refine AW.q 4 ?_
     refine AW.q 2 ?_
     exact AW.ret (rf (k2 (K_impl_reader_cmd _ r) (show ((⟨0, 0, 0, 0, (⟨#[]⟩ : ByteArray)⟩ : Cmd)) = ((rdCmd r).2) from by grind [rdCmd, rdCmd0, zCmd]) (show ((⟨((rdNum ((rdNum r).1)).1).b, ((rdNum ((rdNum r).1)).1).at_, true⟩ : Rd)) = ((rdCmd r).1) from by grind [rdCmd, rdCmd0, zCmd]) (KF.n [(0, 0)])))
   refine At.sB 33 (((rdNum ((rdNum r).1)).1).bad) false (sayB (Bool.eq_false_iff.2 h11)) ?_
   replace h11 := Bool.eq_false_iff.2 h11
   refine At.a 1 ?_
   refine At.c (impl_CmdOk_spec  (⟨(rdNum r).2, 0, (rdNum ((rdNum r).1)).2, 0, (⟨#[]⟩ : ByteArray)⟩ : Cmd) ) Try.call88 true [] [] [] trivial ?_
   refine At.z 2 ?_
   refine AW.cNB (cmdOk (⟨(rdNum r).2, 0, (rdNum ((rdNum r).1)).2, 0, (⟨#[]⟩ : ByteArray)⟩ : Cmd)) (fun h12 => ?_) (fun h12 => ?_)
   · refine AW.q 4 ?_
     refine AW.q 2 ?_
     exact AW.ret (rf (k2 (K_impl_reader_cmd _ r) (show ((⟨0, 0, 0, 0, (⟨#[]⟩ : ByteArray)⟩ : Cmd)) = ((rdCmd r).2) from by grind [rdCmd, rdCmd0, zCmd]) (show ((⟨((rdNum ((rdNum r).1)).1).b, ((rdNum ((rdNum r).1)).1).at_, true⟩ : Rd)) = ((rdCmd r).1) from by grind [rdCmd, rdCmd0, zCmd]) (KF.n [(0, 0)])))
   refine AW.skip ?_
   refine AW.q 2 ?_
   exact AW.ret (rf (k2 (K_impl_reader_cmd _ r) (show ((⟨(rdNum r).2, 0, (rdNum ((rdNum r).1)).2, 0, (⟨#[]⟩ : ByteArray)⟩ : Cmd)) = ((rdCmd r).2) from by grind [rdCmd, rdCmd0, zCmd]) (show (((rdNum ((rdNum r).1)).1)) = ((rdCmd r).1) from by grind [rdCmd, rdCmd0, zCmd]) (KF.n [(0, 0)])))
 refine AW.q 2 ?_
 refine AW.cE ((rdNum r).2) (2 : Int) (fun h13 => ?_) (fun h13 => ?_)
 · refine AW.r ?_
   refine At.a 1 ?_
   refine At.c (impl_reader_num_spec  ((rdNum r).1) (by exact rdNum_ok hr)) Try.call46 true [(0, 0)] [] [] trivial ?_
   refine At.z 2 ?_
   refine AW.g ?_
   refine At.a 1 ?_
   refine At.c (impl_reader_bytes_spec  ((rdNum ((rdNum r).1)).1) 32 (by exact rdNum_ok (rdNum_ok hr)) (by omega)) Try.call92 true [(0, 0)] [] [] trivial ?_
   refine At.z 2 ?_
   refine AW.seq ?_
   refine AW.r ?_
   refine At.a 5 ?_
   by_cases h14 : (((rdBytes ((rdNum ((rdNum r).1)).1) 32).1).bad) = true
   · refine At.sB 33 (((rdBytes ((rdNum ((rdNum r).1)).1) 32).1).bad) true (sayB h14) ?_
     refine At.z 4 ?_
     refine AW.cond true (by kernel_rfl) (fun _ => ?_) (fun h => by cases h)
     refine AW.q 4 ?_
     refine AW.q 2 ?_
     exact AW.ret (rf (k2 (K_impl_reader_cmd _ r) (show ((⟨0, 0, 0, 0, (⟨#[]⟩ : ByteArray)⟩ : Cmd)) = ((rdCmd r).2) from by grind [rdCmd, rdCmd0, zCmd]) (show ((⟨((rdBytes ((rdNum ((rdNum r).1)).1) 32).1).b, ((rdBytes ((rdNum ((rdNum r).1)).1) 32).1).at_, true⟩ : Rd)) = ((rdCmd r).1) from by grind [rdCmd, rdCmd0, zCmd]) (KF.n [(0, 0)])))
   refine At.sB 33 (((rdBytes ((rdNum ((rdNum r).1)).1) 32).1).bad) false (sayB (Bool.eq_false_iff.2 h14)) ?_
   replace h14 := Bool.eq_false_iff.2 h14
   refine At.a 1 ?_
   refine At.c (impl_CmdOk_spec  (⟨(rdNum r).2, 0, 0, (rdNum ((rdNum r).1)).2, (rdBytes ((rdNum ((rdNum r).1)).1) 32).2⟩ : Cmd) ) Try.call88 true [] [] [] trivial ?_
   refine At.z 2 ?_
   refine AW.cNB (cmdOk (⟨(rdNum r).2, 0, 0, (rdNum ((rdNum r).1)).2, (rdBytes ((rdNum ((rdNum r).1)).1) 32).2⟩ : Cmd)) (fun h15 => ?_) (fun h15 => ?_)
   · refine AW.q 4 ?_
     refine AW.q 2 ?_
     exact AW.ret (rf (k2 (K_impl_reader_cmd _ r) (show ((⟨0, 0, 0, 0, (⟨#[]⟩ : ByteArray)⟩ : Cmd)) = ((rdCmd r).2) from by grind [rdCmd, rdCmd0, zCmd]) (show ((⟨((rdBytes ((rdNum ((rdNum r).1)).1) 32).1).b, ((rdBytes ((rdNum ((rdNum r).1)).1) 32).1).at_, true⟩ : Rd)) = ((rdCmd r).1) from by grind [rdCmd, rdCmd0, zCmd]) (KF.n [(0, 0)])))
   refine AW.skip ?_
   refine AW.q 2 ?_
   exact AW.ret (rf (k2 (K_impl_reader_cmd _ r) (show ((⟨(rdNum r).2, 0, 0, (rdNum ((rdNum r).1)).2, (rdBytes ((rdNum ((rdNum r).1)).1) 32).2⟩ : Cmd)) = ((rdCmd r).2) from by grind [rdCmd, rdCmd0, zCmd]) (show (((rdBytes ((rdNum ((rdNum r).1)).1) 32).1)) = ((rdCmd r).1) from by grind [rdCmd, rdCmd0, zCmd]) (KF.n [(0, 0)])))
 refine AW.skip ?_
 refine AW.seq ?_
 refine AW.r ?_
 refine At.a 5 ?_
 by_cases h16 : (((rdNum r).1).bad) = true
 · refine At.sB 33 (((rdNum r).1).bad) true (sayB h16) ?_
   refine At.z 4 ?_
   refine AW.cond true (by kernel_rfl) (fun _ => ?_) (fun h => by cases h)
   refine AW.q 4 ?_
   refine AW.q 2 ?_
   exact AW.ret (rf (k2 (K_impl_reader_cmd _ r) (show ((⟨0, 0, 0, 0, (⟨#[]⟩ : ByteArray)⟩ : Cmd)) = ((rdCmd r).2) from by grind [rdCmd, rdCmd0, zCmd]) (show ((⟨((rdNum r).1).b, ((rdNum r).1).at_, true⟩ : Rd)) = ((rdCmd r).1) from by grind [rdCmd, rdCmd0, zCmd]) (KF.n [(0, 0)])))
 refine At.sB 33 (((rdNum r).1).bad) false (sayB (Bool.eq_false_iff.2 h16)) ?_
 replace h16 := Bool.eq_false_iff.2 h16
 refine At.a 1 ?_
 refine At.c (impl_CmdOk_spec  (⟨(rdNum r).2, 0, 0, 0, (⟨#[]⟩ : ByteArray)⟩ : Cmd) ) Try.call88 true [] [] [] trivial ?_
 refine At.z 2 ?_
 refine AW.cNB (cmdOk (⟨(rdNum r).2, 0, 0, 0, (⟨#[]⟩ : ByteArray)⟩ : Cmd)) (fun h17 => ?_) (fun h17 => ?_)
 · refine AW.q 4 ?_
   refine AW.q 2 ?_
   exact AW.ret (rf (k2 (K_impl_reader_cmd _ r) (show ((⟨0, 0, 0, 0, (⟨#[]⟩ : ByteArray)⟩ : Cmd)) = ((rdCmd r).2) from by grind [rdCmd, rdCmd0, zCmd]) (show ((⟨((rdNum r).1).b, ((rdNum r).1).at_, true⟩ : Rd)) = ((rdCmd r).1) from by grind [rdCmd, rdCmd0, zCmd]) (KF.n [(0, 0)])))
 refine AW.skip ?_
 refine AW.q 2 ?_
 exact AW.ret (rf (k2 (K_impl_reader_cmd _ r) (show ((⟨(rdNum r).2, 0, 0, 0, (⟨#[]⟩ : ByteArray)⟩ : Cmd)) = ((rdCmd r).2) from by grind [rdCmd, rdCmd0, zCmd]) (show (((rdNum r).1)) = ((rdCmd r).1) from by grind [rdCmd, rdCmd0, zCmd]) (KF.n [(0, 0)])))
def K_impl_reader_entries (rs : List ResultVar) (r : Rd) (w0_ : List Ent) (w1_ : Rd) : Exit → Sg → Prop := KF Try.prog 1 rs (.ref 1) [.box 70 [.sl false 1 (w1_.b.map encU8), .int .i64 w1_.at_, .bool w1_.bad], .arr 56 6 (w0_.map encEnt)]
theorem impl_reader_entries_spec  (r : Rd) (hr : RdOk r) : FnSpec Try.prog 79 [.ptr 0 0 0] [.box 70 [.sl false 1 (r.b.map encU8), .int .i64 r.at_, .bool r.bad]] (.ref 1) [.box 70 [.sl false 1 ((((rdEnts r).1).b).map encU8), .int .i64 (((rdEnts r).1).at_), .bool (((rdEnts r).1).bad)], .arr 56 6 (((rdEnts r).2).map encEnt)] := by
 obtain ⟨r1, r2, r3⟩ := id hr
 have hgn := getN_num r.b (at_ := r.at_)
 have hn0 := rdNum_in r
 refine FnSpec.of 39 Try.func79 rfl Try.ntmps79 (by simp) (AW.weakK ?_)
 refine AW.q 1 ?_
 refine AW.r ?_
 refine At.lit0 (t := 32) (d := 7) (e := 56) (es := 6) (bytes := 56) 107 (by kernel_rfl) (by kernel_rfl) (by kernel_rfl) (by kernel_rfl) ?_
 refine At.z 1 ?_
 refine AW.r ?_
 refine At.a 1 ?_
 refine At.c (impl_reader_num_spec  r (by exact hr)) Try.call46 true [(0, 0)] [] [] trivial ?_
 refine At.z 1 ?_
 refine AW.seq ?_
 refine AW.q 2 ?_
 refine AW.cD (((rdNum r).2) > 6) (fun h1 => ?_) (fun h1 => ?_)
 · refine AW.gq 4 ?_
   refine AW.seq ?_
   refine AW.q 1 ?_
   refine AW.block ?_
   refine AW.loopW (fun (x : Nat × Rd × List Ent) => match x with | (k, q, l) => Go.Sy.mk [.ptr 0 0 0, .un, .un, .ref 107, .int .i64 ((rdNum r).2), .int .i64 (k : Int)] [(0, .box 70 [.sl false 1 (q.b.map encU8), .int .i64 q.at_, .bool q.bad]), (107, .arr 56 6 (l.map encEnt))]) (fun (x : Nat × Rd × List Ent) => match x with | (k, q, l) => RdOk q ∧ l.length = k ∧ k ≤ 7 ∧ ((rdNum r).2 > 6 → q.bad = true) ∧ rdEnts r = rdEntsGo ((rdNum r).2.toNat - k) q l) (fun (x : Nat × Rd × List Ent) => match x with | (k, q, l) => 7 - k) (0, (⟨((rdNum r).1).b, ((rdNum r).1).at_, true⟩ : Rd), []) ⟨by exact rdNum_ok hr, rfl, by omega, by intro h; first | rfl | (exfalso; omega), by exact rdEnts_far (by assumption)⟩ (Sub.o [(0, 0), (107, 107)] [true, false, false, true, true, true]) ?_
   rintro ⟨k, q, l⟩ ⟨hq, hl, hk, hbad, hR⟩
   refine AW.seq ?_
   refine AW.r ?_
   refine At.a 4 ?_
   by_cases h2 : (k : Int) < ((rdNum r).2)
   · refine At.sB 18 _ _ (sayT h2) ?_
     refine At.z 6 ?_
     refine AW.cNB (q.bad) (fun h3 => ?_) (fun h3 => ?_)
     · refine AW.skip ?_
       refine AW.seq ?_
       refine AW.block ?_
       refine AW.q 3 ?_
       refine AW.r ?_
       refine At.a 1 ?_
       refine At.c (impl_reader_num_spec  q (by exact hq)) Try.call46 true [(0, 0)] [] [] trivial ?_
       refine At.z 2 ?_
       refine AW.r ?_
       refine At.a 1 ?_
       refine At.c (impl_reader_cmd_spec  ((rdNum q).1) (by exact rdNum_ok hq)) Try.call78 true [(0, 0)] [] [] trivial ?_
       refine At.z 2 ?_
       refine AW.g ?_
       refine At.a 2 ?_
       refine At.ll 36 56 6 136 (56, 6) (([(⟨(rdNum q).2, ((rdCmd ((rdNum q).1)).2)⟩ : Ent)]).map encEnt) ?_
       refine At.apK 37 56 6 56 137 107 136 encEnt l ([(⟨(rdNum q).2, ((rdCmd ((rdNum q).1)).2)⟩ : Ent)]) (by simp only [List.length_map, List.length_append, List.length_take, List.length_drop, List.length_replicate, List.length_set, List.length_cons, List.length_nil]; omega) ?_
       refine At.z 1 ?_
       refine AW.g ?_
       refine At.a 2 ?_
       refine At.sI 26 ((k : Int) + 1) (by omega) ?_
       refine At.z 1 ?_
       exact ⟨(k + 1, ((rdCmd ((rdNum q).1)).1), (l ++ ([(⟨(rdNum q).2, ((rdCmd ((rdNum q).1)).2)⟩ : Ent)]))), ⟨rdCmd_ok (rdNum_ok hq), by simp [hl], by exfalso; have hb_ := hbad (by assumption); rw [show q.bad = false from by assumption] at hb_; exact Bool.false_ne_true hb_, by exfalso; have hb_ := hbad (by assumption); rw [show q.bad = false from by assumption] at hb_; exact Bool.false_ne_true hb_, by exfalso; have hb_ := hbad (by assumption); rw [show q.bad = false from by assumption] at hb_; exact Bool.false_ne_true hb_⟩, (by exfalso; have hb_ := hbad (by assumption); rw [show q.bad = false from by assumption] at hb_; exact Bool.false_ne_true hb_), Sub.o [(0, 0), (137, 107)] [true, false, false, true, true, true]⟩
     refine AW.exit ?_
     refine AW.q 2 ?_
     exact AW.ret (rf (k2 (K_impl_reader_entries _ r) (show (l) = ((rdEnts r).2) from by rw [hR]; exact (congrArg Prod.snd (rdEntsGo_bad (by assumption))).symm) (show (q) = ((rdEnts r).1) from by rw [hR]; exact (congrArg Prod.fst (rdEntsGo_bad (by assumption))).symm) (KF.n [(0, 0), (107, 1)])))
   refine At.sB 18 _ _ (sayF h2) ?_
   refine At.z 6 ?_
   refine AW.cond false (by kernel_rfl) (fun h => by cases h) (fun _ => ?_)
   refine AW.exit ?_
   refine AW.q 2 ?_
   exact AW.ret (rf (k2 (K_impl_reader_entries _ r) (show (l) = ((rdEnts r).2) from by rw [hR, show (rdNum r).2.toNat - k = 0 by omega]; rfl) (show (q) = ((rdEnts r).1) from by rw [hR, show (rdNum r).2.toNat - k = 0 by omega]; rfl) (KF.n [(0, 0), (107, 1)])))
 refine AW.skip ?_
 refine AW.seq ?_
 refine AW.q 1 ?_
 refine AW.block ?_
 refine AW.loopW (fun (x : Nat × Rd × List Ent) => match x with | (k, q, l) => Go.Sy.mk [.ptr 0 0 0, .un, .un, .ref 107, .int .i64 ((rdNum r).2), .int .i64 (k : Int)] [(0, .box 70 [.sl false 1 (q.b.map encU8), .int .i64 q.at_, .bool q.bad]), (107, .arr 56 6 (l.map encEnt))]) (fun (x : Nat × Rd × List Ent) => match x with | (k, q, l) => RdOk q ∧ l.length = k ∧ k ≤ 7 ∧ ((rdNum r).2 > 6 → q.bad = true) ∧ rdEnts r = rdEntsGo ((rdNum r).2.toNat - k) q l) (fun (x : Nat × Rd × List Ent) => match x with | (k, q, l) => 7 - k) (0, ((rdNum r).1), []) ⟨by exact rdNum_ok hr, rfl, by omega, by intro h; first | rfl | (exfalso; omega), by exact rdEnts_near (by assumption)⟩ (Sub.o [(0, 0), (107, 107)] [true, false, false, true, true, true]) ?_
 rintro ⟨k, q, l⟩ ⟨hq, hl, hk, hbad, hR⟩
 refine AW.seq ?_
 refine AW.r ?_
 refine At.a 4 ?_
 by_cases h4 : (k : Int) < ((rdNum r).2)
 · refine At.sB 18 _ _ (sayT h4) ?_
   refine At.z 6 ?_
   refine AW.cNB (q.bad) (fun h5 => ?_) (fun h5 => ?_)
   · refine AW.skip ?_
     refine AW.seq ?_
     refine AW.block ?_
     refine AW.q 3 ?_
     refine AW.r ?_
     refine At.a 1 ?_
     refine At.c (impl_reader_num_spec  q (by exact hq)) Try.call46 true [(0, 0)] [] [] trivial ?_
     refine At.z 2 ?_
     refine AW.r ?_
     refine At.a 1 ?_
     refine At.c (impl_reader_cmd_spec  ((rdNum q).1) (by exact rdNum_ok hq)) Try.call78 true [(0, 0)] [] [] trivial ?_
     refine At.z 2 ?_
     refine AW.g ?_
     refine At.a 2 ?_
     refine At.ll 36 56 6 136 (56, 6) (([(⟨(rdNum q).2, ((rdCmd ((rdNum q).1)).2)⟩ : Ent)]).map encEnt) ?_
     refine At.apK 37 56 6 56 137 107 136 encEnt l ([(⟨(rdNum q).2, ((rdCmd ((rdNum q).1)).2)⟩ : Ent)]) (by simp only [List.length_map, List.length_append, List.length_take, List.length_drop, List.length_replicate, List.length_set, List.length_cons, List.length_nil]; omega) ?_
     refine At.z 1 ?_
     refine AW.g ?_
     refine At.a 2 ?_
     refine At.sI 26 ((k : Int) + 1) (by omega) ?_
     refine At.z 1 ?_
     exact ⟨(k + 1, ((rdCmd ((rdNum q).1)).1), (l ++ ([(⟨(rdNum q).2, ((rdCmd ((rdNum q).1)).2)⟩ : Ent)]))), ⟨rdCmd_ok (rdNum_ok hq), by simp [hl], by omega, by intro h; exfalso; omega, by rw [hR, show (rdNum r).2.toNat - k = (rdNum r).2.toNat - (k + 1) + 1 by omega, rdEntsGo, if_neg (by simp [*])]⟩, (by simp only; omega), Sub.o [(0, 0), (137, 107)] [true, false, false, true, true, true]⟩
   refine AW.exit ?_
   refine AW.q 2 ?_
   exact AW.ret (rf (k2 (K_impl_reader_entries _ r) (show (l) = ((rdEnts r).2) from by rw [hR]; exact (congrArg Prod.snd (rdEntsGo_bad (by assumption))).symm) (show (q) = ((rdEnts r).1) from by rw [hR]; exact (congrArg Prod.fst (rdEntsGo_bad (by assumption))).symm) (KF.n [(0, 0), (107, 1)])))
 refine At.sB 18 _ _ (sayF h4) ?_
 refine At.z 6 ?_
 refine AW.cond false (by kernel_rfl) (fun h => by cases h) (fun _ => ?_)
 refine AW.exit ?_
 refine AW.q 2 ?_
 exact AW.ret (rf (k2 (K_impl_reader_entries _ r) (show (l) = ((rdEnts r).2) from by rw [hR, show (rdNum r).2.toNat - k = 0 by omega]; rfl) (show (q) = ((rdEnts r).1) from by rw [hR, show (rdNum r).2.toNat - k = 0 by omega]; rfl) (KF.n [(0, 0), (107, 1)])))
def K_impl_reader_field (rs : List ResultVar) (r : Rd) (m : Msg) (field : UInt8) (w0_ : Rd) (w1_ : Msg) : Exit → Sg → Prop := KF Try.prog 3 rs (.tup []) [.box 70 [.sl false 1 (w0_.b.map encU8), .int .i64 w0_.at_, .bool w0_.bad], .box 34 [.int .i64 w1_.kind, .int .i64 w1_.from_, .int .i64 w1_.term, .int .i64 w1_.at_, .int .i64 w1_.atTerm, .int .i64 w1_.commit, .bool w1_.yes, .int .i64 w1_.release, .int .i64 w1_.part, .str w1_.bytes, .int .i64 w1_.cmd.kind, .int .i64 w1_.cmd.release, .int .i64 w1_.cmd.node, .int .i64 w1_.cmd.size, .str w1_.cmd.digest, .ref 3], .dead, .arr 56 6 (w1_.entries.map encEnt)]
theorem impl_reader_field_spec  (r : Rd) (m : Msg) (field : UInt8) (hr : RdOk r) : FnSpec Try.prog 47 [.ptr 0 0 0, .ptr 1 0 0, .int .u8 (field.toNat : Int)] [.box 70 [.sl false 1 (r.b.map encU8), .int .i64 r.at_, .bool r.bad], .box 34 [.int .i64 m.kind, .int .i64 m.from_, .int .i64 m.term, .int .i64 m.at_, .int .i64 m.atTerm, .int .i64 m.commit, .bool m.yes, .int .i64 m.release, .int .i64 m.part, .str m.bytes, .int .i64 m.cmd.kind, .int .i64 m.cmd.release, .int .i64 m.cmd.node, .int .i64 m.cmd.size, .str m.cmd.digest, .ref 2], .arr 56 6 (m.entries.map encEnt)] (.tup []) [.box 70 [.sl false 1 ((((rdField r m field.toNat).1).b).map encU8), .int .i64 (((rdField r m field.toNat).1).at_), .bool (((rdField r m field.toNat).1).bad)], .box 34 [.int .i64 (((rdField r m field.toNat).2).kind), .int .i64 (((rdField r m field.toNat).2).from_), .int .i64 (((rdField r m field.toNat).2).term), .int .i64 (((rdField r m field.toNat).2).at_), .int .i64 (((rdField r m field.toNat).2).atTerm), .int .i64 (((rdField r m field.toNat).2).commit), .bool (((rdField r m field.toNat).2).yes), .int .i64 (((rdField r m field.toNat).2).release), .int .i64 (((rdField r m field.toNat).2).part), .str (((rdField r m field.toNat).2).bytes), .int .i64 (((rdField r m field.toNat).2).cmd.kind), .int .i64 (((rdField r m field.toNat).2).cmd.release), .int .i64 (((rdField r m field.toNat).2).cmd.node), .int .i64 (((rdField r m field.toNat).2).cmd.size), .str (((rdField r m field.toNat).2).cmd.digest), .ref 3], .dead, .arr 56 6 ((((rdField r m field.toNat).2).entries).map encEnt)] := by
 obtain ⟨r1, r2, r3⟩ := id hr
 have hgn := getN_num r.b (at_ := r.at_)
 have hn0 := rdNum_in r
 refine FnSpec.of 96 Try.func47 rfl Try.ntmps47 (by simp) (AW.weakK ?_)
 refine AW.q 1 ?_
 refine AW.block ?_
 refine AW.q 2 ?_
 refine AW.cE (field.toNat : Int) (102 : Int) (fun h1 => ?_) (fun h1 => ?_)
 · refine AW.g ?_
   refine At.a 2 ?_
   refine At.c (impl_reader_num_spec  r hr) Try.call46 true [(0, 0)] [] [] trivial ?_
   refine At.z 3 ?_
   refine ⟨_, (Sub.trans (Sub.refl _ _) (Sub.mv 2 8002 (by kernel_rfl) (by decide))), ?_⟩
   exact k2 (K_impl_reader_field _ r m field) (show (((rdNum r).1)) = ((rdField r m field.toNat).1) from by simp only [rdField, h1, if_true, if_false, Int.reduceEq, reduceIte, Bool.or_true, Bool.or_false, decide_true, decide_false, Bool.true_or, Bool.false_or] <;> rfl) (show ((⟨m.kind, (rdNum r).2, m.term, m.at_, m.atTerm, m.commit, m.yes, m.release, m.part, m.bytes, m.cmd, m.entries⟩ : Msg)) = ((rdField r m field.toNat).2) from by simp only [rdField, h1, if_true, if_false, Int.reduceEq, reduceIte, Bool.or_true, Bool.or_false, decide_true, decide_false, Bool.true_or, Bool.false_or] <;> rfl) (KF.n [(0, 0), (1, 1), (2, 2), (8002, 3)])
 refine AW.q 2 ?_
 refine AW.cE (field.toNat : Int) (116 : Int) (fun h2 => ?_) (fun h2 => ?_)
 · refine AW.g ?_
   refine At.a 2 ?_
   refine At.c (impl_reader_num_spec  r hr) Try.call46 true [(0, 0)] [] [] trivial ?_
   refine At.z 3 ?_
   refine ⟨_, (Sub.trans (Sub.refl _ _) (Sub.mv 2 8002 (by kernel_rfl) (by decide))), ?_⟩
   exact k2 (K_impl_reader_field _ r m field) (show (((rdNum r).1)) = ((rdField r m field.toNat).1) from by simp only [rdField, h1, h2, if_true, if_false, Int.reduceEq, reduceIte, Bool.or_true, Bool.or_false, decide_true, decide_false, Bool.true_or, Bool.false_or] <;> rfl) (show ((⟨m.kind, m.from_, (rdNum r).2, m.at_, m.atTerm, m.commit, m.yes, m.release, m.part, m.bytes, m.cmd, m.entries⟩ : Msg)) = ((rdField r m field.toNat).2) from by simp only [rdField, h1, h2, if_true, if_false, Int.reduceEq, reduceIte, Bool.or_true, Bool.or_false, decide_true, decide_false, Bool.true_or, Bool.false_or] <;> rfl) (KF.n [(0, 0), (1, 1), (2, 2), (8002, 3)])
 refine AW.q 2 ?_
 refine AW.cE (field.toNat : Int) (97 : Int) (fun h3 => ?_) (fun h3 => ?_)
 · refine AW.g ?_
   refine At.a 2 ?_
   refine At.c (impl_reader_num_spec  r hr) Try.call46 true [(0, 0)] [] [] trivial ?_
   refine At.z 3 ?_
   refine ⟨_, (Sub.trans (Sub.refl _ _) (Sub.mv 2 8002 (by kernel_rfl) (by decide))), ?_⟩
   exact k2 (K_impl_reader_field _ r m field) (show (((rdNum r).1)) = ((rdField r m field.toNat).1) from by simp only [rdField, h1, h2, h3, if_true, if_false, Int.reduceEq, reduceIte, Bool.or_true, Bool.or_false, decide_true, decide_false, Bool.true_or, Bool.false_or] <;> rfl) (show ((⟨m.kind, m.from_, m.term, (rdNum r).2, m.atTerm, m.commit, m.yes, m.release, m.part, m.bytes, m.cmd, m.entries⟩ : Msg)) = ((rdField r m field.toNat).2) from by simp only [rdField, h1, h2, h3, if_true, if_false, Int.reduceEq, reduceIte, Bool.or_true, Bool.or_false, decide_true, decide_false, Bool.true_or, Bool.false_or] <;> rfl) (KF.n [(0, 0), (1, 1), (2, 2), (8002, 3)])
 refine AW.q 2 ?_
 refine AW.cE (field.toNat : Int) (120 : Int) (fun h4 => ?_) (fun h4 => ?_)
 · refine AW.g ?_
   refine At.a 2 ?_
   refine At.c (impl_reader_num_spec  r hr) Try.call46 true [(0, 0)] [] [] trivial ?_
   refine At.z 3 ?_
   refine ⟨_, (Sub.trans (Sub.refl _ _) (Sub.mv 2 8002 (by kernel_rfl) (by decide))), ?_⟩
   exact k2 (K_impl_reader_field _ r m field) (show (((rdNum r).1)) = ((rdField r m field.toNat).1) from by simp only [rdField, h1, h2, h3, h4, if_true, if_false, Int.reduceEq, reduceIte, Bool.or_true, Bool.or_false, decide_true, decide_false, Bool.true_or, Bool.false_or] <;> rfl) (show ((⟨m.kind, m.from_, m.term, m.at_, (rdNum r).2, m.commit, m.yes, m.release, m.part, m.bytes, m.cmd, m.entries⟩ : Msg)) = ((rdField r m field.toNat).2) from by simp only [rdField, h1, h2, h3, h4, if_true, if_false, Int.reduceEq, reduceIte, Bool.or_true, Bool.or_false, decide_true, decide_false, Bool.true_or, Bool.false_or] <;> rfl) (KF.n [(0, 0), (1, 1), (2, 2), (8002, 3)])
 refine AW.q 2 ?_
 refine AW.cE (field.toNat : Int) (99 : Int) (fun h5 => ?_) (fun h5 => ?_)
 · refine AW.g ?_
   refine At.a 2 ?_
   refine At.c (impl_reader_num_spec  r hr) Try.call46 true [(0, 0)] [] [] trivial ?_
   refine At.z 3 ?_
   refine ⟨_, (Sub.trans (Sub.refl _ _) (Sub.mv 2 8002 (by kernel_rfl) (by decide))), ?_⟩
   exact k2 (K_impl_reader_field _ r m field) (show (((rdNum r).1)) = ((rdField r m field.toNat).1) from by simp only [rdField, h1, h2, h3, h4, h5, if_true, if_false, Int.reduceEq, reduceIte, Bool.or_true, Bool.or_false, decide_true, decide_false, Bool.true_or, Bool.false_or] <;> rfl) (show ((⟨m.kind, m.from_, m.term, m.at_, m.atTerm, (rdNum r).2, m.yes, m.release, m.part, m.bytes, m.cmd, m.entries⟩ : Msg)) = ((rdField r m field.toNat).2) from by simp only [rdField, h1, h2, h3, h4, h5, if_true, if_false, Int.reduceEq, reduceIte, Bool.or_true, Bool.or_false, decide_true, decide_false, Bool.true_or, Bool.false_or] <;> rfl) (KF.n [(0, 0), (1, 1), (2, 2), (8002, 3)])
 refine AW.q 2 ?_
 refine AW.cE (field.toNat : Int) (121 : Int) (fun h6 => ?_) (fun h6 => ?_)
 · refine AW.r ?_
   refine At.a 1 ?_
   refine At.c (impl_reader_num_spec  r hr) Try.call46 true [(0, 0)] [] [] trivial ?_
   refine At.z 1 ?_
   refine AW.q 6 ?_
   refine AW.g ?_
   refine At.a 6 ?_
   by_cases h7 : (((rdNum r).1).bad) = true
   · refine At.sB 62 (((rdNum r).1).bad) true (sayB h7) ?_
     refine At.z 6 ?_
     refine ⟨_, (Sub.trans (Sub.refl _ _) (Sub.mv 2 8002 (by kernel_rfl) (by decide))), ?_⟩
     exact k2 (K_impl_reader_field _ r m field) (show ((⟨((rdNum r).1).b, ((rdNum r).1).at_, true⟩ : Rd)) = ((rdField r m field.toNat).1) from by simp only [rdField, h1, h2, h3, h4, h5, h6, h7, if_true, if_false, Int.reduceEq, reduceIte, Bool.or_true, Bool.or_false, decide_true, decide_false, Bool.true_or, Bool.false_or] <;> rfl) (show ((⟨m.kind, m.from_, m.term, m.at_, m.atTerm, m.commit, ((rdNum r).2) == 1, m.release, m.part, m.bytes, m.cmd, m.entries⟩ : Msg)) = ((rdField r m field.toNat).2) from by simp only [rdField, h1, h2, h3, h4, h5, h6, h7, if_true, if_false, Int.reduceEq, reduceIte, Bool.or_true, Bool.or_false, decide_true, decide_false, Bool.true_or, Bool.false_or] <;> rfl) (KF.n [(0, 0), (1, 1), (2, 2), (8002, 3)])
   refine At.sB 62 (((rdNum r).1).bad) false (sayB (Bool.eq_false_iff.2 h7)) ?_
   replace h7 := Bool.eq_false_iff.2 h7
   refine At.z 6 ?_
   refine ⟨_, (Sub.trans (Sub.refl _ _) (Sub.mv 2 8002 (by kernel_rfl) (by decide))), ?_⟩
   exact k2 (K_impl_reader_field _ r m field) (show ((⟨((rdNum r).1).b, ((rdNum r).1).at_, decide (((rdNum r).2) > 1)⟩ : Rd)) = ((rdField r m field.toNat).1) from by simp only [rdField, h1, h2, h3, h4, h5, h6, h7, if_true, if_false, Int.reduceEq, reduceIte, Bool.or_true, Bool.or_false, decide_true, decide_false, Bool.true_or, Bool.false_or] <;> rfl) (show ((⟨m.kind, m.from_, m.term, m.at_, m.atTerm, m.commit, ((rdNum r).2) == 1, m.release, m.part, m.bytes, m.cmd, m.entries⟩ : Msg)) = ((rdField r m field.toNat).2) from by simp only [rdField, h1, h2, h3, h4, h5, h6, h7, if_true, if_false, Int.reduceEq, reduceIte, Bool.or_true, Bool.or_false, decide_true, decide_false, Bool.true_or, Bool.false_or] <;> rfl) (KF.n [(0, 0), (1, 1), (2, 2), (8002, 3)])
 refine AW.q 2 ?_
 refine AW.cE (field.toNat : Int) (114 : Int) (fun h8 => ?_) (fun h8 => ?_)
 · refine AW.g ?_
   refine At.a 2 ?_
   refine At.c (impl_reader_num_spec  r hr) Try.call46 true [(0, 0)] [] [] trivial ?_
   refine At.z 3 ?_
   refine ⟨_, (Sub.trans (Sub.refl _ _) (Sub.mv 2 8002 (by kernel_rfl) (by decide))), ?_⟩
   exact k2 (K_impl_reader_field _ r m field) (show (((rdNum r).1)) = ((rdField r m field.toNat).1) from by simp only [rdField, h1, h2, h3, h4, h5, h6, h8, if_true, if_false, Int.reduceEq, reduceIte, Bool.or_true, Bool.or_false, decide_true, decide_false, Bool.true_or, Bool.false_or] <;> rfl) (show ((⟨m.kind, m.from_, m.term, m.at_, m.atTerm, m.commit, m.yes, (rdNum r).2, m.part, m.bytes, m.cmd, m.entries⟩ : Msg)) = ((rdField r m field.toNat).2) from by simp only [rdField, h1, h2, h3, h4, h5, h6, h8, if_true, if_false, Int.reduceEq, reduceIte, Bool.or_true, Bool.or_false, decide_true, decide_false, Bool.true_or, Bool.false_or] <;> rfl) (KF.n [(0, 0), (1, 1), (2, 2), (8002, 3)])
 refine AW.q 2 ?_
 refine AW.cE (field.toNat : Int) (112 : Int) (fun h9 => ?_) (fun h9 => ?_)
 · refine AW.g ?_
   refine At.a 2 ?_
   refine At.c (impl_reader_num_spec  r hr) Try.call46 true [(0, 0)] [] [] trivial ?_
   refine At.z 3 ?_
   refine ⟨_, (Sub.trans (Sub.refl _ _) (Sub.mv 2 8002 (by kernel_rfl) (by decide))), ?_⟩
   exact k2 (K_impl_reader_field _ r m field) (show (((rdNum r).1)) = ((rdField r m field.toNat).1) from by simp only [rdField, h1, h2, h3, h4, h5, h6, h8, h9, if_true, if_false, Int.reduceEq, reduceIte, Bool.or_true, Bool.or_false, decide_true, decide_false, Bool.true_or, Bool.false_or] <;> rfl) (show ((⟨m.kind, m.from_, m.term, m.at_, m.atTerm, m.commit, m.yes, m.release, (rdNum r).2, m.bytes, m.cmd, m.entries⟩ : Msg)) = ((rdField r m field.toNat).2) from by simp only [rdField, h1, h2, h3, h4, h5, h6, h8, h9, if_true, if_false, Int.reduceEq, reduceIte, Bool.or_true, Bool.or_false, decide_true, decide_false, Bool.true_or, Bool.false_or] <;> rfl) (KF.n [(0, 0), (1, 1), (2, 2), (8002, 3)])
 refine AW.q 2 ?_
 refine AW.cE (field.toNat : Int) (98 : Int) (fun h10 => ?_) (fun h10 => ?_)
 · refine AW.g ?_
   refine At.a 2 ?_
   refine At.c (impl_reader_text_spec  r hr) Try.call77 true [(0, 0)] [] [] trivial ?_
   refine At.z 3 ?_
   refine ⟨_, (Sub.trans (Sub.refl _ _) (Sub.mv 2 8002 (by kernel_rfl) (by decide))), ?_⟩
   exact k2 (K_impl_reader_field _ r m field) (show (((rdText r).1)) = ((rdField r m field.toNat).1) from by simp only [rdField, h1, h2, h3, h4, h5, h6, h8, h9, h10, if_true, if_false, Int.reduceEq, reduceIte, Bool.or_true, Bool.or_false, decide_true, decide_false, Bool.true_or, Bool.false_or] <;> rfl) (show ((⟨m.kind, m.from_, m.term, m.at_, m.atTerm, m.commit, m.yes, m.release, m.part, (rdText r).2, m.cmd, m.entries⟩ : Msg)) = ((rdField r m field.toNat).2) from by simp only [rdField, h1, h2, h3, h4, h5, h6, h8, h9, h10, if_true, if_false, Int.reduceEq, reduceIte, Bool.or_true, Bool.or_false, decide_true, decide_false, Bool.true_or, Bool.false_or] <;> rfl) (KF.n [(0, 0), (1, 1), (2, 2), (8002, 3)])
 refine AW.q 2 ?_
 refine AW.cE (field.toNat : Int) (100 : Int) (fun h11 => ?_) (fun h11 => ?_)
 · refine AW.g ?_
   refine At.a 2 ?_
   refine At.c (impl_reader_cmd_spec  r hr) Try.call78 true [(0, 0)] [] [] trivial ?_
   refine At.z 3 ?_
   refine ⟨_, (Sub.trans (Sub.refl _ _) (Sub.mv 2 8002 (by kernel_rfl) (by decide))), ?_⟩
   exact k2 (K_impl_reader_field _ r m field) (show (((rdCmd r).1)) = ((rdField r m field.toNat).1) from by simp only [rdField, h1, h2, h3, h4, h5, h6, h8, h9, h10, h11, if_true, if_false, Int.reduceEq, reduceIte, Bool.or_true, Bool.or_false, decide_true, decide_false, Bool.true_or, Bool.false_or] <;> rfl) (show ((⟨m.kind, m.from_, m.term, m.at_, m.atTerm, m.commit, m.yes, m.release, m.part, m.bytes, ((rdCmd r).2), m.entries⟩ : Msg)) = ((rdField r m field.toNat).2) from by simp only [rdField, h1, h2, h3, h4, h5, h6, h8, h9, h10, h11, if_true, if_false, Int.reduceEq, reduceIte, Bool.or_true, Bool.or_false, decide_true, decide_false, Bool.true_or, Bool.false_or] <;> rfl) (KF.n [(0, 0), (1, 1), (2, 2), (8002, 3)])
 refine AW.g ?_
 refine At.a 2 ?_
 refine At.c (impl_reader_entries_spec  r hr) Try.call79 true [(0, 0)] [(1200, 1)] [] trivial ?_
 refine At.z 3 ?_
 refine ⟨_, (Sub.trans (Sub.refl _ _) (Sub.mv 2 8002 (by kernel_rfl) (by decide))), ?_⟩
 exact k2 (K_impl_reader_field _ r m field) (show (((rdEnts r).1)) = ((rdField r m field.toNat).1) from by simp only [rdField, h1, h2, h3, h4, h5, h6, h8, h9, h10, h11, if_true, if_false, Int.reduceEq, reduceIte, Bool.or_true, Bool.or_false, decide_true, decide_false, Bool.true_or, Bool.false_or] <;> rfl) (show ((⟨m.kind, m.from_, m.term, m.at_, m.atTerm, m.commit, m.yes, m.release, m.part, m.bytes, m.cmd, (rdEnts r).2⟩ : Msg)) = ((rdField r m field.toNat).2) from by simp only [rdField, h1, h2, h3, h4, h5, h6, h8, h9, h10, h11, if_true, if_false, Int.reduceEq, reduceIte, Bool.or_true, Bool.or_false, decide_true, decide_false, Bool.true_or, Bool.false_or] <;> rfl) (KF.n [(0, 0), (1, 1), (2, 2), (1200, 3)])
theorem impl_reader_done_spec  (r : Rd) (hr : RdOk r) : FnSpec Try.prog 48 [.ptr 0 0 0] [.box 70 [.sl false 1 (r.b.map encU8), .int .i64 r.at_, .bool r.bad]] (.bool (!r.bad && (r.at_ == (r.b.length : Int)))) [.box 70 [.sl false 1 (r.b.map encU8), .int .i64 r.at_, .bool r.bad]] := by
 obtain ⟨r1, r2, r3⟩ := id hr
 have hgn := getN_num r.b (at_ := r.at_)
 refine FnSpec.of 20 Try.func48 rfl Try.ntmps48 (by simp) (AW.weakK ?_)
 refine AW.q 1 ?_
 refine AW.seq ?_
 refine AW.gD Try_mix ?_
 refine At.a 6 ?_
 by_cases h1 : r.bad = true
 · refine At.sB 8 (!r.bad) false (sayNF (sayB h1)) ?_
   refine At.zD 12 ?_
   refine AW.ret ?_
   refine ⟨_, Sub.refl _ _, ?_⟩
   refine KF.conv (fun w => .bool w) (fun w => [.box 70 [.sl false 1 (r.b.map encU8), .int .i64 r.at_, .bool r.bad]]) (show (false) = (!r.bad && (r.at_ == (r.b.length : Int))) from by simp [*]) ?_
   exact KF.n [(0, 0)]
 refine At.sB 8 (!r.bad) true (sayNT (sayB (Bool.eq_false_iff.2 h1))) ?_
 replace h1 := Bool.eq_false_iff.2 h1
 refine At.a 9 ?_
 refine At.sL 17 encU8 r.b ?_
 refine At.zD 3 ?_
 refine AW.ret ?_
 refine ⟨_, Sub.refl _ _, ?_⟩
 refine KF.conv (fun w => .bool w) (fun w => [.box 70 [.sl false 1 (r.b.map encU8), .int .i64 r.at_, .bool r.bad]]) (show (r.at_ == (r.b.length : Int)) = (!r.bad && (r.at_ == (r.b.length : Int))) from by simp [*]) ?_
 exact KF.n [(0, 0)]
def K_impl_MsgRead (rs : List ResultVar) (b : List UInt8) (w0_ : Msg) (w1_ : Int) : Exit → Sg → Prop := KF Try.prog 0 rs (.tup [.agg [.int .i64 w0_.kind, .int .i64 w0_.from_, .int .i64 w0_.term, .int .i64 w0_.at_, .int .i64 w0_.atTerm, .int .i64 w0_.commit, .bool w0_.yes, .int .i64 w0_.release, .int .i64 w0_.part, .str w0_.bytes, .int .i64 w0_.cmd.kind, .int .i64 w0_.cmd.release, .int .i64 w0_.cmd.node, .int .i64 w0_.cmd.size, .str w0_.cmd.digest, .ref 0], .int .i64 w1_]) [.arr 56 6 (w0_.entries.map encEnt)]
theorem impl_MsgRead_spec  (b : List UInt8) (hb : b.length ≤ 1048576) : FnSpec Try.prog 17 [.sl false 1 (b.map encU8)] [] (.tup [.agg [.int .i64 (((msgR b).1).kind), .int .i64 (((msgR b).1).from_), .int .i64 (((msgR b).1).term), .int .i64 (((msgR b).1).at_), .int .i64 (((msgR b).1).atTerm), .int .i64 (((msgR b).1).commit), .bool (((msgR b).1).yes), .int .i64 (((msgR b).1).release), .int .i64 (((msgR b).1).part), .str (((msgR b).1).bytes), .int .i64 (((msgR b).1).cmd.kind), .int .i64 (((msgR b).1).cmd.release), .int .i64 (((msgR b).1).cmd.node), .int .i64 (((msgR b).1).cmd.size), .str (((msgR b).1).cmd.digest), .ref 0], .int .i64 ((msgR b).2)]) [.arr 56 6 ((((msgR b).1).entries).map encEnt)] := by
 have hul := unsealB_len b 0
 have hq0 : RdOk ⟨(unsealB b 0).1, 0, false⟩ := ⟨by dsimp only; omega, by dsimp only; omega, by dsimp only; omega⟩
 have hf6 := fieldsL_six (rdNum ⟨(unsealB b 0).1, 0, false⟩).2
 refine FnSpec.of 73 Try.func17 rfl Try.ntmps17 (by simp) (AW.weakK ?_)
 refine AW.q 2 ?_
 refine AW.seq ?_
 refine AW.weak (Sub.nils [⟨true, 102, some 15, 5001, 56, 6⟩] (by kernel_rfl)) ?_
 refine AW.g ?_
 refine At.a 1 ?_
 refine At.c (impl_Unseal_spec  b 0 hb (by omega)) Try.call45 true [] [(1260, 0)] [] trivial ?_
 refine At.z 7 ?_
 refine AW.seq ?_
 refine AW.seq ?_
 refine AW.weak (Sub.frz 1260 5 1 (((unsealB b 0).1).map encU8) (by kernel_rfl) flatU8) ?_
 refine AW.g ?_
 refine At.a 3 ?_
 by_cases h1 : (unsealB b 0).2.2 = 0
 · refine At.sB 19 _ _ (sayUF h1) ?_
   refine At.a 3 ?_
   refine At.sL 22 encU8 b ?_
   refine At.z 2 ?_
   refine AW.cU ((unsealB b 0).2.1) (b.length : Int) (fun h2 => ?_) (fun h2 => ?_)
   · refine AW.q 3 ?_
     refine AW.ret ?_
     refine ⟨_, Sub.nils [⟨true, 102, some 15, 5002, 56, 6⟩] (by kernel_rfl), ?_⟩
     exact k2 (K_impl_MsgRead _ b) (show ((⟨0, 0, 0, 0, 0, 0, false, 0, 0, (⟨#[]⟩ : ByteArray), ⟨0, 0, 0, 0, (⟨#[]⟩ : ByteArray)⟩, []⟩ : Msg)) = ((msgR b).1) from (by rw [← msgRI_eq]; first | (rw [msgRI_1 (by exact Or.inr (by first | assumption | (rw [← noBytes]; assumption)))]; first | done | rfl) | (rw [msgRI_2 (by assumption) (by assumption) (by first | exact Or.inl (by assumption) | exact Or.inr (by first | assumption | (rw [← noBytes]; assumption)))]; first | done | rfl) | (have hE := hR.trans (show rdFields ((fieldsL (rdNum ⟨(unsealB b 0).1, 0, false⟩).2).data.toList.drop k) r q = (r, q) from by rw [List.drop_of_length_le (by rw [Array.length_toList]; show (fieldsL (rdNum ⟨(unsealB b 0).1, 0, false⟩).2).size ≤ _; omega), rdFields]) ; first | (rw [msgRI_3 (by assumption) (by assumption) (by assumption) (by rw [← noBytes]; assumption) hE (by assumption)]; first | done | rfl) | (rw [msgRI_4 (by assumption) (by assumption) (by assumption) (by rw [← noBytes]; assumption) hE (by assumption) (by assumption)]; first | done | rfl) | (rw [msgRI_5 (by assumption) (by assumption) (by assumption) (by rw [← noBytes]; assumption) hE (by assumption) (by assumption) (by assumption)]; first | done | rfl) | (rw [msgRI_0 (by assumption) (by assumption) (by assumption) (by rw [← noBytes]; assumption) hE (by assumption) (by assumption) (by assumption)]; first | done | rfl)))) (show (1) = ((msgR b).2) from (by rw [← msgRI_eq]; first | (rw [msgRI_1 (by exact Or.inr (by first | assumption | (rw [← noBytes]; assumption)))]; first | done | rfl) | (rw [msgRI_2 (by assumption) (by assumption) (by first | exact Or.inl (by assumption) | exact Or.inr (by first | assumption | (rw [← noBytes]; assumption)))]; first | done | rfl) | (have hE := hR.trans (show rdFields ((fieldsL (rdNum ⟨(unsealB b 0).1, 0, false⟩).2).data.toList.drop k) r q = (r, q) from by rw [List.drop_of_length_le (by rw [Array.length_toList]; show (fieldsL (rdNum ⟨(unsealB b 0).1, 0, false⟩).2).size ≤ _; omega), rdFields]) ; first | (rw [msgRI_3 (by assumption) (by assumption) (by assumption) (by rw [← noBytes]; assumption) hE (by assumption)]; first | done | rfl) | (rw [msgRI_4 (by assumption) (by assumption) (by assumption) (by rw [← noBytes]; assumption) hE (by assumption) (by assumption)]; first | done | rfl) | (rw [msgRI_5 (by assumption) (by assumption) (by assumption) (by rw [← noBytes]; assumption) hE (by assumption) (by assumption) (by assumption)]; first | done | rfl) | (rw [msgRI_0 (by assumption) (by assumption) (by assumption) (by rw [← noBytes]; assumption) hE (by assumption) (by assumption) (by assumption)]; first | done | rfl)))) (KF.n [(5002, 0)])
   refine AW.skip ?_
   refine AW.q 4 ?_
   refine AW.seq ?_
   refine AW.weak (Sub.tsl 128 0 70 1 (((unsealB b 0).1).map encU8) [.sl true 1 (((unsealB b 0).1).map encU8), .int .i64 0, .bool false] (by kernel_rfl)) ?_
   refine AW.gq 3 ?_
   refine AW.seq ?_
   refine AW.weak (Sub.nils [⟨true, 108, some 15, 5003, 56, 6⟩] (by kernel_rfl)) ?_
   refine AW.g ?_
   refine At.a 1 ?_
   refine At.c (impl_reader_num_spec  (⟨(unsealB b 0).1, 0, false⟩ : Rd) (by exact hq0)) Try.call46 true [(128, 0)] [] [] trivial ?_
   refine At.z 2 ?_
   refine AW.r ?_
   refine At.a 2 ?_
   refine At.c (impl_fieldsOf_spec  ((rdNum (⟨(unsealB b 0).1, 0, false⟩ : Rd)).2) ) Try.call37 true [] [] [] trivial ?_
   refine At.z 1 ?_
   refine AW.seq ?_
   refine AW.r ?_
   refine At.a 5 ?_
   by_cases h3 : (((rdNum (⟨(unsealB b 0).1, 0, false⟩ : Rd)).1).bad) = true
   · refine At.sB 40 (((rdNum (⟨(unsealB b 0).1, 0, false⟩ : Rd)).1).bad) true (sayB h3) ?_
     refine At.z 3 ?_
     refine AW.cond true (by kernel_rfl) (fun _ => ?_) (fun h => by cases h)
     refine AW.q 3 ?_
     refine AW.ret ?_
     refine ⟨_, Sub.nils [⟨true, 102, some 15, 5004, 56, 6⟩] (by kernel_rfl), ?_⟩
     exact k2 (K_impl_MsgRead _ b) (show ((⟨0, 0, 0, 0, 0, 0, false, 0, 0, (⟨#[]⟩ : ByteArray), ⟨0, 0, 0, 0, (⟨#[]⟩ : ByteArray)⟩, []⟩ : Msg)) = ((msgR b).1) from (by rw [← msgRI_eq]; first | (rw [msgRI_1 (by first | exact Or.inl (by assumption) | exact Or.inr (by first | assumption | (rw [← noBytes]; assumption)))]; first | done | rfl) | (rw [msgRI_2 (by assumption) (by assumption) (by exact Or.inl (by assumption))]; first | done | rfl) | (have hE := hR.trans (show rdFields ((fieldsL (rdNum ⟨(unsealB b 0).1, 0, false⟩).2).data.toList.drop k) r q = (r, q) from by rw [List.drop_of_length_le (by rw [Array.length_toList]; show (fieldsL (rdNum ⟨(unsealB b 0).1, 0, false⟩).2).size ≤ _; omega), rdFields]) ; first | (rw [msgRI_3 (by assumption) (by assumption) (by assumption) (by rw [← noBytes]; assumption) hE (by assumption)]; first | done | rfl) | (rw [msgRI_4 (by assumption) (by assumption) (by assumption) (by rw [← noBytes]; assumption) hE (by assumption) (by assumption)]; first | done | rfl) | (rw [msgRI_5 (by assumption) (by assumption) (by assumption) (by rw [← noBytes]; assumption) hE (by assumption) (by assumption) (by assumption)]; first | done | rfl) | (rw [msgRI_0 (by assumption) (by assumption) (by assumption) (by rw [← noBytes]; assumption) hE (by assumption) (by assumption) (by assumption)]; first | done | rfl)))) (show (2) = ((msgR b).2) from (by rw [← msgRI_eq]; first | (rw [msgRI_1 (by first | exact Or.inl (by assumption) | exact Or.inr (by first | assumption | (rw [← noBytes]; assumption)))]; first | done | rfl) | (rw [msgRI_2 (by assumption) (by assumption) (by exact Or.inl (by assumption))]; first | done | rfl) | (have hE := hR.trans (show rdFields ((fieldsL (rdNum ⟨(unsealB b 0).1, 0, false⟩).2).data.toList.drop k) r q = (r, q) from by rw [List.drop_of_length_le (by rw [Array.length_toList]; show (fieldsL (rdNum ⟨(unsealB b 0).1, 0, false⟩).2).size ≤ _; omega), rdFields]) ; first | (rw [msgRI_3 (by assumption) (by assumption) (by assumption) (by rw [← noBytes]; assumption) hE (by assumption)]; first | done | rfl) | (rw [msgRI_4 (by assumption) (by assumption) (by assumption) (by rw [← noBytes]; assumption) hE (by assumption) (by assumption)]; first | done | rfl) | (rw [msgRI_5 (by assumption) (by assumption) (by assumption) (by rw [← noBytes]; assumption) hE (by assumption) (by assumption) (by assumption)]; first | done | rfl) | (rw [msgRI_0 (by assumption) (by assumption) (by assumption) (by rw [← noBytes]; assumption) hE (by assumption) (by assumption) (by assumption)]; first | done | rfl)))) (KF.n [(5004, 0)])
   refine At.sB 40 (((rdNum (⟨(unsealB b 0).1, 0, false⟩ : Rd)).1).bad) false (sayB (Bool.eq_false_iff.2 h3)) ?_
   replace h3 := Bool.eq_false_iff.2 h3
   refine At.z 3 ?_
   refine AW.cE ((fieldsL ((rdNum (⟨(unsealB b 0).1, 0, false⟩ : Rd)).2)).toList) ((⟨#[]⟩ : ByteArray).toList) (fun h4 => ?_) (fun h4 => ?_)
   · refine AW.q 3 ?_
     refine AW.ret ?_
     refine ⟨_, Sub.nils [⟨true, 102, some 15, 5005, 56, 6⟩] (by kernel_rfl), ?_⟩
     exact k2 (K_impl_MsgRead _ b) (show ((⟨0, 0, 0, 0, 0, 0, false, 0, 0, (⟨#[]⟩ : ByteArray), ⟨0, 0, 0, 0, (⟨#[]⟩ : ByteArray)⟩, []⟩ : Msg)) = ((msgR b).1) from (by rw [← msgRI_eq]; first | (rw [msgRI_1 (by first | exact Or.inl (by assumption) | exact Or.inr (by first | assumption | (rw [← noBytes]; assumption)))]; first | done | rfl) | (rw [msgRI_2 (by assumption) (by assumption) (by exact Or.inr (by first | assumption | (rw [← noBytes]; assumption)))]; first | done | rfl) | (have hE := hR.trans (show rdFields ((fieldsL (rdNum ⟨(unsealB b 0).1, 0, false⟩).2).data.toList.drop k) r q = (r, q) from by rw [List.drop_of_length_le (by rw [Array.length_toList]; show (fieldsL (rdNum ⟨(unsealB b 0).1, 0, false⟩).2).size ≤ _; omega), rdFields]) ; first | (rw [msgRI_3 (by assumption) (by assumption) (by assumption) (by rw [← noBytes]; assumption) hE (by assumption)]; first | done | rfl) | (rw [msgRI_4 (by assumption) (by assumption) (by assumption) (by rw [← noBytes]; assumption) hE (by assumption) (by assumption)]; first | done | rfl) | (rw [msgRI_5 (by assumption) (by assumption) (by assumption) (by rw [← noBytes]; assumption) hE (by assumption) (by assumption) (by assumption)]; first | done | rfl) | (rw [msgRI_0 (by assumption) (by assumption) (by assumption) (by rw [← noBytes]; assumption) hE (by assumption) (by assumption) (by assumption)]; first | done | rfl)))) (show (2) = ((msgR b).2) from (by rw [← msgRI_eq]; first | (rw [msgRI_1 (by first | exact Or.inl (by assumption) | exact Or.inr (by first | assumption | (rw [← noBytes]; assumption)))]; first | done | rfl) | (rw [msgRI_2 (by assumption) (by assumption) (by exact Or.inr (by first | assumption | (rw [← noBytes]; assumption)))]; first | done | rfl) | (have hE := hR.trans (show rdFields ((fieldsL (rdNum ⟨(unsealB b 0).1, 0, false⟩).2).data.toList.drop k) r q = (r, q) from by rw [List.drop_of_length_le (by rw [Array.length_toList]; show (fieldsL (rdNum ⟨(unsealB b 0).1, 0, false⟩).2).size ≤ _; omega), rdFields]) ; first | (rw [msgRI_3 (by assumption) (by assumption) (by assumption) (by rw [← noBytes]; assumption) hE (by assumption)]; first | done | rfl) | (rw [msgRI_4 (by assumption) (by assumption) (by assumption) (by rw [← noBytes]; assumption) hE (by assumption) (by assumption)]; first | done | rfl) | (rw [msgRI_5 (by assumption) (by assumption) (by assumption) (by rw [← noBytes]; assumption) hE (by assumption) (by assumption) (by assumption)]; first | done | rfl) | (rw [msgRI_0 (by assumption) (by assumption) (by assumption) (by rw [← noBytes]; assumption) hE (by assumption) (by assumption) (by assumption)]; first | done | rfl)))) (KF.n [(5005, 0)])
   refine AW.skip ?_
   refine AW.seq ?_
   refine AW.q 3 ?_
   refine AW.block ?_
   refine AW.loopW (fun (x : Nat × Rd × Msg) => match x with | (k, r, q) => Go.Sy.mk [.un, .un, .ptr 102 0 0, .un, .un, .un, .un, .ptr 128 0 0, .ptr 108 0 0, .str (fieldsL ((rdNum (⟨(unsealB b 0).1, 0, false⟩ : Rd)).2)), .un, .un, .un, .un, .un, .un, .un, .un, .un, .un, .un, .un, .un, .un, .un, .un, .un, .un, .un, .un, .un, .un, .un, .un, .un, .un, .un, .un, .un, .un, .un, .un, .un, .un, .un, .un, .int .i64 ((fieldsL ((rdNum (⟨(unsealB b 0).1, 0, false⟩ : Rd)).2)).size : Int), .int .i64 (k : Int)] [(102, .box 34 [.int .i64 0, .int .i64 0, .int .i64 0, .int .i64 0, .int .i64 0, .int .i64 0, .bool false, .int .i64 0, .int .i64 0, .str (⟨#[]⟩ : ByteArray), .int .i64 0, .int .i64 0, .int .i64 0, .int .i64 0, .str (⟨#[]⟩ : ByteArray), .ref 5001]), (108, .box 34 [.int .i64 q.kind, .int .i64 q.from_, .int .i64 q.term, .int .i64 q.at_, .int .i64 q.atTerm, .int .i64 q.commit, .bool q.yes, .int .i64 q.release, .int .i64 q.part, .str q.bytes, .int .i64 q.cmd.kind, .int .i64 q.cmd.release, .int .i64 q.cmd.node, .int .i64 q.cmd.size, .str q.cmd.digest, .ref 5003]), (128, .box 70 [.sl false 1 (r.b.map encU8), .int .i64 r.at_, .bool r.bad]), (5001, .arr 56 6 []), (5003, .arr 56 6 (q.entries.map encEnt))]) (fun (x : Nat × Rd × Msg) => match x with | (k, r, q) => k ≤ (fieldsL (rdNum ⟨(unsealB b 0).1, 0, false⟩).2).size ∧ RdOk r ∧ q.entries.length ≤ 7 ∧ rdFields (fieldsL (rdNum ⟨(unsealB b 0).1, 0, false⟩).2).data.toList (rdNum ⟨(unsealB b 0).1, 0, false⟩).1 (kMsg (rdNum ⟨(unsealB b 0).1, 0, false⟩).2) = rdFields ((fieldsL (rdNum ⟨(unsealB b 0).1, 0, false⟩).2).data.toList.drop k) r q) (fun (x : Nat × Rd × Msg) => match x with | (k, r, q) => (fieldsL (rdNum ⟨(unsealB b 0).1, 0, false⟩).2).size - k) (0, ((rdNum (⟨(unsealB b 0).1, 0, false⟩ : Rd)).1), (⟨(rdNum (⟨(unsealB b 0).1, 0, false⟩ : Rd)).2, 0, 0, 0, 0, 0, false, 0, 0, (⟨#[]⟩ : ByteArray), ⟨0, 0, 0, 0, (⟨#[]⟩ : ByteArray)⟩, []⟩ : Msg)) ⟨by omega, rdNum_ok hq0, by simp, by rw [List.drop_zero]; rfl⟩ (Sub.o [(102, 102), (108, 108), (128, 128), (5001, 5001), (5003, 5003)] [false, false, true, false, false, false, false, true, true, true, false, false, false, false, false, false, false, false, false, false, false, false, false, false, false, false, false, false, false, false, false, false, false, false, false, false, false, false, false, false, false, false, false, false, false, false, true, true]) ?_
   rintro ⟨k, r, q⟩ ⟨hk, hr, hq, hR⟩
   refine AW.q 1 ?_
   refine AW.seq ?_
   refine AW.cD ((k : Int) < ((fieldsL ((rdNum (⟨(unsealB b 0).1, 0, false⟩ : Rd)).2)).size : Int)) (fun h5 => ?_) (fun h5 => ?_)
   · refine AW.skip ?_
     refine AW.seq ?_
     refine AW.block ?_
     refine AW.q 2 ?_
     refine AW.g ?_
     refine At.a 3 ?_
     refine Exists.elim (show ∃ e, (fieldsL ((rdNum (⟨(unsealB b 0).1, 0, false⟩ : Rd)).2)).data[k]? = some e from ⟨_, Array.getElem?_eq_getElem (by show _ < (fieldsL ((rdNum (⟨(unsealB b 0).1, 0, false⟩ : Rd)).2)).size; omega)⟩) fun e1 he1 => ?_
     have hl1 : (fieldsL (rdNum ⟨(unsealB b 0).1, 0, false⟩).2).data.toList[k]? = some e1 := by simpa using he1
     refine At.idxStr (t := 9) (d := 53) (x := .tmp 51) (y := .tmp 52) (s := fieldsL ((rdNum (⟨(unsealB b 0).1, 0, false⟩ : Rd)).2)) (kd := .i64) (i := (k : Int)) e1 (by kernel_rfl) (by kernel_rfl) (by kernel_rfl) (by kernel_rfl) (by omega) he1 ?_
     refine At.c (impl_reader_field_spec  r q e1 (by exact hr)) Try.call47 true [(128, 0), (108, 1), (5003, 2)] [(2080, 3)] [] trivial ?_
     refine At.done rfl ?_
     refine AW.g ?_
     refine At.a 1 ?_
     refine At.sI 55 ((k : Int) + 1) (by omega) ?_
     refine At.z 1 ?_
     exact ⟨(k + 1, ((rdField r q e1.toNat).1), ((rdField r q e1.toNat).2)), ⟨by omega, rdField_ok q _ hr, rdField_ents q _ hr hq, by rw [hR, dropCons hl1, rdFields]⟩, (by simp only; omega), Sub.o [(102, 102), (108, 108), (128, 128), (5001, 5001), (2080, 5003)] [false, false, true, false, false, false, false, true, true, true, false, false, false, false, false, false, false, false, false, false, false, false, false, false, false, false, false, false, false, false, false, false, false, false, false, false, false, false, false, false, false, false, false, false, false, false, true, true]⟩
   refine AW.exit ?_
   refine AW.seq ?_
   refine AW.block ?_
   refine AW.q 5 ?_
   refine AW.cB (r.bad) (fun h6 => ?_) (fun h6 => ?_)
   · refine AW.q 3 ?_
     refine AW.ret ?_
     refine ⟨_, Sub.nils [⟨true, 102, some 15, 5006, 56, 6⟩] (by kernel_rfl), ?_⟩
     exact k2 (K_impl_MsgRead _ b) (show ((⟨0, 0, 0, 0, 0, 0, false, 0, 0, (⟨#[]⟩ : ByteArray), ⟨0, 0, 0, 0, (⟨#[]⟩ : ByteArray)⟩, []⟩ : Msg)) = ((msgR b).1) from (by rw [← msgRI_eq]; first | (rw [msgRI_1 (by first | exact Or.inl (by assumption) | exact Or.inr (by first | assumption | (rw [← noBytes]; assumption)))]; first | done | rfl) | (rw [msgRI_2 (by assumption) (by assumption) (by first | exact Or.inl (by assumption) | exact Or.inr (by first | assumption | (rw [← noBytes]; assumption)))]; first | done | rfl) | (have hE := hR.trans (show rdFields ((fieldsL (rdNum ⟨(unsealB b 0).1, 0, false⟩).2).data.toList.drop k) r q = (r, q) from by rw [List.drop_of_length_le (by rw [Array.length_toList]; show (fieldsL (rdNum ⟨(unsealB b 0).1, 0, false⟩).2).size ≤ _; omega), rdFields]) ; first | (rw [msgRI_3 (by assumption) (by assumption) (by assumption) (by rw [← noBytes]; assumption) hE (by assumption)]; first | done | rfl) | (rw [msgRI_4 (by assumption) (by assumption) (by assumption) (by rw [← noBytes]; assumption) hE (by assumption) (by assumption)]; first | done | rfl) | (rw [msgRI_5 (by assumption) (by assumption) (by assumption) (by rw [← noBytes]; assumption) hE (by assumption) (by assumption) (by assumption)]; first | done | rfl) | (rw [msgRI_0 (by assumption) (by assumption) (by assumption) (by rw [← noBytes]; assumption) hE (by assumption) (by assumption) (by assumption)]; first | done | rfl)))) (show (3) = ((msgR b).2) from (by rw [← msgRI_eq]; first | (rw [msgRI_1 (by first | exact Or.inl (by assumption) | exact Or.inr (by first | assumption | (rw [← noBytes]; assumption)))]; first | done | rfl) | (rw [msgRI_2 (by assumption) (by assumption) (by first | exact Or.inl (by assumption) | exact Or.inr (by first | assumption | (rw [← noBytes]; assumption)))]; first | done | rfl) | (have hE := hR.trans (show rdFields ((fieldsL (rdNum ⟨(unsealB b 0).1, 0, false⟩).2).data.toList.drop k) r q = (r, q) from by rw [List.drop_of_length_le (by rw [Array.length_toList]; show (fieldsL (rdNum ⟨(unsealB b 0).1, 0, false⟩).2).size ≤ _; omega), rdFields]) ; first | (rw [msgRI_3 (by assumption) (by assumption) (by assumption) (by rw [← noBytes]; assumption) hE (by assumption)]; first | done | rfl) | (rw [msgRI_4 (by assumption) (by assumption) (by assumption) (by rw [← noBytes]; assumption) hE (by assumption) (by assumption)]; first | done | rfl) | (rw [msgRI_5 (by assumption) (by assumption) (by assumption) (by rw [← noBytes]; assumption) hE (by assumption) (by assumption) (by assumption)]; first | done | rfl) | (rw [msgRI_0 (by assumption) (by assumption) (by assumption) (by rw [← noBytes]; assumption) hE (by assumption) (by assumption) (by assumption)]; first | done | rfl)))) (KF.n [(5006, 0)])
   refine AW.r ?_
   refine At.a 1 ?_
   refine At.c (impl_reader_done_spec  r (by exact hr)) Try.call48 true [(128, 0)] [] [] trivial ?_
   refine At.z 2 ?_
   refine AW.cNB (!r.bad && (r.at_ == (r.b.length : Int))) (fun h7 => ?_) (fun h7 => ?_)
   · refine AW.q 3 ?_
     refine AW.ret ?_
     refine ⟨_, Sub.nils [⟨true, 102, some 15, 5007, 56, 6⟩] (by kernel_rfl), ?_⟩
     exact k2 (K_impl_MsgRead _ b) (show ((⟨0, 0, 0, 0, 0, 0, false, 0, 0, (⟨#[]⟩ : ByteArray), ⟨0, 0, 0, 0, (⟨#[]⟩ : ByteArray)⟩, []⟩ : Msg)) = ((msgR b).1) from (by rw [← msgRI_eq]; first | (rw [msgRI_1 (by first | exact Or.inl (by assumption) | exact Or.inr (by first | assumption | (rw [← noBytes]; assumption)))]; first | done | rfl) | (rw [msgRI_2 (by assumption) (by assumption) (by first | exact Or.inl (by assumption) | exact Or.inr (by first | assumption | (rw [← noBytes]; assumption)))]; first | done | rfl) | (have hE := hR.trans (show rdFields ((fieldsL (rdNum ⟨(unsealB b 0).1, 0, false⟩).2).data.toList.drop k) r q = (r, q) from by rw [List.drop_of_length_le (by rw [Array.length_toList]; show (fieldsL (rdNum ⟨(unsealB b 0).1, 0, false⟩).2).size ≤ _; omega), rdFields]) ; first | (rw [msgRI_3 (by assumption) (by assumption) (by assumption) (by rw [← noBytes]; assumption) hE (by assumption)]; first | done | rfl) | (rw [msgRI_4 (by assumption) (by assumption) (by assumption) (by rw [← noBytes]; assumption) hE (by assumption) (by assumption)]; first | done | rfl) | (rw [msgRI_5 (by assumption) (by assumption) (by assumption) (by rw [← noBytes]; assumption) hE (by assumption) (by assumption) (by assumption)]; first | done | rfl) | (rw [msgRI_0 (by assumption) (by assumption) (by assumption) (by rw [← noBytes]; assumption) hE (by assumption) (by assumption) (by assumption)]; first | done | rfl)))) (show (4) = ((msgR b).2) from (by rw [← msgRI_eq]; first | (rw [msgRI_1 (by first | exact Or.inl (by assumption) | exact Or.inr (by first | assumption | (rw [← noBytes]; assumption)))]; first | done | rfl) | (rw [msgRI_2 (by assumption) (by assumption) (by first | exact Or.inl (by assumption) | exact Or.inr (by first | assumption | (rw [← noBytes]; assumption)))]; first | done | rfl) | (have hE := hR.trans (show rdFields ((fieldsL (rdNum ⟨(unsealB b 0).1, 0, false⟩).2).data.toList.drop k) r q = (r, q) from by rw [List.drop_of_length_le (by rw [Array.length_toList]; show (fieldsL (rdNum ⟨(unsealB b 0).1, 0, false⟩).2).size ≤ _; omega), rdFields]) ; first | (rw [msgRI_3 (by assumption) (by assumption) (by assumption) (by rw [← noBytes]; assumption) hE (by assumption)]; first | done | rfl) | (rw [msgRI_4 (by assumption) (by assumption) (by assumption) (by rw [← noBytes]; assumption) hE (by assumption) (by assumption)]; first | done | rfl) | (rw [msgRI_5 (by assumption) (by assumption) (by assumption) (by rw [← noBytes]; assumption) hE (by assumption) (by assumption) (by assumption)]; first | done | rfl) | (rw [msgRI_0 (by assumption) (by assumption) (by assumption) (by rw [← noBytes]; assumption) hE (by assumption) (by assumption) (by assumption)]; first | done | rfl)))) (KF.n [(5007, 0)])
   refine AW.r ?_
   refine At.a 1 ?_
   refine At.c (impl_MsgFits_spec  q (by omega)) Try.call35 false [] [] [(5003, 6, (q.entries.map encEnt))] ⟨rfl, ⟨56, (q.entries.map encEnt), by kernel_rfl, FrzIs.same (allP_encEnt _)⟩, trivial⟩ ?_
   refine At.z 2 ?_
   refine AW.cNB (msgFits q) (fun h8 => ?_) (fun h8 => ?_)
   · refine AW.q 3 ?_
     refine AW.ret ?_
     refine ⟨_, Sub.nils [⟨true, 102, some 15, 5008, 56, 6⟩] (by kernel_rfl), ?_⟩
     exact k2 (K_impl_MsgRead _ b) (show ((⟨0, 0, 0, 0, 0, 0, false, 0, 0, (⟨#[]⟩ : ByteArray), ⟨0, 0, 0, 0, (⟨#[]⟩ : ByteArray)⟩, []⟩ : Msg)) = ((msgR b).1) from (by rw [← msgRI_eq]; first | (rw [msgRI_1 (by first | exact Or.inl (by assumption) | exact Or.inr (by first | assumption | (rw [← noBytes]; assumption)))]; first | done | rfl) | (rw [msgRI_2 (by assumption) (by assumption) (by first | exact Or.inl (by assumption) | exact Or.inr (by first | assumption | (rw [← noBytes]; assumption)))]; first | done | rfl) | (have hE := hR.trans (show rdFields ((fieldsL (rdNum ⟨(unsealB b 0).1, 0, false⟩).2).data.toList.drop k) r q = (r, q) from by rw [List.drop_of_length_le (by rw [Array.length_toList]; show (fieldsL (rdNum ⟨(unsealB b 0).1, 0, false⟩).2).size ≤ _; omega), rdFields]) ; first | (rw [msgRI_3 (by assumption) (by assumption) (by assumption) (by rw [← noBytes]; assumption) hE (by assumption)]; first | done | rfl) | (rw [msgRI_4 (by assumption) (by assumption) (by assumption) (by rw [← noBytes]; assumption) hE (by assumption) (by assumption)]; first | done | rfl) | (rw [msgRI_5 (by assumption) (by assumption) (by assumption) (by rw [← noBytes]; assumption) hE (by assumption) (by assumption) (by assumption)]; first | done | rfl) | (rw [msgRI_0 (by assumption) (by assumption) (by assumption) (by rw [← noBytes]; assumption) hE (by assumption) (by assumption) (by assumption)]; first | done | rfl)))) (show (5) = ((msgR b).2) from (by rw [← msgRI_eq]; first | (rw [msgRI_1 (by first | exact Or.inl (by assumption) | exact Or.inr (by first | assumption | (rw [← noBytes]; assumption)))]; first | done | rfl) | (rw [msgRI_2 (by assumption) (by assumption) (by first | exact Or.inl (by assumption) | exact Or.inr (by first | assumption | (rw [← noBytes]; assumption)))]; first | done | rfl) | (have hE := hR.trans (show rdFields ((fieldsL (rdNum ⟨(unsealB b 0).1, 0, false⟩).2).data.toList.drop k) r q = (r, q) from by rw [List.drop_of_length_le (by rw [Array.length_toList]; show (fieldsL (rdNum ⟨(unsealB b 0).1, 0, false⟩).2).size ≤ _; omega), rdFields]) ; first | (rw [msgRI_3 (by assumption) (by assumption) (by assumption) (by rw [← noBytes]; assumption) hE (by assumption)]; first | done | rfl) | (rw [msgRI_4 (by assumption) (by assumption) (by assumption) (by rw [← noBytes]; assumption) hE (by assumption) (by assumption)]; first | done | rfl) | (rw [msgRI_5 (by assumption) (by assumption) (by assumption) (by rw [← noBytes]; assumption) hE (by assumption) (by assumption) (by assumption)]; first | done | rfl) | (rw [msgRI_0 (by assumption) (by assumption) (by assumption) (by rw [← noBytes]; assumption) hE (by assumption) (by assumption) (by assumption)]; first | done | rfl)))) (KF.n [(5008, 0)])
   refine AW.skip ?_
   refine AW.q 3 ?_
   exact AW.ret (rf (k2 (K_impl_MsgRead _ b) (show (q) = ((msgR b).1) from (by rw [← msgRI_eq]; first | (rw [msgRI_1 (by first | exact Or.inl (by assumption) | exact Or.inr (by first | assumption | (rw [← noBytes]; assumption)))]; first | done | rfl) | (rw [msgRI_2 (by assumption) (by assumption) (by first | exact Or.inl (by assumption) | exact Or.inr (by first | assumption | (rw [← noBytes]; assumption)))]; first | done | rfl) | (have hE := hR.trans (show rdFields ((fieldsL (rdNum ⟨(unsealB b 0).1, 0, false⟩).2).data.toList.drop k) r q = (r, q) from by rw [List.drop_of_length_le (by rw [Array.length_toList]; show (fieldsL (rdNum ⟨(unsealB b 0).1, 0, false⟩).2).size ≤ _; omega), rdFields]) ; first | (rw [msgRI_3 (by assumption) (by assumption) (by assumption) (by rw [← noBytes]; assumption) hE (by assumption)]; first | done | rfl) | (rw [msgRI_4 (by assumption) (by assumption) (by assumption) (by rw [← noBytes]; assumption) hE (by assumption) (by assumption)]; first | done | rfl) | (rw [msgRI_5 (by assumption) (by assumption) (by assumption) (by rw [← noBytes]; assumption) hE (by assumption) (by assumption) (by assumption)]; first | done | rfl) | (rw [msgRI_0 (by assumption) (by assumption) (by assumption) (by rw [← noBytes]; assumption) hE (by assumption) (by assumption) (by assumption)]; first | done | rfl)))) (show (0) = ((msgR b).2) from (by rw [← msgRI_eq]; first | (rw [msgRI_1 (by first | exact Or.inl (by assumption) | exact Or.inr (by first | assumption | (rw [← noBytes]; assumption)))]; first | done | rfl) | (rw [msgRI_2 (by assumption) (by assumption) (by first | exact Or.inl (by assumption) | exact Or.inr (by first | assumption | (rw [← noBytes]; assumption)))]; first | done | rfl) | (have hE := hR.trans (show rdFields ((fieldsL (rdNum ⟨(unsealB b 0).1, 0, false⟩).2).data.toList.drop k) r q = (r, q) from by rw [List.drop_of_length_le (by rw [Array.length_toList]; show (fieldsL (rdNum ⟨(unsealB b 0).1, 0, false⟩).2).size ≤ _; omega), rdFields]) ; first | (rw [msgRI_3 (by assumption) (by assumption) (by assumption) (by rw [← noBytes]; assumption) hE (by assumption)]; first | done | rfl) | (rw [msgRI_4 (by assumption) (by assumption) (by assumption) (by rw [← noBytes]; assumption) hE (by assumption) (by assumption)]; first | done | rfl) | (rw [msgRI_5 (by assumption) (by assumption) (by assumption) (by rw [← noBytes]; assumption) hE (by assumption) (by assumption) (by assumption)]; first | done | rfl) | (rw [msgRI_0 (by assumption) (by assumption) (by assumption) (by rw [← noBytes]; assumption) hE (by assumption) (by assumption) (by assumption)]; first | done | rfl)))) (KF.n [(5003, 0)])))
 refine At.sB 19 _ _ (sayUT h1) ?_
 refine At.z 5 ?_
 refine AW.cond true (by kernel_rfl) (fun _ => ?_) (fun h => by cases h)
 refine AW.q 3 ?_
 refine AW.ret ?_
 refine ⟨_, Sub.nils [⟨true, 102, some 15, 5009, 56, 6⟩] (by kernel_rfl), ?_⟩
 exact k2 (K_impl_MsgRead _ b) (show ((⟨0, 0, 0, 0, 0, 0, false, 0, 0, (⟨#[]⟩ : ByteArray), ⟨0, 0, 0, 0, (⟨#[]⟩ : ByteArray)⟩, []⟩ : Msg)) = ((msgR b).1) from (by rw [← msgRI_eq]; first | (rw [msgRI_1 (by exact Or.inl (by assumption))]; first | done | rfl) | (rw [msgRI_2 (by assumption) (by assumption) (by first | exact Or.inl (by assumption) | exact Or.inr (by first | assumption | (rw [← noBytes]; assumption)))]; first | done | rfl) | (have hE := hR.trans (show rdFields ((fieldsL (rdNum ⟨(unsealB b 0).1, 0, false⟩).2).data.toList.drop k) r q = (r, q) from by rw [List.drop_of_length_le (by rw [Array.length_toList]; show (fieldsL (rdNum ⟨(unsealB b 0).1, 0, false⟩).2).size ≤ _; omega), rdFields]) ; first | (rw [msgRI_3 (by assumption) (by assumption) (by assumption) (by rw [← noBytes]; assumption) hE (by assumption)]; first | done | rfl) | (rw [msgRI_4 (by assumption) (by assumption) (by assumption) (by rw [← noBytes]; assumption) hE (by assumption) (by assumption)]; first | done | rfl) | (rw [msgRI_5 (by assumption) (by assumption) (by assumption) (by rw [← noBytes]; assumption) hE (by assumption) (by assumption) (by assumption)]; first | done | rfl) | (rw [msgRI_0 (by assumption) (by assumption) (by assumption) (by rw [← noBytes]; assumption) hE (by assumption) (by assumption) (by assumption)]; first | done | rfl)))) (show (1) = ((msgR b).2) from (by rw [← msgRI_eq]; first | (rw [msgRI_1 (by exact Or.inl (by assumption))]; first | done | rfl) | (rw [msgRI_2 (by assumption) (by assumption) (by first | exact Or.inl (by assumption) | exact Or.inr (by first | assumption | (rw [← noBytes]; assumption)))]; first | done | rfl) | (have hE := hR.trans (show rdFields ((fieldsL (rdNum ⟨(unsealB b 0).1, 0, false⟩).2).data.toList.drop k) r q = (r, q) from by rw [List.drop_of_length_le (by rw [Array.length_toList]; show (fieldsL (rdNum ⟨(unsealB b 0).1, 0, false⟩).2).size ≤ _; omega), rdFields]) ; first | (rw [msgRI_3 (by assumption) (by assumption) (by assumption) (by rw [← noBytes]; assumption) hE (by assumption)]; first | done | rfl) | (rw [msgRI_4 (by assumption) (by assumption) (by assumption) (by rw [← noBytes]; assumption) hE (by assumption) (by assumption)]; first | done | rfl) | (rw [msgRI_5 (by assumption) (by assumption) (by assumption) (by rw [← noBytes]; assumption) hE (by assumption) (by assumption) (by assumption)]; first | done | rfl) | (rw [msgRI_0 (by assumption) (by assumption) (by assumption) (by rw [← noBytes]; assumption) hE (by assumption) (by assumption) (by assumption)]; first | done | rfl)))) (KF.n [(5009, 0)])
def K_spec_GetNum (rs : List ResultVar) (b : List UInt8) (at_ : Int) (w0_ : Int) (w1_ : Int) (w2_ : Bool) : Exit → Sg → Prop := KF Try.prog 0 rs (.tup [.int .i64 w0_, .int .i64 w1_, .bool w2_]) []
theorem spec_GetNum_spec  (b : List UInt8) (at_ : Int) (hb : b.length ≤ 1048576) (ha : 0 ≤ at_ ∧ at_ ≤ 2097152) : FnSpec Try.prog 22 [.sl false 1 (b.map encU8), .int .i64 at_] [] (.tup [.int .i64 ((getN b at_).1), .int .i64 ((getN b at_).2.1), .bool ((getN b at_).2.2)]) [] := by
 refine FnSpec.of 59 Try.func22 rfl Try.ntmps22 (by simp) (AW.weakK ?_)
 refine AW.q 3 ?_
 refine AW.seq ?_
 refine AW.r ?_
 refine At.a 3 ?_
 by_cases h1 : at_ < 0
 · refine At.sB 13 _ _ (sayT h1) ?_
   refine At.z 5 ?_
   refine AW.cond true (by kernel_rfl) (fun _ => ?_) (fun h => by cases h)
   refine AW.q 3 ?_
   exact AW.ret (rf (k3 (K_spec_GetNum _ b at_) (show (0) = ((getN b at_).1) from by rw [getN_neg (by omega)]) (show (0) = ((getN b at_).2.1) from by rw [getN_neg (by omega)]) (show (false) = ((getN b at_).2.2) from by rw [getN_neg (by omega)]) (KF.n [])))
 refine At.sB 13 _ _ (sayF h1) ?_
 refine At.a 3 ?_
 refine At.sL 16 encU8 b ?_
 refine At.z 2 ?_
 refine AW.cD (at_ ≥ (b.length : Int)) (fun h2 => ?_) (fun h2 => ?_)
 · refine AW.q 3 ?_
   exact AW.ret (rf (k3 (K_spec_GetNum _ b at_) (show (0) = ((getN b at_).1) from by rw [getN_past (by omega)]) (show (0) = ((getN b at_).2.1) from by rw [getN_past (by omega)]) (show (false) = ((getN b at_).2.2) from by rw [getN_past (by omega)]) (KF.n [])))
 refine AW.skip ?_
 refine AW.q 1 ?_
 refine AW.q 1 ?_
 refine AW.seq ?_
 refine AW.q 1 ?_
 refine AW.block ?_
 refine AW.loopW (fun (x : Nat × Int) => match x with | (k, x) => Go.Sy.mk [.sl false 1 (b.map encU8), .int .i64 at_, .un, .un, .un, .un, .un, .int .i64 x, .int .i64 (unitV k), .int .i64 (k : Int)] []) (fun (x : Nat × Int) => match x with | (k, x) => GR b at_ k x) (fun (x : Nat × Int) => match x with | (k, x) => 9 - k) (0, 0) (GR.start ha.1) (Sub.o [] [true, true, false, false, false, false, false, true, true, true]) ?_
 rintro ⟨k, x⟩ hR
 have hk9 := hR.hk
 have hx0 := hR.h0
 refine AW.seq ?_
 refine AW.r ?_
 refine At.a 3 ?_
 by_cases h3 : (k : Int) < 9
 · refine At.sB 21 _ _ (sayT h3) ?_
   refine At.a 3 ?_
   refine At.sI 24 (at_ + (k : Int)) (by omega) ?_
   refine At.a 2 ?_
   refine At.sL 26 encU8 b ?_
   refine At.z 2 ?_
   refine AW.cD ((at_ + (k : Int)) < (b.length : Int)) (fun h4 => ?_) (fun h4 => ?_)
   · refine AW.skip ?_
     refine AW.seq ?_
     refine AW.block ?_
     refine AW.r ?_
     refine At.a 4 ?_
     refine At.sI 34 (at_ + (k : Int)) (by omega) ?_
     refine At.iSl 28 35 (.tmp 31) (.tmp 34) false 1 (b.map encU8) .i64 (at_ + (k : Int)) 5 (by omega) (by simp only [List.length_map]; omega) ?_
     refine Exists.elim (gE b ((at_ + (k : Int)).toNat) (by omega)) fun e1 he1 => ?_
     have hde1 := hR.bd e1 (by omega)
     refine At.lVp 5 36 (.tmp 35) false 1 (b.map encU8) ((at_ + (k : Int)).toNat) 0 false 1 (encU8 e1) (.int .u8 (e1.toNat : Int)) (mapGet he1) ?_
     refine At.conv (s := 5) (t := 3) (d := 37) (x := .tmp 36) (kd := .u8) (kd' := .i64) (a := (e1.toNat : Int)) (.int .i64 (e1.toNat : Int)) (by kernel_rfl) (by kernel_rfl) (by kernel_rfl) (by kernel_rfl) (sayI _ (by have := UInt8.toNat_lt e1; omega)) ?_
     refine At.z 1 ?_
     refine AW.r ?_
     refine At.a 2 ?_
     refine At.div (t := 3) (u := 3) (d := 40) (op := .rem) (x := .tmp 39) (y := .const (.int .i64 128)) (kd := .i64) (a := (e1.toNat : Int)) (b := 128) (by kernel_rfl) (by kernel_rfl) (by kernel_rfl) (by kernel_rfl) (by omega) (.int .i64 ((e1.toNat : Int).tmod 128)) (.inr ⟨rfl, rfl⟩) ?_
     refine At.say 40 (.int .i64 ((e1.toNat : Int).tmod 128)) (.int .i64 ((e1.toNat : Int) % 128)) (by kernel_rfl) (sayRem (by omega)) ?_
     refine At.a 2 ?_
     refine At.say 42 (.int .i64 (IntKind.i64.wrap (((e1.toNat : Int) % 128) * (unitV k)))) (.int .i64 (digV e1 k)) (by kernel_rfl) (digV_say (by omega)) ?_
     refine At.a 1 ?_
     refine At.sI 43 (x + (digV e1 k)) (by omega) ?_
     refine At.z 1 ?_
     refine AW.seq ?_
     refine AW.q 2 ?_
     refine AW.cD ((e1.toNat : Int) < 128) (fun h5 => ?_) (fun h5 => ?_)
     · refine AW.seq ?_
       refine AW.r ?_
       refine At.a 3 ?_
       by_cases h6 : (e1.toNat : Int) = 0
       · refine At.sB 48 _ _ (sayET h6) ?_
         refine At.z 3 ?_
         refine AW.cD ((k : Int) > 0) (fun h7 => ?_) (fun h7 => ?_)
         · refine AW.q 3 ?_
           exact AW.ret (rf (k3 (K_spec_GetNum _ b at_) (show (0) = ((getN b at_).1) from by rw [hR.zero ha.1 (by omega) he1 (by omega) (by omega)]) (show (0) = ((getN b at_).2.1) from by rw [hR.zero ha.1 (by omega) he1 (by omega) (by omega)]) (show (false) = ((getN b at_).2.2) from by rw [hR.zero ha.1 (by omega) he1 (by omega) (by omega)]) (KF.n [])))
         refine AW.skip ?_
         refine AW.r ?_
         refine At.a 4 ?_
         refine At.sI 55 (at_ + (k : Int)) (by omega) ?_
         refine At.a 1 ?_
         refine At.sI 56 ((at_ + (k : Int)) + 1) (by omega) ?_
         refine At.z 3 ?_
         exact AW.ret (rf (k3 (K_spec_GetNum _ b at_) (show (x + (digV e1 k)) = ((getN b at_).1) from by rw [hR.stop ha.1 (by omega) he1 (by omega) (by omega)]) (show ((at_ + (k : Int)) + 1) = ((getN b at_).2.1) from by rw [hR.stop ha.1 (by omega) he1 (by omega) (by omega)]) (show (true) = ((getN b at_).2.2) from by rw [hR.stop ha.1 (by omega) he1 (by omega) (by omega)]) (KF.n [])))
       refine At.sB 48 _ _ (sayEF h6) ?_
       refine At.z 3 ?_
       refine AW.cond false (by kernel_rfl) (fun h => by cases h) (fun _ => ?_)
       refine AW.skip ?_
       refine AW.r ?_
       refine At.a 4 ?_
       refine At.sI 55 (at_ + (k : Int)) (by omega) ?_
       refine At.a 1 ?_
       refine At.sI 56 ((at_ + (k : Int)) + 1) (by omega) ?_
       refine At.z 3 ?_
       exact AW.ret (rf (k3 (K_spec_GetNum _ b at_) (show (x + (digV e1 k)) = ((getN b at_).1) from by rw [hR.stop ha.1 (by omega) he1 (by omega) (by omega)]) (show ((at_ + (k : Int)) + 1) = ((getN b at_).2.1) from by rw [hR.stop ha.1 (by omega) he1 (by omega) (by omega)]) (show (true) = ((getN b at_).2.2) from by rw [hR.stop ha.1 (by omega) he1 (by omega) (by omega)]) (KF.n [])))
     refine AW.skip ?_
     refine AW.g ?_
     refine At.a 2 ?_
     refine At.say 58 (.int .i64 (IntKind.i64.wrap ((unitV k) * 128))) (.int .i64 (unitV (k + 1))) (by kernel_rfl) (unitV_say (by omega)) ?_
     refine At.z 1 ?_
     refine AW.g ?_
     refine At.a 2 ?_
     refine At.sI 30 ((k : Int) + 1) (by omega) ?_
     refine At.z 1 ?_
     exact ⟨(k + 1, (x + (digV e1 k))), (by exact hR.step ha.1 (by omega) he1 (by omega)), (by simp only; omega), Sub.o [] [true, true, false, false, false, false, false, true, true, true]⟩
   refine AW.exit ?_
   refine AW.q 3 ?_
   exact AW.ret (rf (k3 (K_spec_GetNum _ b at_) (show (0) = ((getN b at_).1) from by rw [hR.over ha.1 (by omega)]) (show (0) = ((getN b at_).2.1) from by rw [hR.over ha.1 (by omega)]) (show (false) = ((getN b at_).2.2) from by rw [hR.over ha.1 (by omega)]) (KF.n [])))
 refine At.sB 21 _ _ (sayF h3) ?_
 refine At.z 7 ?_
 refine AW.cond false (by kernel_rfl) (fun h => by cases h) (fun _ => ?_)
 refine AW.exit ?_
 refine AW.q 3 ?_
 exact AW.ret (rf (k3 (K_spec_GetNum _ b at_) (show (0) = ((getN b at_).1) from by rw [hR.nine (by omega)]) (show (0) = ((getN b at_).2.1) from by rw [hR.nine (by omega)]) (show (false) = ((getN b at_).2.2) from by rw [hR.nine (by omega)]) (KF.n [])))
theorem laws_at_spec  (code : List UInt8) (i : Int) (hc : code.length ≤ 1048576) (hi : 0 ≤ i ∧ i ≤ 1000) : ∃ rho_ : Int, (0 ≤ rho_ ∧ rho_ ≤ 255) ∧ FnSpec Try.prog 24 [.sl false 1 (code.map encU8), .int .i64 i] [] (.int .i64 rho_) [] := by
 refine dv (fun h_ => FnSpec.of 20 Try.func24 rfl Try.ntmps24 (by simp) (AW.weakK h_)) ?_
 refine dv (AW.q 1 ·) ?_
 refine dv (AW.seq ·) ?_
 refine dv (AW.r ·) ?_
 refine dv (At.a 3 ·) ?_
 refine dv (At.sL 7 encU8 code ·) ?_
 refine dv (At.z 1 ·) ?_
 by_cases h1 : i < (code.length : Int)
 · refine dv (AW.condT (decide (i < (code.length : Int))) (by kernel_rfl) (decide_eq_true h1) ·) ?_
   refine dv (AW.r ·) ?_
   refine dv (At.a 2 ·) ?_
   refine dv (At.iSl 28 11 (.tmp 9) (.tmp 10) false 1 (code.map encU8) .i64 i 5 (by omega) (by simp only [List.length_map]; omega) ·) ?_
   refine Exists.elim (gE code ((i).toNat) (by omega)) fun e1 he1 => ?_
   have hbe1 := UInt8.toNat_lt e1
   refine dv (At.lVp 5 12 (.tmp 11) false 1 (code.map encU8) ((i).toNat) 0 false 1 (encU8 e1) (.int .u8 (e1.toNat : Int)) (mapGet he1) ·) ?_
   refine dv (At.conv (s := 5) (t := 3) (d := 13) (x := .tmp 12) (kd := .u8) (kd' := .i64) (a := (e1.toNat : Int)) (.int .i64 (e1.toNat : Int)) (by kernel_rfl) (by kernel_rfl) (by kernel_rfl) (by kernel_rfl) (sayI _ (by have := UInt8.toNat_lt e1; omega)) ·) ?_
   refine dv (At.z 1 ·) ?_
   refine dv (AW.ret ·) ?_
   refine dv (⟨_, Sub.refl _ _, ·⟩) ?_
   exact ⟨((e1.toNat : Int)), (by (try dsimp only); omega), KF.mk (.inr rfl) [] [.int .i64 (e1.toNat : Int)] (by kernel_rfl) (by kernel_rfl) (by kernel_rfl) (by kernel_rfl) (by kernel_rfl)⟩
 refine dv (AW.condF (decide (i < (code.length : Int))) (by kernel_rfl) (decide_eq_false h1) ·) ?_
 refine dv (AW.skip ·) ?_
 refine dv (AW.r ·) ?_
 refine dv (At.a 2 ·) ?_
 refine dv (At.sI 15 (i * 7) (by omega) ·) ?_
 refine dv (At.a 2 ·) ?_
 refine dv (At.sL 17 encU8 code ·) ?_
 refine dv (At.a 1 ·) ?_
 refine dv (At.sI 18 ((i * 7) + (code.length : Int)) (by omega) ·) ?_
 refine dv (At.div (t := 3) (u := 3) (d := 19) (op := .rem) (x := .tmp 18) (y := .const (.int .i64 256)) (kd := .i64) (a := (i * 7) + (code.length : Int)) (b := 256) (by kernel_rfl) (by kernel_rfl) (by kernel_rfl) (by kernel_rfl) (by omega) (.int .i64 (((i * 7) + (code.length : Int)).tmod 256)) (.inr ⟨rfl, rfl⟩) ·) ?_
 refine dv (At.say 19 (.int .i64 (((i * 7) + (code.length : Int)).tmod 256)) (.int .i64 (((i * 7) + (code.length : Int)) % 256)) (by kernel_rfl) (sayRem (by omega)) ·) ?_
 refine dv (At.z 1 ·) ?_
 refine dv (AW.ret ·) ?_
 refine dv (⟨_, Sub.refl _ _, ·⟩) ?_
 exact ⟨(((i * 7) + (code.length : Int)) % 256), (by (try dsimp only); omega), KF.mk (.inr rfl) [] [.int .i64 (((i * 7) + (code.length : Int)) % 256)] (by kernel_rfl) (by kernel_rfl) (by kernel_rfl) (by kernel_rfl) (by kernel_rfl)⟩
theorem spec_PutNum_spec  (x : Int) (hx : x ≤ 4611686018427387904) : FnSpec Try.prog 29 [.int .i64 x] [] (.ref 0) [.arr 5 1 ((putI x).map encU8)] := by
 refine FnSpec.of 24 Try.func29 rfl Try.ntmps29 (by simp) (AW.weakK ?_)
 refine AW.q 1 ?_
 refine AW.r ?_
 refine At.lit0 (t := 28) (d := 4) (e := 5) (es := 1) (bytes := 1) 104 (by kernel_rfl) (by kernel_rfl) (by kernel_rfl) (by kernel_rfl) ?_
 refine At.z 1 ?_
 refine AW.seq ?_
 refine AW.q 2 ?_
 refine AW.cD (x < 0) (fun h1 => ?_) (fun h1 => ?_)
 · refine AW.q 2 ?_
   refine AW.ret ?_
   refine ⟨_, Sub.refl _ _, ?_⟩
   refine KF.conv (fun w => .ref 0) (fun w => [.arr 5 1 (w.map encU8)]) (show ([]) = (putI x) from by unfold putI; rw [if_pos (by omega)]) ?_
   exact KF.n [(104, 0)]
 refine AW.skip ?_
 refine AW.seq ?_
 refine AW.block ?_
 refine AW.loopW (fun (z_ : Int × List UInt8) => match z_ with | (y, o) => Go.Sy.mk [.int .i64 y, .un, .un, .ref 104] [(104, .arr 5 1 (o.map encU8))]) (fun (z_ : Int × List UInt8) => match z_ with | (y, o) => (0 ≤ y ∧ y ≤ x) ∧ putI x = o ++ putN y) (fun (z_ : Int × List UInt8) => match z_ with | (y, o) => y.toNat) (x, []) ⟨⟨by omega, by omega⟩, by unfold putI; rw [if_neg (by omega)]; rfl⟩ (Sub.o [(104, 104)] [true, false, false, true]) ?_
 rintro ⟨y, o⟩ ⟨⟨hy, hyx⟩, hR⟩
 have hl9 := putI_len hx
 have hle := congrArg List.length hR
 rw [List.length_append] at hle
 refine AW.seq ?_
 refine AW.q 2 ?_
 refine AW.cD (y > 127) (fun h2 => ?_) (fun h2 => ?_)
 · refine AW.skip ?_
   refine AW.block ?_
   refine AW.r ?_
   refine At.a 2 ?_
   refine At.div (t := 3) (u := 3) (d := 12) (op := .rem) (x := .tmp 11) (y := .const (.int .i64 128)) (kd := .i64) (a := y) (b := 128) (by kernel_rfl) (by kernel_rfl) (by kernel_rfl) (by kernel_rfl) (by omega) (.int .i64 (y.tmod 128)) (.inr ⟨rfl, rfl⟩) ?_
   refine At.say 12 (.int .i64 (y.tmod 128)) (.int .i64 (y % 128)) (by kernel_rfl) (sayRem (by omega)) ?_
   refine At.a 1 ?_
   refine At.sI 13 ((y % 128) + 128) (by omega) ?_
   refine At.conv (s := 3) (t := 5) (d := 14) (x := .tmp 13) (kd := .i64) (kd' := .u8) (a := (y % 128) + 128) (.int .u8 ((u8Of ((y % 128) + 128)).toNat : Int)) (by kernel_rfl) (by kernel_rfl) (by kernel_rfl) (by kernel_rfl) (sayByte _) ?_
   refine At.ll 15 5 1 115 (56, 6) (([(u8Of ((y % 128) + 128))]).map encU8) ?_
   refine At.apK 16 5 1 1 116 104 115 encU8 o ([(u8Of ((y % 128) + 128))]) (by simp only [List.length_map, List.length_append, List.length_take, List.length_drop, List.length_replicate, List.length_set, List.length_cons, List.length_nil]; omega) ?_
   refine At.z 1 ?_
   refine AW.g ?_
   refine At.a 1 ?_
   refine At.div (t := 3) (u := 3) (d := 18) (op := .quo) (x := .tmp 17) (y := .const (.int .i64 128)) (kd := .i64) (a := y) (b := 128) (by kernel_rfl) (by kernel_rfl) (by kernel_rfl) (by kernel_rfl) (by omega) (.int .i64 (IntKind.i64.wrap (y.tdiv 128))) (.inl ⟨rfl, rfl⟩) ?_
   refine At.say 18 (.int .i64 (IntKind.i64.wrap (y.tdiv 128))) (.int .i64 (y / 128)) (by kernel_rfl) (sayQuo (by omega) (by omega) (by omega)) ?_
   refine At.z 1 ?_
   exact ⟨((y / 128), (o ++ ([(u8Of ((y % 128) + 128))]))), ⟨by omega, by (try rw [shr7, or128 hy]); exact putI_step hR (by omega)⟩, (by (try rw [shr7]); simp only; omega), Sub.o [(116, 104)] [true, false, false, true]⟩
 refine AW.exit ?_
 refine AW.r ?_
 refine At.a 2 ?_
 refine At.conv (s := 3) (t := 5) (d := 21) (x := .tmp 20) (kd := .i64) (kd' := .u8) (a := y) (.int .u8 ((u8Of y).toNat : Int)) (by kernel_rfl) (by kernel_rfl) (by kernel_rfl) (by kernel_rfl) (sayByte _) ?_
 refine At.ll 22 5 1 122 (56, 6) (([(u8Of y)]).map encU8) ?_
 refine At.apK 23 5 1 1 123 104 122 encU8 o ([(u8Of y)]) (by simp only [List.length_map, List.length_append, List.length_take, List.length_drop, List.length_replicate, List.length_set, List.length_cons, List.length_nil]; omega) ?_
 refine At.z 1 ?_
 refine AW.ret ?_
 refine ⟨_, Sub.refl _ _, ?_⟩
 refine KF.conv (fun w => .ref 0) (fun w => [.arr 5 1 (w.map encU8)]) (show (o ++ ([(u8Of y)])) = (putI x) from by exact putI_end hR (by omega)) ?_
 exact KF.n [(123, 0)]
theorem spec_PutText_spec  (s : ByteArray) (hs : s.size ≤ 1048576) : FnSpec Try.prog 30 [.str s] [] (.ref 0) [.arr 5 1 ((putT s).map encU8)] := by
 have hpl := putI_len (x := (s.size : Int)) (by omega)
 have hsl : s.data.toList.length = s.size := Array.length_toList
 refine FnSpec.of 13 Try.func30 rfl Try.ntmps30 (by simp) (AW.weakK ?_)
 refine AW.q 1 ?_
 refine AW.seq ?_
 refine AW.q 3 ?_
 refine AW.cD ((s.size : Int) > 3000) (fun h1 => ?_) (fun h1 => ?_)
 · refine AW.r ?_
   refine At.lit0 (t := 28) (d := 6) (e := 5) (es := 1) (bytes := 1) 106 (by kernel_rfl) (by kernel_rfl) (by kernel_rfl) (by kernel_rfl) ?_
   refine At.z 1 ?_
   refine AW.ret ?_
   refine ⟨_, Sub.refl _ _, ?_⟩
   refine KF.conv (fun w => .ref 0) (fun w => [.arr 5 1 (w.map encU8)]) (show ([]) = (putT s) from by rw [putT_no (by assumption)]) ?_
   exact KF.n [(106, 0)]
 refine AW.skip ?_
 refine AW.r ?_
 refine At.a 2 ?_
 refine At.c (spec_PutNum_spec  (s.size : Int) (by omega)) Try.call29 true [] [(1180, 0)] [] trivial ?_
 refine At.a 1 ?_
 refine At.s2b (s := 9) (t := 28) (e := 5) (d := 11) (x := .tmp 10) (b := s) ((s.data.toList.map encU8)) (by kernel_rfl) (by kernel_rfl) (by kernel_rfl) (by kernel_rfl) (by omega) rfl ?_
 refine At.append (t := 28) (d := 12) (e := 5) (es := 1) (bytes := 1) (s := .tmp 9) (x := .tmp 11) (S := .ref 1180) (T := .sl true 1 (s.data.toList.map encU8)) (xs := ((putI (s.size : Int)).map encU8)) (ys := (s.data.toList.map encU8)) 112 [1180] [] (((putI (s.size : Int)) ++ s.data.toList).map encU8) (by kernel_rfl) (by kernel_rfl) (by kernel_rfl) (by kernel_rfl) ⟨by kernel_rfl, rfl⟩ ⟨rfl, rfl, (allP_encU8 _), rfl⟩ (by kernel_rfl) (by kernel_rfl) (by simp) (by simp only [List.length_map]; omega) (by simp only [List.length_map]; omega) ?_
 refine At.z 1 ?_
 refine AW.ret ?_
 refine ⟨_, Sub.refl _ _, ?_⟩
 refine KF.conv (fun w => .ref 0) (fun w => [.arr 5 1 (w.map encU8)]) (show ((putI (s.size : Int)) ++ s.data.toList) = (putT s) from by rw [putT_yes (by assumption)]) ?_
 exact KF.n [(112, 0)]
def K_spec_CmdPack (rs : List ResultVar) (c : Cmd) (w0_ : List UInt8) (w1_ : Bool) : Exit → Sg → Prop := KF Try.prog 0 rs (.tup [.ref 0, .bool w1_]) [.arr 5 1 (w0_.map encU8)]
theorem spec_CmdPack_spec  (c : Cmd) : FnSpec Try.prog 31 [.agg [.int .i64 c.kind, .int .i64 c.release, .int .i64 c.node, .int .i64 c.size, .str c.digest]] [] (.tup [.ref 0, .bool (cmdOk c)]) [.arr 5 1 ((cmdP c).map encU8)] := by
 refine FnSpec.of 42 Try.func31 rfl Try.ntmps31 (by simp) (AW.weakK ?_)
 refine AW.q 3 ?_
 refine AW.seq ?_
 refine AW.r ?_
 refine At.a 1 ?_
 refine At.c (spec_CmdOk_spec  c ) Try.call54 true [] [] [] trivial ?_
 refine At.z 1 ?_
 refine AW.cNB (cmdOk c) (fun h1 => ?_) (fun h1 => ?_)
 · refine AW.r ?_
   refine At.lit0 (t := 28) (d := 8) (e := 5) (es := 1) (bytes := 1) 108 (by kernel_rfl) (by kernel_rfl) (by kernel_rfl) (by kernel_rfl) ?_
   refine At.z 2 ?_
   exact AW.ret (rf (k2 (K_spec_CmdPack _ c) (show ([]) = (cmdP c) from by rw [cmdP_no (by assumption)]) (show (false) = (cmdOk c) from by simp [*]) (KF.n [(108, 0)])))
 have hci := cmdOk_in h1
 have p1 := putI_len (x := c.kind) (by omega)
 have p2 := putI_len (x := c.release) (by omega)
 have p3 := putI_len (x := c.node) (by omega)
 have p4 := putI_len (x := c.size) (by omega)
 have p5 : c.digest.data.toList.length = c.digest.size := Array.length_toList
 have p6 := putAll_len3 c.kind c.release c.size (by omega) (by omega) (by omega)
 refine AW.skip ?_
 refine AW.r ?_
 refine At.a 2 ?_
 refine At.c (spec_PutNum_spec  c.kind (by omega)) Try.call29 true [] [(1220, 0)] [] trivial ?_
 refine At.z 1 ?_
 refine AW.seq ?_
 refine AW.q 3 ?_
 refine AW.cU c.kind (1 : Int) (fun h2 => ?_) (fun h2 => ?_)
 · refine AW.g ?_
   refine At.a 3 ?_
   refine At.c (spec_PutNum_spec  c.release (by omega)) Try.call29 true [] [(1360, 0)] [] trivial ?_
   refine At.apC 19 5 1 1 119 1220 1360 encU8 (putI c.kind) (putI c.release) (by omega) (allP_encU8 _) ?_
   refine At.z 1 ?_
   refine AW.seq ?_
   refine AW.q 2 ?_
   refine AW.block ?_
   refine AW.q 2 ?_
   refine AW.cE c.kind (3 : Int) (fun h3 => ?_) (fun h3 => ?_)
   · refine AW.g ?_
     refine At.a 3 ?_
     refine At.c (spec_PutNum_spec  c.node (by omega)) Try.call29 true [] [(1540, 0)] [] trivial ?_
     refine At.apC 28 5 1 1 128 119 1540 encU8 ((putI c.kind) ++ (putI c.release)) (putI c.node) (by simp only [List.length_map, List.length_append, List.length_take, List.length_drop, List.length_replicate, List.length_set, List.length_cons, List.length_nil]; omega) (allP_encU8 _) ?_
     refine At.z 1 ?_
     refine AW.q 3 ?_
     exact AW.ret (rf (k2 (K_spec_CmdPack _ c) (show (((putI c.kind) ++ (putI c.release)) ++ (putI c.node)) = (cmdP c) from by rw [cmdP_yes (by assumption)]; simp [cmdB, putAll, h1, h2, h3]) (show (true) = (cmdOk c) from by simp [*]) (KF.n [(128, 0)])))
   refine AW.q 2 ?_
   refine AW.cE c.kind (2 : Int) (fun h4 => ?_) (fun h4 => ?_)
   · refine AW.r ?_
     refine At.a 3 ?_
     refine At.c (spec_PutNum_spec  c.size (by omega)) Try.call29 true [] [(1680, 0)] [] trivial ?_
     refine At.apC 35 5 1 1 135 119 1680 encU8 ((putI c.kind) ++ (putI c.release)) (putI c.size) (by simp only [List.length_map, List.length_append, List.length_take, List.length_drop, List.length_replicate, List.length_set, List.length_cons, List.length_nil]; omega) (allP_encU8 _) ?_
     refine At.z 1 ?_
     refine AW.g ?_
     refine At.a 3 ?_
     refine At.s2b (s := 9) (t := 28) (e := 5) (d := 39) (x := .tmp 38) (b := c.digest) ((c.digest.data.toList.map encU8)) (by kernel_rfl) (by kernel_rfl) (by kernel_rfl) (by kernel_rfl) (by omega) rfl ?_
     refine At.append (t := 28) (d := 40) (e := 5) (es := 1) (bytes := 1) (s := .tmp 36) (x := .tmp 39) (S := .ref 135) (T := .sl true 1 (c.digest.data.toList.map encU8)) (xs := ((((putI c.kind) ++ (putI c.release)) ++ (putI c.size)).map encU8)) (ys := (c.digest.data.toList.map encU8)) 140 [135] [] (((((putI c.kind) ++ (putI c.release)) ++ (putI c.size)) ++ c.digest.data.toList).map encU8) (by kernel_rfl) (by kernel_rfl) (by kernel_rfl) (by kernel_rfl) ⟨by kernel_rfl, rfl⟩ ⟨rfl, rfl, (allP_encU8 _), rfl⟩ (by kernel_rfl) (by kernel_rfl) (by simp) (by simp only [List.length_map, List.length_append, List.length_take, List.length_drop, List.length_replicate, List.length_set, List.length_cons, List.length_nil]; omega) (by simp only [List.length_map, List.length_append, List.length_take, List.length_drop, List.length_replicate, List.length_set, List.length_cons, List.length_nil]; omega) ?_
     refine At.z 1 ?_
     refine AW.q 3 ?_
     exact AW.ret (rf (k2 (K_spec_CmdPack _ c) (show ((((putI c.kind) ++ (putI c.release)) ++ (putI c.size)) ++ c.digest.data.toList) = (cmdP c) from by rw [cmdP_yes (by assumption)]; simp [cmdB, putAll, h1, h2, h3, h4]) (show (true) = (cmdOk c) from by simp [*]) (KF.n [(140, 0)])))
   refine AW.skip ?_
   refine AW.q 3 ?_
   exact AW.ret (rf (k2 (K_spec_CmdPack _ c) (show ((putI c.kind) ++ (putI c.release)) = (cmdP c) from by rw [cmdP_yes (by assumption)]; simp [cmdB, putAll, h1, h2, h3, h4]) (show (true) = (cmdOk c) from by simp [*]) (KF.n [(119, 0)])))
 refine AW.skip ?_
 refine AW.seq ?_
 refine AW.q 2 ?_
 refine AW.block ?_
 refine AW.q 2 ?_
 refine AW.cE c.kind (3 : Int) (fun h5 => ?_) (fun h5 => ?_)
 · refine AW.g ?_
   refine At.a 3 ?_
   refine At.c (spec_PutNum_spec  c.node (by omega)) Try.call29 true [] [(1540, 0)] [] trivial ?_
   refine At.apC 28 5 1 1 128 1220 1540 encU8 (putI c.kind) (putI c.node) (by omega) (allP_encU8 _) ?_
   refine At.z 1 ?_
   refine AW.q 3 ?_
   exact AW.ret (rf (k2 (K_spec_CmdPack _ c) (show ((putI c.kind) ++ (putI c.node)) = (cmdP c) from by exfalso; omega) (show (true) = (cmdOk c) from by simp [*]) (KF.n [(128, 0)])))
 refine AW.q 2 ?_
 refine AW.cE c.kind (2 : Int) (fun h6 => ?_) (fun h6 => ?_)
 · refine AW.r ?_
   refine At.a 3 ?_
   refine At.c (spec_PutNum_spec  c.size (by omega)) Try.call29 true [] [(1680, 0)] [] trivial ?_
   refine At.apC 35 5 1 1 135 1220 1680 encU8 (putI c.kind) (putI c.size) (by omega) (allP_encU8 _) ?_
   refine At.z 1 ?_
   refine AW.g ?_
   refine At.a 3 ?_
   refine At.s2b (s := 9) (t := 28) (e := 5) (d := 39) (x := .tmp 38) (b := c.digest) ((c.digest.data.toList.map encU8)) (by kernel_rfl) (by kernel_rfl) (by kernel_rfl) (by kernel_rfl) (by omega) rfl ?_
   refine At.append (t := 28) (d := 40) (e := 5) (es := 1) (bytes := 1) (s := .tmp 36) (x := .tmp 39) (S := .ref 135) (T := .sl true 1 (c.digest.data.toList.map encU8)) (xs := (((putI c.kind) ++ (putI c.size)).map encU8)) (ys := (c.digest.data.toList.map encU8)) 140 [135] [] ((((putI c.kind) ++ (putI c.size)) ++ c.digest.data.toList).map encU8) (by kernel_rfl) (by kernel_rfl) (by kernel_rfl) (by kernel_rfl) ⟨by kernel_rfl, rfl⟩ ⟨rfl, rfl, (allP_encU8 _), rfl⟩ (by kernel_rfl) (by kernel_rfl) (by simp) (by omega) (by omega) ?_
   refine At.z 1 ?_
   refine AW.q 3 ?_
   exact AW.ret (rf (k2 (K_spec_CmdPack _ c) (show (((putI c.kind) ++ (putI c.size)) ++ c.digest.data.toList) = (cmdP c) from by exfalso; omega) (show (true) = (cmdOk c) from by simp [*]) (KF.n [(140, 0)])))
 refine AW.skip ?_
 refine AW.q 3 ?_
 exact AW.ret (rf (k2 (K_spec_CmdPack _ c) (show (putI c.kind) = (cmdP c) from by rw [cmdP_yes (by assumption)]; simp [cmdB, putAll, h1, h2, h5, h6]) (show (true) = (cmdOk c) from by simp [*]) (KF.n [(1220, 0)])))
theorem spec_Sum_spec  (b : List UInt8) (hb : b.length ≤ 1048576) : FnSpec Try.prog 64 [.sl false 1 (b.map encU8)] [] (.int .i64 (sumB b)) [] := by
 refine FnSpec.of 28 Try.func64 rfl Try.ntmps64 (by simp) (AW.weakK ?_)
 refine AW.q 1 ?_
 refine AW.q 2 ?_
 refine AW.seq ?_
 refine AW.q 1 ?_
 refine AW.block ?_
 refine AW.loopW (fun (x : Nat × Int × Int) => match x with | (k, x, y) => Go.Sy.mk [.sl false 1 (b.map encU8), .un, .un, .int .i64 x, .int .i64 y, .int .i64 (k : Int)] []) (fun (x : Nat × Int × Int) => match x with | (k, x, y) => k ≤ b.length ∧ (0 ≤ x ∧ x < 65521) ∧ (0 ≤ y ∧ y < 65521) ∧ sumGo b 1 0 = sumGo (b.drop k) x y) (fun (x : Nat × Int × Int) => match x with | (k, x, y) => b.length - k) (0, 1, 0) ⟨by omega, by omega, by omega, by rw [List.drop_zero]⟩ (Sub.o [] [true, false, false, true, true, true]) ?_
 rintro ⟨k, x, y⟩ ⟨hk, hx, hy, hR⟩
 refine AW.seq ?_
 refine AW.r ?_
 refine At.a 3 ?_
 refine At.sL 8 encU8 b ?_
 refine At.z 1 ?_
 refine AW.cD ((k : Int) < (b.length : Int)) (fun h1 => ?_) (fun h1 => ?_)
 · refine AW.skip ?_
   refine AW.seq ?_
   refine AW.block ?_
   refine AW.r ?_
   refine At.a 3 ?_
   refine At.iSl 28 15 (.tmp 13) (.tmp 14) false 1 (b.map encU8) .i64 (k : Int) 5 (by omega) (by simp only [List.length_map]; omega) ?_
   refine Exists.elim (gE b k (by omega)) fun e1 he1 => ?_
   have hbe1 := UInt8.toNat_lt e1
   refine At.lVp 5 16 (.tmp 15) false 1 (b.map encU8) k 0 false 1 (encU8 e1) (.int .u8 (e1.toNat : Int)) (mapGet he1) ?_
   refine At.conv (s := 5) (t := 3) (d := 17) (x := .tmp 16) (kd := .u8) (kd' := .i64) (a := (e1.toNat : Int)) (.int .i64 (e1.toNat : Int)) (by kernel_rfl) (by kernel_rfl) (by kernel_rfl) (by kernel_rfl) (sayI _ (by have := UInt8.toNat_lt e1; omega)) ?_
   refine At.a 1 ?_
   refine At.sI 18 (x + (e1.toNat : Int)) (by omega) ?_
   refine At.div (t := 3) (u := 3) (d := 19) (op := .rem) (x := .tmp 18) (y := .const (.int .i64 65521)) (kd := .i64) (a := x + (e1.toNat : Int)) (b := 65521) (by kernel_rfl) (by kernel_rfl) (by kernel_rfl) (by kernel_rfl) (by omega) (.int .i64 ((x + (e1.toNat : Int)).tmod 65521)) (.inr ⟨rfl, rfl⟩) ?_
   refine At.say 19 (.int .i64 ((x + (e1.toNat : Int)).tmod 65521)) (.int .i64 ((x + (e1.toNat : Int)) % 65521)) (by kernel_rfl) (sayRem (by omega)) ?_
   refine At.z 1 ?_
   refine AW.g ?_
   refine At.a 3 ?_
   refine At.sI 22 (y + ((x + (e1.toNat : Int)) % 65521)) (by omega) ?_
   refine At.div (t := 3) (u := 3) (d := 23) (op := .rem) (x := .tmp 22) (y := .const (.int .i64 65521)) (kd := .i64) (a := y + ((x + (e1.toNat : Int)) % 65521)) (b := 65521) (by kernel_rfl) (by kernel_rfl) (by kernel_rfl) (by kernel_rfl) (by omega) (.int .i64 ((y + ((x + (e1.toNat : Int)) % 65521)).tmod 65521)) (.inr ⟨rfl, rfl⟩) ?_
   refine At.say 23 (.int .i64 ((y + ((x + (e1.toNat : Int)) % 65521)).tmod 65521)) (.int .i64 ((y + ((x + (e1.toNat : Int)) % 65521)) % 65521)) (by kernel_rfl) (sayRem (by omega)) ?_
   refine At.z 1 ?_
   refine AW.g ?_
   refine At.a 2 ?_
   refine At.sI 11 ((k : Int) + 1) (by omega) ?_
   refine At.z 1 ?_
   exact ⟨(k + 1, ((x + (e1.toNat : Int)) % 65521), ((y + ((x + (e1.toNat : Int)) % 65521)) % 65521)), ⟨by omega, by omega, by omega, sum_step hR he1⟩, (by simp only; omega), Sub.o [] [true, false, false, true, true, true]⟩
 refine AW.exit ?_
 refine AW.r ?_
 refine At.a 2 ?_
 refine At.sI 25 (65536 * y) (by omega) ?_
 refine At.a 2 ?_
 refine At.sI 27 ((65536 * y) + x) (by omega) ?_
 refine At.z 1 ?_
 refine AW.ret ?_
 refine ⟨_, Sub.refl _ _, ?_⟩
 refine KF.conv (fun w => .int .i64 w) (fun w => []) (show ((65536 * y) + x) = (sumB b) from sum_end hR (by omega)) ?_
 exact KF.n []
def K_spec_Seal (rs : List ResultVar) (b : List UInt8) (w0_ : List UInt8) (w1_ : Bool) : Exit → Sg → Prop := KF Try.prog 0 rs (.tup [.ref 0, .bool w1_]) [.arr 5 1 (w0_.map encU8)]
theorem spec_Seal_spec  (b : List UInt8) (hb : b.length ≤ 1048576) : FnSpec Try.prog 32 [.sl false 1 (b.map encU8)] [] (.tup [.ref 0, .bool (decide (¬ (b.length : Int) > 3000))]) [.arr 5 1 ((sealP b).map encU8)] := by
 have hpl := putI_len (x := (b.length : Int)) (by omega)
 have hsl : (sum4 (sumB b)).length = 4 := rfl
 refine FnSpec.of 31 Try.func32 rfl Try.ntmps32 (by simp) (AW.weakK ?_)
 refine AW.q 2 ?_
 refine AW.seq ?_
 refine AW.r ?_
 refine At.a 2 ?_
 refine At.sL 7 encU8 b ?_
 refine At.z 1 ?_
 refine AW.cD ((b.length : Int) > 3000) (fun h1 => ?_) (fun h1 => ?_)
 · refine AW.r ?_
   refine At.lit0 (t := 28) (d := 9) (e := 5) (es := 1) (bytes := 1) 109 (by kernel_rfl) (by kernel_rfl) (by kernel_rfl) (by kernel_rfl) ?_
   refine At.z 2 ?_
   exact AW.ret (rf (k2 (K_spec_Seal _ b) (show ([]) = (sealP b) from by rw [sealP_no (by assumption)]) (show (false) = (decide (¬ (b.length : Int) > 3000)) from by rw [decide_eq_false (by omega)]) (KF.n [(109, 0)])))
 refine AW.skip ?_
 refine AW.r ?_
 refine At.a 1 ?_
 refine At.c (spec_Sum_spec  b hb) Try.call64 true [] [] [] trivial ?_
 refine At.z 1 ?_
 refine AW.r ?_
 refine At.a 2 ?_
 refine At.sL 13 encU8 b ?_
 refine At.c (spec_PutNum_spec  (b.length : Int) (by omega)) Try.call29 true [] [(1280, 0)] [] trivial ?_
 refine At.a 1 ?_
 refine At.append (t := 28) (d := 16) (e := 5) (es := 1) (bytes := 1) (s := .tmp 14) (x := .tmp 15) (S := .ref 1280) (T := .sl false 1 (b.map encU8)) (xs := ((putI (b.length : Int)).map encU8)) (ys := (b.map encU8)) 116 [1280] [] (((putI (b.length : Int)) ++ b).map encU8) (by kernel_rfl) (by kernel_rfl) (by kernel_rfl) (by kernel_rfl) ⟨by kernel_rfl, rfl⟩ ⟨rfl, rfl, (allP_encU8 _), rfl⟩ (by kernel_rfl) (by kernel_rfl) (by simp) (by simp only [List.length_map]; omega) (by simp only [List.length_map]; omega) ?_
 refine At.z 1 ?_
 refine AW.r ?_
 refine At.a 2 ?_
 refine At.conv (s := 3) (t := 5) (d := 19) (x := .tmp 18) (kd := .i64) (kd' := .u8) (a := sumB b) (.int .u8 ((u8Of (sumB b)).toNat : Int)) (by kernel_rfl) (by kernel_rfl) (by kernel_rfl) (by kernel_rfl) (sayByte _) ?_
 refine At.a 1 ?_
 refine At.shift (t := 3) (u := 93) (d := 21) (op := .shr) (x := .tmp 20) (y := .const (.int .u64 8)) (kd := .i64) (kd' := .u64) (a := sumB b) (b := 8) (shV .shr .i64 (sumB b) 8) (by kernel_rfl) (by kernel_rfl) (by kernel_rfl) (by kernel_rfl) (by omega) (shS_shr _ _ _) ?_
 refine At.conv (s := 3) (t := 5) (d := 22) (x := .tmp 21) (kd := .i64) (kd' := .u8) (a := shV .shr .i64 (sumB b) 8) (.int .u8 ((u8Of (shV .shr .i64 (sumB b) 8)).toNat : Int)) (by kernel_rfl) (by kernel_rfl) (by kernel_rfl) (by kernel_rfl) (sayByte _) ?_
 refine At.a 1 ?_
 refine At.shift (t := 3) (u := 93) (d := 24) (op := .shr) (x := .tmp 23) (y := .const (.int .u64 16)) (kd := .i64) (kd' := .u64) (a := sumB b) (b := 16) (shV .shr .i64 (sumB b) 16) (by kernel_rfl) (by kernel_rfl) (by kernel_rfl) (by kernel_rfl) (by omega) (shS_shr _ _ _) ?_
 refine At.conv (s := 3) (t := 5) (d := 25) (x := .tmp 24) (kd := .i64) (kd' := .u8) (a := shV .shr .i64 (sumB b) 16) (.int .u8 ((u8Of (shV .shr .i64 (sumB b) 16)).toNat : Int)) (by kernel_rfl) (by kernel_rfl) (by kernel_rfl) (by kernel_rfl) (sayByte _) ?_
 refine At.a 1 ?_
 refine At.shift (t := 3) (u := 93) (d := 27) (op := .shr) (x := .tmp 26) (y := .const (.int .u64 24)) (kd := .i64) (kd' := .u64) (a := sumB b) (b := 24) (shV .shr .i64 (sumB b) 24) (by kernel_rfl) (by kernel_rfl) (by kernel_rfl) (by kernel_rfl) (by omega) (shS_shr _ _ _) ?_
 refine At.conv (s := 3) (t := 5) (d := 28) (x := .tmp 27) (kd := .i64) (kd' := .u8) (a := shV .shr .i64 (sumB b) 24) (.int .u8 ((u8Of (shV .shr .i64 (sumB b) 24)).toNat : Int)) (by kernel_rfl) (by kernel_rfl) (by kernel_rfl) (by kernel_rfl) (sayByte _) ?_
 refine At.ll 29 5 1 129 (56, 6) (([(u8Of (sumB b)), (u8Of (shV .shr .i64 (sumB b) 8)), (u8Of (shV .shr .i64 (sumB b) 16)), (u8Of (shV .shr .i64 (sumB b) 24))]).map encU8) ?_
 refine At.apK 30 5 1 1 130 116 129 encU8 ((putI (b.length : Int)) ++ b) ([(u8Of (sumB b)), (u8Of (shV .shr .i64 (sumB b) 8)), (u8Of (shV .shr .i64 (sumB b) 16)), (u8Of (shV .shr .i64 (sumB b) 24))]) (by simp only [List.length_map, List.length_append, List.length_take, List.length_drop, List.length_replicate, List.length_set, List.length_cons, List.length_nil]; omega) ?_
 refine At.z 2 ?_
 exact AW.ret (rf (k2 (K_spec_Seal _ b) (show (((putI (b.length : Int)) ++ b) ++ ([(u8Of (sumB b)), (u8Of (shV .shr .i64 (sumB b) 8)), (u8Of (shV .shr .i64 (sumB b) 16)), (u8Of (shV .shr .i64 (sumB b) 24))])) = (sealP b) from by rw [sealP_yes (by assumption), ← sum4_spec]) (show (true) = (decide (¬ (b.length : Int) > 3000)) from by rw [decide_eq_true (by assumption)]) (KF.n [(130, 0)])))
def K_spec_MsgPack (rs : List ResultVar) (m : Msg) (w0_ : List UInt8) (w1_ : Bool) : Exit → Sg → Prop := KF Try.prog 0 rs (.tup [.ref 0, .bool w1_]) [.arr 5 1 (w0_.map encU8)]
theorem spec_MsgPack_spec  (m : Msg) (hl : m.entries.length ≤ 1048576) : FnSpec Try.prog 7 [(msgA m)] [] (.tup [.ref 0, .bool (msgPok m)]) [.arr 5 1 ((msgP m).map encU8)] := by
 have hfs := l8F_six m.kind
 refine FnSpec.of 149 Try.func7 rfl Try.ntmps7 (by simp) (AW.weakK ?_)
 refine AW.q 3 ?_
 refine AW.seq ?_
 refine AW.r ?_
 refine At.a 1 ?_
 refine At.c (spec_MsgFits_spec  m hl) Try.call21 true [] [] [] trivial ?_
 refine At.z 1 ?_
 refine AW.cNB (msgFits m) (fun h1 => ?_) (fun h1 => ?_)
 · refine AW.r ?_
   refine At.lit0 (t := 28) (d := 15) (e := 5) (es := 1) (bytes := 1) 115 (by kernel_rfl) (by kernel_rfl) (by kernel_rfl) (by kernel_rfl) ?_
   refine At.z 2 ?_
   exact AW.ret (rf (k2 (K_spec_MsgPack _ m) (show ([]) = (msgP m) from by rw [msgP_no (by assumption)]) (show (false) = (msgPok m) from by rw [msgPok_no (by assumption)]) (KF.n [(115, 0)])))
 have hmp := msgFits_packs h1
 have hm6 := (msgFits_nums h1).2.2.2.2
 have hkl := putI_len (x := m.kind) (by have := msgFits_kind h1; omega)
 have hkk := msgFits_kind h1
 obtain ⟨b1, b2, b3, b4, b5, b6, b7, b8, b9⟩ := id hmp
 have g1 := putI_len b1
 have g2 := putI_len b2
 have g3 := putI_len b3
 have g4 := putI_len b4
 have g5 := putI_len b5
 have g6 := putI_len b6
 have g7 := putI_len b7
 have g8 := putT_len m.bytes
 have g9 := cmdP_len m.cmd
 have g10 := putI_len (x := (m.entries.length : Int)) (by omega)
 refine AW.skip ?_
 refine AW.r ?_
 refine At.a 2 ?_
 refine At.c (spec_l8Has_spec  m.kind ) Try.call28 true [] [] [] trivial ?_
 refine At.z 1 ?_
 refine AW.r ?_
 refine At.a 2 ?_
 refine At.c (spec_PutNum_spec  m.kind (by omega)) Try.call29 true [] [(1420, 0)] [] trivial ?_
 refine At.z 1 ?_
 refine AW.seq ?_
 refine AW.q 1 ?_
 refine AW.block ?_
 refine AW.loopW (fun (x : Nat × List UInt8) => match x with | (k, o) => Go.Sy.mk [.un, .ptr 101 0 0, .un, .un, .str (l8F m.kind), .ref 1420, .int .i64 (k : Int)] [(101, .box 34 [.int .i64 m.kind, .int .i64 m.from_, .int .i64 m.term, .int .i64 m.at_, .int .i64 m.atTerm, .int .i64 m.commit, .bool m.yes, .int .i64 m.release, .int .i64 m.part, .str m.bytes, .int .i64 m.cmd.kind, .int .i64 m.cmd.release, .int .i64 m.cmd.node, .int .i64 m.cmd.size, .str m.cmd.digest, .sl false 6 (m.entries.map encEnt)]), (1420, .arr 5 1 (o.map encU8))]) (fun (x : Nat × List UInt8) => match x with | (k, o) => k ≤ (l8F m.kind).size ∧ o.length ≤ 4000 * k + 9 ∧ msgB m = o ++ fAllS m ((l8F m.kind).data.toList.drop k)) (fun (x : Nat × List UInt8) => match x with | (k, o) => (l8F m.kind).size - k) (0, putI m.kind) ⟨by omega, by omega, by rw [List.drop_zero]; exact (msgB_spec (by assumption))⟩ (Sub.o [(101, 101), (1420, 1420)] [false, true, false, false, true, true, true]) ?_
 rintro ⟨k, o⟩ ⟨hk, ho, hR⟩
 refine AW.seq ?_
 refine AW.q 4 ?_
 refine AW.cD ((k : Int) < ((l8F m.kind).size : Int)) (fun h2 => ?_) (fun h2 => ?_)
 · refine AW.skip ?_
   refine AW.seq ?_
   refine AW.block ?_
   refine AW.r ?_
   refine At.a 2 ?_
   refine Exists.elim (show ∃ e, (l8F m.kind).data[k]? = some e from ⟨_, Array.getElem?_eq_getElem (by show _ < (l8F m.kind).size; omega)⟩) fun e1 he1 => ?_
   have hl1 : (l8F m.kind).data.toList[k]? = some e1 := by simpa using he1
   refine At.idxStr (t := 9) (d := 30) (x := .tmp 28) (y := .tmp 29) (s := l8F m.kind) (kd := .i64) (i := (k : Int)) e1 (by kernel_rfl) (by kernel_rfl) (by kernel_rfl) (by kernel_rfl) (by omega) he1 ?_
   refine At.done rfl ?_
   refine AW.block ?_
   refine AW.q 2 ?_
   refine AW.cE (e1.toNat : Int) (102 : Int) (fun h3 => ?_) (fun h3 => ?_)
   · refine AW.g ?_
     refine At.a 3 ?_
     refine At.c (spec_PutNum_spec  m.from_ (by omega)) Try.call29 true [] [(1720, 0)] [] trivial ?_
     refine At.apC 37 5 1 1 137 1420 1720 encU8 o (putI m.from_) (by omega) (allP_encU8 _) ?_
     refine At.z 1 ?_
     refine AW.g ?_
     refine At.a 2 ?_
     refine At.sI 27 ((k : Int) + 1) (by omega) ?_
     refine At.z 1 ?_
     exact ⟨(k + 1, (o ++ (putI m.from_))), ⟨by omega, by simp only [List.length_append, List.length_cons, List.length_nil]; omega, by rw [hR, dropCons hl1, fAllS]; simp only [fByteS, h1, h2, h3, if_true, if_false, Int.reduceEq, reduceIte, Bool.false_eq_true, List.append_nil, List.nil_append, List.append_assoc]⟩, (by simp only; omega), Sub.o [(101, 101), (137, 1420)] [false, true, false, false, true, true, true]⟩
   refine AW.q 2 ?_
   refine AW.cE (e1.toNat : Int) (116 : Int) (fun h4 => ?_) (fun h4 => ?_)
   · refine AW.g ?_
     refine At.a 3 ?_
     refine At.c (spec_PutNum_spec  m.term (by omega)) Try.call29 true [] [(1860, 0)] [] trivial ?_
     refine At.apC 44 5 1 1 144 1420 1860 encU8 o (putI m.term) (by omega) (allP_encU8 _) ?_
     refine At.z 1 ?_
     refine AW.g ?_
     refine At.a 2 ?_
     refine At.sI 27 ((k : Int) + 1) (by omega) ?_
     refine At.z 1 ?_
     exact ⟨(k + 1, (o ++ (putI m.term))), ⟨by omega, by simp only [List.length_append, List.length_cons, List.length_nil]; omega, by rw [hR, dropCons hl1, fAllS]; simp only [fByteS, h1, h2, h3, h4, if_true, if_false, Int.reduceEq, reduceIte, Bool.false_eq_true, List.append_nil, List.nil_append, List.append_assoc]⟩, (by simp only; omega), Sub.o [(101, 101), (144, 1420)] [false, true, false, false, true, true, true]⟩
   refine AW.q 2 ?_
   refine AW.cE (e1.toNat : Int) (97 : Int) (fun h5 => ?_) (fun h5 => ?_)
   · refine AW.g ?_
     refine At.a 3 ?_
     refine At.c (spec_PutNum_spec  m.at_ (by omega)) Try.call29 true [] [(2000, 0)] [] trivial ?_
     refine At.apC 51 5 1 1 151 1420 2000 encU8 o (putI m.at_) (by omega) (allP_encU8 _) ?_
     refine At.z 1 ?_
     refine AW.g ?_
     refine At.a 2 ?_
     refine At.sI 27 ((k : Int) + 1) (by omega) ?_
     refine At.z 1 ?_
     exact ⟨(k + 1, (o ++ (putI m.at_))), ⟨by omega, by simp only [List.length_append, List.length_cons, List.length_nil]; omega, by rw [hR, dropCons hl1, fAllS]; simp only [fByteS, h1, h2, h3, h4, h5, if_true, if_false, Int.reduceEq, reduceIte, Bool.false_eq_true, List.append_nil, List.nil_append, List.append_assoc]⟩, (by simp only; omega), Sub.o [(101, 101), (151, 1420)] [false, true, false, false, true, true, true]⟩
   refine AW.q 2 ?_
   refine AW.cE (e1.toNat : Int) (115 : Int) (fun h6 => ?_) (fun h6 => ?_)
   · refine AW.g ?_
     refine At.a 3 ?_
     refine At.c (spec_PutNum_spec  m.atTerm (by omega)) Try.call29 true [] [(2140, 0)] [] trivial ?_
     refine At.apC 58 5 1 1 158 1420 2140 encU8 o (putI m.atTerm) (by omega) (allP_encU8 _) ?_
     refine At.z 1 ?_
     refine AW.g ?_
     refine At.a 2 ?_
     refine At.sI 27 ((k : Int) + 1) (by omega) ?_
     refine At.z 1 ?_
     exact ⟨(k + 1, (o ++ (putI m.atTerm))), ⟨by omega, by simp only [List.length_append, List.length_cons, List.length_nil]; omega, by rw [hR, dropCons hl1, fAllS]; simp only [fByteS, h1, h2, h3, h4, h5, h6, if_true, if_false, Int.reduceEq, reduceIte, Bool.false_eq_true, List.append_nil, List.nil_append, List.append_assoc]⟩, (by simp only; omega), Sub.o [(101, 101), (158, 1420)] [false, true, false, false, true, true, true]⟩
   refine AW.q 2 ?_
   refine AW.cE (e1.toNat : Int) (99 : Int) (fun h7 => ?_) (fun h7 => ?_)
   · refine AW.g ?_
     refine At.a 3 ?_
     refine At.c (spec_PutNum_spec  m.commit (by omega)) Try.call29 true [] [(2280, 0)] [] trivial ?_
     refine At.apC 65 5 1 1 165 1420 2280 encU8 o (putI m.commit) (by omega) (allP_encU8 _) ?_
     refine At.z 1 ?_
     refine AW.g ?_
     refine At.a 2 ?_
     refine At.sI 27 ((k : Int) + 1) (by omega) ?_
     refine At.z 1 ?_
     exact ⟨(k + 1, (o ++ (putI m.commit))), ⟨by omega, by simp only [List.length_append, List.length_cons, List.length_nil]; omega, by rw [hR, dropCons hl1, fAllS]; simp only [fByteS, h1, h2, h3, h4, h5, h6, h7, if_true, if_false, Int.reduceEq, reduceIte, Bool.false_eq_true, List.append_nil, List.nil_append, List.append_assoc]⟩, (by simp only; omega), Sub.o [(101, 101), (165, 1420)] [false, true, false, false, true, true, true]⟩
   refine AW.q 2 ?_
   refine AW.cE (e1.toNat : Int) (121 : Int) (fun h8 => ?_) (fun h8 => ?_)
   · refine AW.q 2 ?_
     refine AW.cB (m.yes) (fun h9 => ?_) (fun h9 => ?_)
     · refine AW.g ?_
       refine At.a 1 ?_
       refine At.ll 71 5 1 171 (56, 6) (([(1 : UInt8)]).map encU8) ?_
       refine At.apK 72 5 1 1 172 1420 171 encU8 o ([(1 : UInt8)]) (by simp only [List.length_map, List.length_append, List.length_take, List.length_drop, List.length_replicate, List.length_set, List.length_cons, List.length_nil]; omega) ?_
       refine At.z 1 ?_
       refine AW.g ?_
       refine At.a 2 ?_
       refine At.sI 27 ((k : Int) + 1) (by omega) ?_
       refine At.z 1 ?_
       exact ⟨(k + 1, (o ++ ([(1 : UInt8)]))), ⟨by omega, by simp only [List.length_append, List.length_cons, List.length_nil]; omega, by rw [hR, dropCons hl1, fAllS]; simp only [fByteS, h1, h2, h3, h4, h5, h6, h7, h8, h9, if_true, if_false, Int.reduceEq, reduceIte, Bool.false_eq_true, List.append_nil, List.nil_append, List.append_assoc]⟩, (by simp only; omega), Sub.o [(101, 101), (172, 1420)] [false, true, false, false, true, true, true]⟩
     refine AW.g ?_
     refine At.a 1 ?_
     refine At.ll 74 5 1 174 (56, 6) (([(0 : UInt8)]).map encU8) ?_
     refine At.apK 75 5 1 1 175 1420 174 encU8 o ([(0 : UInt8)]) (by simp only [List.length_map, List.length_append, List.length_take, List.length_drop, List.length_replicate, List.length_set, List.length_cons, List.length_nil]; omega) ?_
     refine At.z 1 ?_
     refine AW.g ?_
     refine At.a 2 ?_
     refine At.sI 27 ((k : Int) + 1) (by omega) ?_
     refine At.z 1 ?_
     exact ⟨(k + 1, (o ++ ([(0 : UInt8)]))), ⟨by omega, by simp only [List.length_append, List.length_cons, List.length_nil]; omega, by rw [hR, dropCons hl1, fAllS]; simp only [fByteS, h1, h2, h3, h4, h5, h6, h7, h8, h9, if_true, if_false, Int.reduceEq, reduceIte, Bool.false_eq_true, List.append_nil, List.nil_append, List.append_assoc]⟩, (by simp only; omega), Sub.o [(101, 101), (175, 1420)] [false, true, false, false, true, true, true]⟩
   refine AW.q 2 ?_
   refine AW.cE (e1.toNat : Int) (114 : Int) (fun h10 => ?_) (fun h10 => ?_)
   · refine AW.g ?_
     refine At.a 3 ?_
     refine At.c (spec_PutNum_spec  m.release (by omega)) Try.call29 true [] [(2620, 0)] [] trivial ?_
     refine At.apC 82 5 1 1 182 1420 2620 encU8 o (putI m.release) (by omega) (allP_encU8 _) ?_
     refine At.z 1 ?_
     refine AW.g ?_
     refine At.a 2 ?_
     refine At.sI 27 ((k : Int) + 1) (by omega) ?_
     refine At.z 1 ?_
     exact ⟨(k + 1, (o ++ (putI m.release))), ⟨by omega, by simp only [List.length_append, List.length_cons, List.length_nil]; omega, by rw [hR, dropCons hl1, fAllS]; simp only [fByteS, h1, h2, h3, h4, h5, h6, h7, h8, h10, if_true, if_false, Int.reduceEq, reduceIte, Bool.false_eq_true, List.append_nil, List.nil_append, List.append_assoc]⟩, (by simp only; omega), Sub.o [(101, 101), (182, 1420)] [false, true, false, false, true, true, true]⟩
   refine AW.q 2 ?_
   refine AW.cE (e1.toNat : Int) (112 : Int) (fun h11 => ?_) (fun h11 => ?_)
   · refine AW.g ?_
     refine At.a 3 ?_
     refine At.c (spec_PutNum_spec  m.part (by omega)) Try.call29 true [] [(2760, 0)] [] trivial ?_
     refine At.apC 89 5 1 1 189 1420 2760 encU8 o (putI m.part) (by omega) (allP_encU8 _) ?_
     refine At.z 1 ?_
     refine AW.g ?_
     refine At.a 2 ?_
     refine At.sI 27 ((k : Int) + 1) (by omega) ?_
     refine At.z 1 ?_
     exact ⟨(k + 1, (o ++ (putI m.part))), ⟨by omega, by simp only [List.length_append, List.length_cons, List.length_nil]; omega, by rw [hR, dropCons hl1, fAllS]; simp only [fByteS, h1, h2, h3, h4, h5, h6, h7, h8, h10, h11, if_true, if_false, Int.reduceEq, reduceIte, Bool.false_eq_true, List.append_nil, List.nil_append, List.append_assoc]⟩, (by simp only; omega), Sub.o [(101, 101), (189, 1420)] [false, true, false, false, true, true, true]⟩
   refine AW.q 2 ?_
   refine AW.cE (e1.toNat : Int) (98 : Int) (fun h12 => ?_) (fun h12 => ?_)
   · refine AW.g ?_
     refine At.a 3 ?_
     refine At.c (spec_PutText_spec  m.bytes (by omega)) Try.call30 true [] [(2900, 0)] [] trivial ?_
     refine At.apC 96 5 1 1 196 1420 2900 encU8 o (putT m.bytes) (by omega) (allP_encU8 _) ?_
     refine At.z 1 ?_
     refine AW.g ?_
     refine At.a 2 ?_
     refine At.sI 27 ((k : Int) + 1) (by omega) ?_
     refine At.z 1 ?_
     exact ⟨(k + 1, (o ++ (putT m.bytes))), ⟨by omega, by simp only [List.length_append, List.length_cons, List.length_nil]; omega, by rw [hR, dropCons hl1, fAllS]; simp only [fByteS, h1, h2, h3, h4, h5, h6, h7, h8, h10, h11, h12, if_true, if_false, Int.reduceEq, reduceIte, Bool.false_eq_true, List.append_nil, List.nil_append, List.append_assoc]⟩, (by simp only; omega), Sub.o [(101, 101), (196, 1420)] [false, true, false, false, true, true, true]⟩
   refine AW.q 2 ?_
   refine AW.cE (e1.toNat : Int) (100 : Int) (fun h13 => ?_) (fun h13 => ?_)
   · refine AW.r ?_
     refine At.a 2 ?_
     refine At.c (spec_CmdPack_spec  m.cmd ) Try.call31 true [] [(3040, 0)] [] trivial ?_
     refine At.z 5 ?_
     refine AW.g ?_
     refine At.a 2 ?_
     refine At.apC 107 5 1 1 207 1420 3040 encU8 o (cmdP m.cmd) (by omega) (allP_encU8 _) ?_
     refine At.z 1 ?_
     refine AW.g ?_
     refine At.a 2 ?_
     refine At.sI 27 ((k : Int) + 1) (by omega) ?_
     refine At.z 1 ?_
     exact ⟨(k + 1, (o ++ (cmdP m.cmd))), ⟨by omega, by simp only [List.length_append, List.length_cons, List.length_nil]; omega, by rw [hR, dropCons hl1, fAllS]; simp only [fByteS, h1, h2, h3, h4, h5, h6, h7, h8, h10, h11, h12, h13, if_true, if_false, Int.reduceEq, reduceIte, Bool.false_eq_true, List.append_nil, List.nil_append, List.append_assoc]⟩, (by simp only; omega), Sub.o [(101, 101), (207, 1420)] [false, true, false, false, true, true, true]⟩
   refine AW.q 2 ?_
   refine AW.cE (e1.toNat : Int) (101 : Int) (fun h14 => ?_) (fun h14 => ?_)
   · refine AW.r ?_
     refine At.a 4 ?_
     refine At.sL 113 encEnt m.entries ?_
     refine At.c (spec_PutNum_spec  (m.entries.length : Int) (by omega)) Try.call29 true [] [(3280, 0)] [] trivial ?_
     refine At.apC 115 5 1 1 215 1420 3280 encU8 o (putI (m.entries.length : Int)) (by omega) (allP_encU8 _) ?_
     refine At.z 1 ?_
     refine AW.q 1 ?_
     refine AW.block ?_
     refine AW.loopW (fun (x : Nat × List UInt8) => match x with | (j, q) => Go.Sy.mk [.un, .ptr 101 0 0, .un, .un, .str (l8F m.kind), .ref 215, .int .i64 (k : Int), .un, .un, .int .i64 (j : Int)] [(101, .box 34 [.int .i64 m.kind, .int .i64 m.from_, .int .i64 m.term, .int .i64 m.at_, .int .i64 m.atTerm, .int .i64 m.commit, .bool m.yes, .int .i64 m.release, .int .i64 m.part, .str m.bytes, .int .i64 m.cmd.kind, .int .i64 m.cmd.release, .int .i64 m.cmd.node, .int .i64 m.cmd.size, .str m.cmd.digest, .sl false 6 (m.entries.map encEnt)]), (215, .arr 5 1 (q.map encU8))]) (fun (x : Nat × List UInt8) => match x with | (j, q) => j ≤ m.entries.length ∧ q.length ≤ 4000 * k + 18 + 77 * j ∧ o ++ packE m.entries = q ++ entsB (m.entries.drop j)) (fun (x : Nat × List UInt8) => match x with | (j, q) => m.entries.length - j) (0, o ++ (putI (m.entries.length : Int))) ⟨by omega, by simp only [List.length_append]; omega, by rw [List.drop_zero, packE, List.append_assoc]⟩ (Sub.o [(101, 101), (215, 215)] [false, true, false, false, true, true, true, false, false, true]) ?_
     rintro ⟨j, q⟩ ⟨hj, hq, hS⟩
     refine AW.seq ?_
     refine AW.r ?_
     refine At.a 4 ?_
     refine At.sL 119 encEnt m.entries ?_
     refine At.z 1 ?_
     refine AW.cD ((j : Int) < (m.entries.length : Int)) (fun h15 => ?_) (fun h15 => ?_)
     · refine AW.skip ?_
       refine AW.seq ?_
       refine AW.block ?_
       refine AW.r ?_
       refine At.a 4 ?_
       refine At.iSl 32 127 (.tmp 125) (.tmp 126) false 6 (m.entries.map encEnt) .i64 (j : Int) 56 (by omega) (by simp only [List.length_map]; omega) ?_
       refine At.a 1 ?_
       refine Exists.elim (gE m.entries j (by omega)) fun e2 he2 => ?_
       have hxe2 := b9 _ (List.mem_of_getElem? he2)
       have hpe2 := putI_len hxe2
       have hqe2 := cmdP_len e2.cmd
       refine At.lVp 3 129 (.tmp 128) false 6 (m.entries.map encEnt) j 0 false 1 (encEnt e2) (.int .i64 e2.term) (mapGet he2) ?_
       refine At.c (spec_PutNum_spec  e2.term (by omega)) Try.call29 true [] [(3600, 0)] [] trivial ?_
       refine At.apC 131 5 1 1 231 215 3600 encU8 q (putI e2.term) (by omega) (allP_encU8 _) ?_
       refine At.z 1 ?_
       refine AW.r ?_
       refine At.a 3 ?_
       refine At.iSl 32 136 (.tmp 134) (.tmp 135) false 6 (m.entries.map encEnt) .i64 (j : Int) 56 (by omega) (by simp only [List.length_map]; omega) ?_
       refine At.a 1 ?_
       refine At.lVp 31 138 (.tmp 137) false 6 (m.entries.map encEnt) j 1 true 5 (encEnt e2) (.agg [.int .i64 e2.cmd.kind, .int .i64 e2.cmd.release, .int .i64 e2.cmd.node, .int .i64 e2.cmd.size, .str e2.cmd.digest]) (mapGet he2) ?_
       refine At.c (spec_CmdPack_spec  e2.cmd ) Try.call31 true [] [(3780, 0)] [] trivial ?_
       refine At.z 5 ?_
       refine AW.g ?_
       refine At.a 2 ?_
       refine At.apC 144 5 1 1 244 231 3780 encU8 (q ++ (putI e2.term)) (cmdP e2.cmd) (by simp only [List.length_map, List.length_append, List.length_take, List.length_drop, List.length_replicate, List.length_set, List.length_cons, List.length_nil]; omega) (allP_encU8 _) ?_
       refine At.z 1 ?_
       refine AW.g ?_
       refine At.a 2 ?_
       refine At.sI 122 ((j : Int) + 1) (by omega) ?_
       refine At.z 1 ?_
       exact ⟨(j + 1, ((q ++ (putI e2.term)) ++ (cmdP e2.cmd))), ⟨by omega, by simp only [List.length_append]; omega, by rw [hS, dropCons he2, entsB]; simp only [List.append_assoc]⟩, (by simp only; omega), Sub.o [(101, 101), (244, 215)] [false, true, false, false, true, true, true, false, false, true]⟩
     refine AW.exit ?_
     refine AW.g ?_
     refine At.a 2 ?_
     refine At.sI 27 ((k : Int) + 1) (by omega) ?_
     refine At.z 1 ?_
     exact ⟨(k + 1, q), ⟨by omega, by omega, by rw [hR, dropCons hl1, fAllS]; simp only [fByteS, h1, h2, h3, h4, h5, h6, h7, h8, h10, h11, h12, h13, h14, h15, if_true, if_false, Int.reduceEq, reduceIte, Bool.false_eq_true, List.append_nil, List.nil_append, ← List.append_assoc]; rw [hS, List.drop_of_length_le (by omega), entsB, List.append_nil]⟩, (by simp only; omega), Sub.o [(101, 101), (215, 1420)] [false, true, false, false, true, true, true]⟩
   refine AW.skip ?_
   refine AW.g ?_
   refine At.a 2 ?_
   refine At.sI 27 ((k : Int) + 1) (by omega) ?_
   refine At.z 1 ?_
   exact ⟨(k + 1, o), ⟨by omega, by omega, by rw [hR, dropCons hl1, fAllS]; simp only [fByteS, h1, h2, h3, h4, h5, h6, h7, h8, h10, h11, h12, h13, h14, if_true, if_false, Int.reduceEq, reduceIte, Bool.false_eq_true, List.append_nil, List.nil_append, List.append_assoc]⟩, (by simp only; omega), Sub.o [(101, 101), (1420, 1420)] [false, true, false, false, true, true, true]⟩
 refine AW.exit ?_
 refine AW.r ?_
 refine At.a 1 ?_
 refine At.c (spec_Seal_spec  o (by omega)) Try.call32 false [] [(3920, 0)] [(1420, 1, (o.map encU8))] ⟨rfl, ⟨5, (o.map encU8), by kernel_rfl, FrzIs.same (allP_encU8 _)⟩, trivial⟩ ?_
 refine At.z 4 ?_
 exact AW.ret (rf (k2 (K_spec_MsgPack _ m) (show (sealP o) = (msgP m) from by rw [msgP_yes (by assumption), hR, List.drop_of_length_le (by rw [Array.length_toList]; show (l8F m.kind).size ≤ _; omega)]; simp [fAllS]) (show (decide (¬ (o.length : Int) > 3000)) = (msgPok m) from by rw [msgPok_yes (by assumption), hR, List.drop_of_length_le (by rw [Array.length_toList]; show (l8F m.kind).size ≤ _; omega)]; simp [fAllS]) (KF.n [(3920, 0)])))
def K_spec_Unseal (rs : List ResultVar) (b : List UInt8) (at_ : Int) (w0_ : List UInt8) (w1_ : Int) (w2_ : Int) : Exit → Sg → Prop := KF Try.prog 0 rs (.tup [.ref 0, .int .i64 w1_, .int .i64 w2_]) [.arr 5 1 (w0_.map encU8)]
theorem spec_Unseal_spec  (b : List UInt8) (at_ : Int) (hb : b.length ≤ 1048576) (ha : 0 ≤ at_ ∧ at_ ≤ 1048576) : FnSpec Try.prog 43 [.sl false 1 (b.map encU8), .int .i64 at_] [] (.tup [.ref 0, .int .i64 ((unsealB b at_).2.1), .int .i64 ((unsealB b at_).2.2)]) [.arr 5 1 (((unsealB b at_).1).map encU8)] := by
 have hgn := getN_num b (at_ := at_)
 have hx1 : ((getN b at_).2.1 + (getN b at_).1).toNat - (getN b at_).2.1.toNat = (getN b at_).1.toNat := by omega
 have hx2 : ((getN b at_).2.1 + (getN b at_).1 + 4).toNat - ((getN b at_).2.1 + (getN b at_).1).toNat = 4 := by omega
 refine FnSpec.of 82 Try.func43 rfl Try.ntmps43 (by simp) (AW.weakK ?_)
 refine AW.q 3 ?_
 refine AW.r ?_
 refine At.a 2 ?_
 refine At.c (spec_GetNum_spec  b at_ hb (by omega)) Try.call22 true [] [] [] trivial ?_
 refine At.z 7 ?_
 refine AW.seq ?_
 refine AW.r ?_
 refine At.a 3 ?_
 by_cases h1 : ((getN b at_).2.2) = true
 · refine At.sB 21 (!((getN b at_).2.2)) false (sayNF (sayB h1)) ?_
   refine At.z 3 ?_
   refine AW.cD (((getN b at_).1) > 3000) (fun h2 => ?_) (fun h2 => ?_)
   · refine AW.r ?_
     refine At.lit0 (t := 28) (d := 25) (e := 5) (es := 1) (bytes := 1) 125 (by kernel_rfl) (by kernel_rfl) (by kernel_rfl) (by kernel_rfl) ?_
     refine At.z 3 ?_
     exact AW.ret (rf (k3 (K_spec_Unseal _ b at_) (show ([]) = ((unsealB b at_).1) from by rw [unseal_big (by assumption)]) (show (0) = ((unsealB b at_).2.1) from by rw [unseal_big (by assumption)]) (show (1) = ((unsealB b at_).2.2) from by rw [unseal_big (by assumption)]) (KF.n [(125, 0)])))
   refine AW.skip ?_
   refine AW.seq ?_
   refine AW.r ?_
   refine At.a 2 ?_
   refine At.sL 27 encU8 b ?_
   refine At.a 2 ?_
   refine At.sI 29 ((b.length : Int) - ((getN b at_).2.1)) (by omega) ?_
   refine At.a 2 ?_
   refine At.sI 31 (((getN b at_).1) + 4) (by omega) ?_
   refine At.z 1 ?_
   refine AW.cD (((b.length : Int) - ((getN b at_).2.1)) < (((getN b at_).1) + 4)) (fun h3 => ?_) (fun h3 => ?_)
   · refine AW.r ?_
     refine At.lit0 (t := 28) (d := 33) (e := 5) (es := 1) (bytes := 1) 133 (by kernel_rfl) (by kernel_rfl) (by kernel_rfl) (by kernel_rfl) ?_
     refine At.z 3 ?_
     exact AW.ret (rf (k3 (K_spec_Unseal _ b at_) (show ([]) = ((unsealB b at_).1) from by rw [unseal_short' (by assumption) (by assumption) (by omega)]) (show (0) = ((unsealB b at_).2.1) from by rw [unseal_short' (by assumption) (by assumption) (by omega)]) (show (2) = ((unsealB b at_).2.2) from by rw [unseal_short' (by assumption) (by assumption) (by omega)]) (KF.n [(133, 0)])))
   refine AW.skip ?_
   refine AW.r ?_
   refine At.lit0 (t := 28) (d := 34) (e := 5) (es := 1) (bytes := 1) 134 (by kernel_rfl) (by kernel_rfl) (by kernel_rfl) (by kernel_rfl) ?_
   refine At.a 5 ?_
   refine At.sI 39 (((getN b at_).2.1) + ((getN b at_).1)) (by omega) ?_
   refine At.sliceSl (t := 28) (d := 40) (e := 5) (es := 1) (x := .tmp 35) (lx := some (.tmp 36)) (hx := some (.tmp 39)) (p := false) (xs := (b.map encU8)) (vl := .int .i64 ((getN b at_).2.1)) (vh := .int .i64 (((getN b at_).2.1) + ((getN b at_).1))) (((getN b at_).2.1).toNat) ((((getN b at_).2.1) + ((getN b at_).1)).toNat) (((b.drop (((getN b at_).2.1).toNat)).take (((((getN b at_).2.1) + ((getN b at_).1)).toNat) - (((getN b at_).2.1).toNat))).map encU8) (by kernel_rfl) (by kernel_rfl) (by kernel_rfl) (by kernel_rfl) (.inr ⟨_, _, rfl, sayNat (by omega)⟩) (.inr ⟨_, _, rfl, sayNat (by omega)⟩) (by omega) (by simp only [List.length_map]; omega) (by simp [List.map_take, List.map_drop]) ?_
   refine At.append (t := 28) (d := 41) (e := 5) (es := 1) (bytes := 1) (s := .tmp 34) (x := .tmp 40) (S := .ref 134) (T := .sl false 1 (((b.drop (((getN b at_).2.1).toNat)).take (((((getN b at_).2.1) + ((getN b at_).1)).toNat) - (((getN b at_).2.1).toNat))).map encU8)) (xs := []) (ys := (((b.drop (((getN b at_).2.1).toNat)).take (((((getN b at_).2.1) + ((getN b at_).1)).toNat) - (((getN b at_).2.1).toNat))).map encU8)) 141 [134] [] (((b.drop (((getN b at_).2.1).toNat)).take (((((getN b at_).2.1) + ((getN b at_).1)).toNat) - (((getN b at_).2.1).toNat))).map encU8) (by kernel_rfl) (by kernel_rfl) (by kernel_rfl) (by kernel_rfl) ⟨by kernel_rfl, rfl⟩ ⟨rfl, rfl, (allP_encU8 _), rfl⟩ (by kernel_rfl) (by kernel_rfl) (by simp) (by simp only [List.length_map, List.length_append, List.length_take, List.length_drop, List.length_replicate, List.length_set, List.length_cons, List.length_nil]; omega) (by simp only [List.length_map, List.length_append, List.length_take, List.length_drop, List.length_replicate, List.length_set, List.length_cons, List.length_nil]; omega) ?_
   refine At.z 1 ?_
   refine AW.r ?_
   refine At.a 4 ?_
   refine At.sI 45 (((getN b at_).2.1) + ((getN b at_).1)) (by omega) ?_
   refine At.a 3 ?_
   refine At.sI 48 (((getN b at_).2.1) + ((getN b at_).1)) (by omega) ?_
   refine At.a 1 ?_
   refine At.sI 49 ((((getN b at_).2.1) + ((getN b at_).1)) + 4) (by omega) ?_
   refine At.sliceSl (t := 28) (d := 50) (e := 5) (es := 1) (x := .tmp 42) (lx := some (.tmp 45)) (hx := some (.tmp 49)) (p := false) (xs := (b.map encU8)) (vl := .int .i64 (((getN b at_).2.1) + ((getN b at_).1))) (vh := .int .i64 ((((getN b at_).2.1) + ((getN b at_).1)) + 4)) ((((getN b at_).2.1) + ((getN b at_).1)).toNat) (((((getN b at_).2.1) + ((getN b at_).1)) + 4).toNat) (((b.drop ((((getN b at_).2.1) + ((getN b at_).1)).toNat)).take ((((((getN b at_).2.1) + ((getN b at_).1)) + 4).toNat) - ((((getN b at_).2.1) + ((getN b at_).1)).toNat))).map encU8) (by kernel_rfl) (by kernel_rfl) (by kernel_rfl) (by kernel_rfl) (.inr ⟨_, _, rfl, sayNat (by omega)⟩) (.inr ⟨_, _, rfl, sayNat (by omega)⟩) (by omega) (by simp only [List.length_map]; omega) (by simp [List.map_take, List.map_drop]) ?_
   refine At.z 1 ?_
   refine AW.seq ?_
   refine AW.seq ?_
   refine AW.gD Try_mix ?_
   refine At.a 1 ?_
   refine At.c (spec_Sum_spec  ((b.drop (((getN b at_).2.1).toNat)).take (((((getN b at_).2.1) + ((getN b at_).1)).toNat) - (((getN b at_).2.1).toNat))) (by simp only [List.length_take, List.length_drop]; omega)) Try.call64 false [] [] [(141, 1, (((b.drop (((getN b at_).2.1).toNat)).take (((((getN b at_).2.1) + ((getN b at_).1)).toNat) - (((getN b at_).2.1).toNat))).map encU8))] ⟨rfl, ⟨5, (((b.drop (((getN b at_).2.1).toNat)).take (((((getN b at_).2.1) + ((getN b at_).1)).toNat) - (((getN b at_).2.1).toNat))).map encU8), by kernel_rfl, FrzIs.same (allP_encU8 _)⟩, trivial⟩ ?_
   refine At.a 1 ?_
   refine At.iSl 28 54 (.tmp 53) (.const (.int .i64 0)) false 1 (((b.drop ((((getN b at_).2.1) + ((getN b at_).1)).toNat)).take ((((((getN b at_).2.1) + ((getN b at_).1)) + 4).toNat) - ((((getN b at_).2.1) + ((getN b at_).1)).toNat))).map encU8) .i64 0 5 (by omega) (by simp only [List.length_map, List.length_append, List.length_take, List.length_drop, List.length_replicate, List.length_set, List.length_cons, List.length_nil]; omega) ?_
   refine Exists.elim (gE ((b.drop ((((getN b at_).2.1) + ((getN b at_).1)).toNat)).take ((((((getN b at_).2.1) + ((getN b at_).1)) + 4).toNat) - ((((getN b at_).2.1) + ((getN b at_).1)).toNat))) 0 (by simp only [List.length_map, List.length_append, List.length_take, List.length_drop, List.length_replicate, List.length_set, List.length_cons, List.length_nil]; omega)) fun e1 he1 => ?_
   have hbe1 := UInt8.toNat_lt e1
   refine At.lVp 5 55 (.tmp 54) false 1 (((b.drop ((((getN b at_).2.1) + ((getN b at_).1)).toNat)).take ((((((getN b at_).2.1) + ((getN b at_).1)) + 4).toNat) - ((((getN b at_).2.1) + ((getN b at_).1)).toNat))).map encU8) 0 0 false 1 (encU8 e1) (.int .u8 (e1.toNat : Int)) (mapGet he1) ?_
   refine At.conv (s := 5) (t := 3) (d := 56) (x := .tmp 55) (kd := .u8) (kd' := .i64) (a := (e1.toNat : Int)) (.int .i64 (e1.toNat : Int)) (by kernel_rfl) (by kernel_rfl) (by kernel_rfl) (by kernel_rfl) (sayI _ (by have := UInt8.toNat_lt e1; omega)) ?_
   refine At.a 1 ?_
   refine At.iSl 28 58 (.tmp 57) (.const (.int .i64 1)) false 1 (((b.drop ((((getN b at_).2.1) + ((getN b at_).1)).toNat)).take ((((((getN b at_).2.1) + ((getN b at_).1)) + 4).toNat) - ((((getN b at_).2.1) + ((getN b at_).1)).toNat))).map encU8) .i64 1 5 (by omega) (by simp only [List.length_map, List.length_append, List.length_take, List.length_drop, List.length_replicate, List.length_set, List.length_cons, List.length_nil]; omega) ?_
   refine Exists.elim (gE ((b.drop ((((getN b at_).2.1) + ((getN b at_).1)).toNat)).take ((((((getN b at_).2.1) + ((getN b at_).1)) + 4).toNat) - ((((getN b at_).2.1) + ((getN b at_).1)).toNat))) 1 (by simp only [List.length_map, List.length_append, List.length_take, List.length_drop, List.length_replicate, List.length_set, List.length_cons, List.length_nil]; omega)) fun e2 he2 => ?_
   have hbe2 := UInt8.toNat_lt e2
   refine At.lVp 5 59 (.tmp 58) false 1 (((b.drop ((((getN b at_).2.1) + ((getN b at_).1)).toNat)).take ((((((getN b at_).2.1) + ((getN b at_).1)) + 4).toNat) - ((((getN b at_).2.1) + ((getN b at_).1)).toNat))).map encU8) 1 0 false 1 (encU8 e2) (.int .u8 (e2.toNat : Int)) (mapGet he2) ?_
   refine At.conv (s := 5) (t := 3) (d := 60) (x := .tmp 59) (kd := .u8) (kd' := .i64) (a := (e2.toNat : Int)) (.int .i64 (e2.toNat : Int)) (by kernel_rfl) (by kernel_rfl) (by kernel_rfl) (by kernel_rfl) (sayI _ (by have := UInt8.toNat_lt e2; omega)) ?_
   refine At.shift (t := 3) (u := 93) (d := 61) (op := .shl) (x := .tmp 60) (y := .const (.int .u64 8)) (kd := .i64) (kd' := .u64) (a := (e2.toNat : Int)) (b := 8) ((e2.toNat : Int) * 256) (by kernel_rfl) (by kernel_rfl) (by kernel_rfl) (by kernel_rfl) (by omega) ((shS_shl _ _ _).trans (congrArg some shl_8)) ?_
   refine At.a 1 ?_
   refine At.sI 62 ((e1.toNat : Int) + ((e2.toNat : Int) * 256)) (by omega) ?_
   refine At.a 1 ?_
   refine At.iSl 28 64 (.tmp 63) (.const (.int .i64 2)) false 1 (((b.drop ((((getN b at_).2.1) + ((getN b at_).1)).toNat)).take ((((((getN b at_).2.1) + ((getN b at_).1)) + 4).toNat) - ((((getN b at_).2.1) + ((getN b at_).1)).toNat))).map encU8) .i64 2 5 (by omega) (by simp only [List.length_map, List.length_append, List.length_take, List.length_drop, List.length_replicate, List.length_set, List.length_cons, List.length_nil]; omega) ?_
   refine Exists.elim (gE ((b.drop ((((getN b at_).2.1) + ((getN b at_).1)).toNat)).take ((((((getN b at_).2.1) + ((getN b at_).1)) + 4).toNat) - ((((getN b at_).2.1) + ((getN b at_).1)).toNat))) 2 (by simp only [List.length_map, List.length_append, List.length_take, List.length_drop, List.length_replicate, List.length_set, List.length_cons, List.length_nil]; omega)) fun e3 he3 => ?_
   have hbe3 := UInt8.toNat_lt e3
   refine At.lVp 5 65 (.tmp 64) false 1 (((b.drop ((((getN b at_).2.1) + ((getN b at_).1)).toNat)).take ((((((getN b at_).2.1) + ((getN b at_).1)) + 4).toNat) - ((((getN b at_).2.1) + ((getN b at_).1)).toNat))).map encU8) 2 0 false 1 (encU8 e3) (.int .u8 (e3.toNat : Int)) (mapGet he3) ?_
   refine At.conv (s := 5) (t := 3) (d := 66) (x := .tmp 65) (kd := .u8) (kd' := .i64) (a := (e3.toNat : Int)) (.int .i64 (e3.toNat : Int)) (by kernel_rfl) (by kernel_rfl) (by kernel_rfl) (by kernel_rfl) (sayI _ (by have := UInt8.toNat_lt e3; omega)) ?_
   refine At.shift (t := 3) (u := 93) (d := 67) (op := .shl) (x := .tmp 66) (y := .const (.int .u64 16)) (kd := .i64) (kd' := .u64) (a := (e3.toNat : Int)) (b := 16) ((e3.toNat : Int) * 65536) (by kernel_rfl) (by kernel_rfl) (by kernel_rfl) (by kernel_rfl) (by omega) ((shS_shl _ _ _).trans (congrArg some shl_16)) ?_
   refine At.a 1 ?_
   refine At.sI 68 (((e1.toNat : Int) + ((e2.toNat : Int) * 256)) + ((e3.toNat : Int) * 65536)) (by omega) ?_
   refine At.a 1 ?_
   refine At.iSl 28 70 (.tmp 69) (.const (.int .i64 3)) false 1 (((b.drop ((((getN b at_).2.1) + ((getN b at_).1)).toNat)).take ((((((getN b at_).2.1) + ((getN b at_).1)) + 4).toNat) - ((((getN b at_).2.1) + ((getN b at_).1)).toNat))).map encU8) .i64 3 5 (by omega) (by simp only [List.length_map, List.length_append, List.length_take, List.length_drop, List.length_replicate, List.length_set, List.length_cons, List.length_nil]; omega) ?_
   refine Exists.elim (gE ((b.drop ((((getN b at_).2.1) + ((getN b at_).1)).toNat)).take ((((((getN b at_).2.1) + ((getN b at_).1)) + 4).toNat) - ((((getN b at_).2.1) + ((getN b at_).1)).toNat))) 3 (by simp only [List.length_map, List.length_append, List.length_take, List.length_drop, List.length_replicate, List.length_set, List.length_cons, List.length_nil]; omega)) fun e4 he4 => ?_
   have hbe4 := UInt8.toNat_lt e4
   refine At.lVp 5 71 (.tmp 70) false 1 (((b.drop ((((getN b at_).2.1) + ((getN b at_).1)).toNat)).take ((((((getN b at_).2.1) + ((getN b at_).1)) + 4).toNat) - ((((getN b at_).2.1) + ((getN b at_).1)).toNat))).map encU8) 3 0 false 1 (encU8 e4) (.int .u8 (e4.toNat : Int)) (mapGet he4) ?_
   refine At.conv (s := 5) (t := 3) (d := 72) (x := .tmp 71) (kd := .u8) (kd' := .i64) (a := (e4.toNat : Int)) (.int .i64 (e4.toNat : Int)) (by kernel_rfl) (by kernel_rfl) (by kernel_rfl) (by kernel_rfl) (sayI _ (by have := UInt8.toNat_lt e4; omega)) ?_
   refine At.shift (t := 3) (u := 93) (d := 73) (op := .shl) (x := .tmp 72) (y := .const (.int .u64 24)) (kd := .i64) (kd' := .u64) (a := (e4.toNat : Int)) (b := 24) ((e4.toNat : Int) * 16777216) (by kernel_rfl) (by kernel_rfl) (by kernel_rfl) (by kernel_rfl) (by omega) ((shS_shl _ _ _).trans (congrArg some shl_24)) ?_
   refine At.a 1 ?_
   refine At.sI 74 ((((e1.toNat : Int) + ((e2.toNat : Int) * 256)) + ((e3.toNat : Int) * 65536)) + ((e4.toNat : Int) * 16777216)) (by omega) ?_
   refine At.zD 1 ?_
   refine AW.cU (sumB ((b.drop (((getN b at_).2.1).toNat)).take (((((getN b at_).2.1) + ((getN b at_).1)).toNat) - (((getN b at_).2.1).toNat)))) ((((e1.toNat : Int) + ((e2.toNat : Int) * 256)) + ((e3.toNat : Int) * 65536)) + ((e4.toNat : Int) * 16777216)) (fun h4 => ?_) (fun h4 => ?_)
   · refine AW.r ?_
     refine At.lit0 (t := 28) (d := 76) (e := 5) (es := 1) (bytes := 1) 176 (by kernel_rfl) (by kernel_rfl) (by kernel_rfl) (by kernel_rfl) ?_
     refine At.z 3 ?_
     exact AW.ret (rf (k3 (K_spec_Unseal _ b at_) (show ([]) = ((unsealB b at_).1) from by rw [unseal_sum' (c := [e1, e2, e3, e4]) h1 h2 (by omega) (by have q4 := quad (by rw [hx2]; exact four_bytes ⟨hgn.1.1, hgn.2.1⟩ (by omega)) he1 he2 he3 he4; rw [hx2] at q4; exact q4.symm) (fun e => h4 (by rw [hx1]; exact (sum4_iff (sumB_in _).1 (sumB_in _).2).1 e))]; first | done | rfl | (rw [hx1]; done) | (rw [hx1]; rfl)) (show (0) = ((unsealB b at_).2.1) from by rw [unseal_sum' (c := [e1, e2, e3, e4]) h1 h2 (by omega) (by have q4 := quad (by rw [hx2]; exact four_bytes ⟨hgn.1.1, hgn.2.1⟩ (by omega)) he1 he2 he3 he4; rw [hx2] at q4; exact q4.symm) (fun e => h4 (by rw [hx1]; exact (sum4_iff (sumB_in _).1 (sumB_in _).2).1 e))]; first | done | rfl | (rw [hx1]; done) | (rw [hx1]; rfl)) (show (3) = ((unsealB b at_).2.2) from by rw [unseal_sum' (c := [e1, e2, e3, e4]) h1 h2 (by omega) (by have q4 := quad (by rw [hx2]; exact four_bytes ⟨hgn.1.1, hgn.2.1⟩ (by omega)) he1 he2 he3 he4; rw [hx2] at q4; exact q4.symm) (fun e => h4 (by rw [hx1]; exact (sum4_iff (sumB_in _).1 (sumB_in _).2).1 e))]; first | done | rfl | (rw [hx1]; done) | (rw [hx1]; rfl)) (KF.n [(176, 0)])))
   refine AW.skip ?_
   refine AW.r ?_
   refine At.a 4 ?_
   refine At.sI 80 (((getN b at_).2.1) + ((getN b at_).1)) (by omega) ?_
   refine At.a 1 ?_
   refine At.sI 81 ((((getN b at_).2.1) + ((getN b at_).1)) + 4) (by omega) ?_
   refine At.z 3 ?_
   exact AW.ret (rf (k3 (K_spec_Unseal _ b at_) (show ((b.drop (((getN b at_).2.1).toNat)).take (((((getN b at_).2.1) + ((getN b at_).1)).toNat) - (((getN b at_).2.1).toNat))) = ((unsealB b at_).1) from by rw [unseal_yes' (c := [e1, e2, e3, e4]) h1 h2 (by omega) (by have q4 := quad (by rw [hx2]; exact four_bytes ⟨hgn.1.1, hgn.2.1⟩ (by omega)) he1 he2 he3 he4; rw [hx2] at q4; exact q4.symm) ((sum4_iff (sumB_in _).1 (sumB_in _).2).2 (by have q := h4; rw [hx1] at q; exact q))]; first | done | rfl | (rw [hx1]; done) | (rw [hx1]; rfl)) (show ((((getN b at_).2.1) + ((getN b at_).1)) + 4) = ((unsealB b at_).2.1) from by rw [unseal_yes' (c := [e1, e2, e3, e4]) h1 h2 (by omega) (by have q4 := quad (by rw [hx2]; exact four_bytes ⟨hgn.1.1, hgn.2.1⟩ (by omega)) he1 he2 he3 he4; rw [hx2] at q4; exact q4.symm) ((sum4_iff (sumB_in _).1 (sumB_in _).2).2 (by have q := h4; rw [hx1] at q; exact q))]; first | done | rfl | (rw [hx1]; done) | (rw [hx1]; rfl)) (show (0) = ((unsealB b at_).2.2) from by rw [unseal_yes' (c := [e1, e2, e3, e4]) h1 h2 (by omega) (by have q4 := quad (by rw [hx2]; exact four_bytes ⟨hgn.1.1, hgn.2.1⟩ (by omega)) he1 he2 he3 he4; rw [hx2] at q4; exact q4.symm) ((sum4_iff (sumB_in _).1 (sumB_in _).2).2 (by have q := h4; rw [hx1] at q; exact q))]; first | done | rfl | (rw [hx1]; done) | (rw [hx1]; rfl)) (KF.n [(141, 0)])))
 refine At.sB 21 (!((getN b at_).2.2)) true (sayNT (sayB (Bool.eq_false_iff.2 h1))) ?_
 replace h1 := Bool.eq_false_iff.2 h1
 refine At.z 3 ?_
 refine AW.cond true (by kernel_rfl) (fun _ => ?_) (fun h => by cases h)
 refine AW.r ?_
 refine At.lit0 (t := 28) (d := 25) (e := 5) (es := 1) (bytes := 1) 125 (by kernel_rfl) (by kernel_rfl) (by kernel_rfl) (by kernel_rfl) ?_
 refine At.z 3 ?_
 exact AW.ret (rf (k3 (K_spec_Unseal _ b at_) (show ([]) = ((unsealB b at_).1) from by rw [unseal_no (by assumption)]) (show (0) = ((unsealB b at_).2.1) from by rw [unseal_no (by assumption)]) (show (1) = ((unsealB b at_).2.2) from by rw [unseal_no (by assumption)]) (KF.n [(125, 0)])))
end Go.Proofs.Ythjmbojkpkbedaa
