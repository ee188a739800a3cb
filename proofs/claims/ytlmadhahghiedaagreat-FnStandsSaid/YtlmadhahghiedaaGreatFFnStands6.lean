/- The contracts of the functions that FnStands reaches (each: what it answers, said over values), printed by a program of this session (wip/sy/g/gen.py). -/
import Derived.Test.YtlmadhahghiedaaGreatFFnStands5
set_option linter.unusedVariables false
set_option linter.unusedSimpArgs false
set_option maxRecDepth 100000
set_option maxHeartbeats 4000000
namespace Go.Proofs.YtlmadhahghiedaaGreat
open Go Go.Sy Go.Proofs
theorem spec_l8DrawMsg_spec  (c : Cur) (hp : 0 ≤ c.pos ∧ c.pos ≤ c.data.length ∧ c.data.length ≤ 1048576) : ∃ rho_ : Int × Int × Msg, (0 ≤ rho_.1 ∧ rho_.1 ≤ c.data.length ∧ rho_.2.2.entries.length ≤ 101) ∧ FnSpec Tryz.prog 145 [.ptr 0 0 0] [.box 141 [.sl false 1 (c.data.map encU8), .int .i64 c.pos, .int .i64 c.seed]] (.agg [.int .i64 rho_.2.2.kind, .int .i64 rho_.2.2.from_, .int .i64 rho_.2.2.term, .int .i64 rho_.2.2.at_, .int .i64 rho_.2.2.atTerm, .int .i64 rho_.2.2.commit, .bool rho_.2.2.yes, .int .i64 rho_.2.2.release, .int .i64 rho_.2.2.part, .str rho_.2.2.bytes, .int .i64 rho_.2.2.cmd.kind, .int .i64 rho_.2.2.cmd.release, .int .i64 rho_.2.2.cmd.node, .int .i64 rho_.2.2.cmd.size, .str rho_.2.2.cmd.digest, .ref 1]) [.box 141 [.sl false 1 (c.data.map encU8), .int .i64 rho_.1, .int .i64 rho_.2.1], .arr 45 6 (rho_.2.2.entries.map encEnt)] := by
 refine dv (fun h_ => FnSpec.of 55 Tryz.func145 rfl Tryz.ntmps145 (by simp) (AW.weakK h_)) ?_
 refine dv (AW.q 1 ·) ?_
 refine dv (AW.seq ·) ?_
 refine dv (AW.weak (Sub.nils [⟨true, 102, some 15, 5001, 45, 6⟩] (by kernel_rfl)) ·) ?_
 refine dv (AW.g ·) ?_
 refine dv (At.a 1 ·) ?_
 refine Exists.elim (spec_l8DrawRight_spec  c (by omega)) fun r1_ hr1_ => ?_
 have qr1_ := hr1_.1
 try dsimp only at qr1_
 refine dv (At.c (hr1_.2) Tryz.call144 true [(0, 0)] [(1100, 1)] [] trivial ·) ?_
 refine dv (At.z 2 ·) ?_
 refine dv (AW.seq ·) ?_
 refine dv (AW.r ·) ?_
 refine dv (At.a 1 ·) ?_
 refine Exists.elim (spec_l1Below_spec  (⟨c.data, r1_.1, r1_.2.1⟩ : Cur) 25 (by dsimp only; omega)) fun r2_ hr2_ => ?_
 have qr2_ := hr2_.1
 try dsimp only at qr2_
 refine dv (At.c (hr2_.2) Tryz.call143 true [(0, 0)] [] [] trivial ·) ?_
 refine dv (At.done rfl ·) ?_
 refine dv (AW.block ·) ?_
 refine dv (AW.q 2 ·) ?_
 by_cases h1 : r2_.2.2 = 0
 · refine dv (AW.condT (r2_.2.2 == 0) (by kernel_rfl) (beq_iff_eq.2 h1) ·) ?_
   refine dv (AW.g ·) ?_
   refine dv (At.a 1 ·) ?_
   refine dv (At.ll 11 3 1 111 (45, 6) (([0, 8, 1, 5]).map encI) ·) ?_
   refine Exists.elim (spec_l1PickInt_spec  (⟨c.data, r2_.1, r2_.2.1⟩ : Cur) ([0, 8, 1, 5]) (by dsimp only; omega) (by decide)) fun r3_ hr3_ => ?_
   have qr3_ := hr3_.1
   try dsimp only at qr3_
   refine dv (At.c (hr3_.2) Tryz.call161 true [(0, 0), (111, 1)] [] [] trivial ·) ?_
   refine dv (At.z 2 ·) ?_
   refine dv (AW.q 2 ·) ?_
   refine dv (AW.ret ·) ?_
   refine dv (⟨_, Sub.refl _ _, ·⟩) ?_
   exact ⟨(r3_.1, r3_.2.1, (⟨r3_.2.2, r1_.2.2.from_, r1_.2.2.term, r1_.2.2.at_, r1_.2.2.atTerm, r1_.2.2.commit, r1_.2.2.yes, r1_.2.2.release, r1_.2.2.part, r1_.2.2.bytes, r1_.2.2.cmd, r1_.2.2.entries⟩ : Msg)), (by (try dsimp only); (try simp only [List.length_append, List.length_cons, List.length_nil]); omega), KF.mk (.inr rfl) [(0, 0), (1100, 1)] [.agg [.int .i64 r3_.2.2, .int .i64 r1_.2.2.from_, .int .i64 r1_.2.2.term, .int .i64 r1_.2.2.at_, .int .i64 r1_.2.2.atTerm, .int .i64 r1_.2.2.commit, .bool r1_.2.2.yes, .int .i64 r1_.2.2.release, .int .i64 r1_.2.2.part, .str r1_.2.2.bytes, .int .i64 r1_.2.2.cmd.kind, .int .i64 r1_.2.2.cmd.release, .int .i64 r1_.2.2.cmd.node, .int .i64 r1_.2.2.cmd.size, .str r1_.2.2.cmd.digest, .ref 1100]] (by kernel_rfl) (by kernel_rfl) (by kernel_rfl) (by kernel_rfl) (by kernel_rfl)⟩
 refine dv (AW.condF (r2_.2.2 == 0) (by kernel_rfl) (beq_eq_false_iff_ne.2 h1) ·) ?_
 refine dv (AW.q 2 ·) ?_
 by_cases h2 : r2_.2.2 = 1
 · refine dv (AW.condT (r2_.2.2 == 1) (by kernel_rfl) (beq_iff_eq.2 h2) ·) ?_
   refine dv (AW.g ·) ?_
   refine dv (At.a 1 ·) ?_
   refine dv (At.ll 17 3 1 117 (45, 6) (([-1, 4, 5]).map encI) ·) ?_
   refine Exists.elim (spec_l1PickInt_spec  (⟨c.data, r2_.1, r2_.2.1⟩ : Cur) ([-1, 4, 5]) (by dsimp only; omega) (by decide)) fun r3_ hr3_ => ?_
   have qr3_ := hr3_.1
   try dsimp only at qr3_
   refine dv (At.c (hr3_.2) Tryz.call161 true [(0, 0), (117, 1)] [] [] trivial ·) ?_
   refine dv (At.z 2 ·) ?_
   refine dv (AW.q 2 ·) ?_
   refine dv (AW.ret ·) ?_
   refine dv (⟨_, Sub.refl _ _, ·⟩) ?_
   exact ⟨(r3_.1, r3_.2.1, (⟨r1_.2.2.kind, r3_.2.2, r1_.2.2.term, r1_.2.2.at_, r1_.2.2.atTerm, r1_.2.2.commit, r1_.2.2.yes, r1_.2.2.release, r1_.2.2.part, r1_.2.2.bytes, r1_.2.2.cmd, r1_.2.2.entries⟩ : Msg)), (by (try dsimp only); (try simp only [List.length_append, List.length_cons, List.length_nil]); omega), KF.mk (.inr rfl) [(0, 0), (1100, 1)] [.agg [.int .i64 r1_.2.2.kind, .int .i64 r3_.2.2, .int .i64 r1_.2.2.term, .int .i64 r1_.2.2.at_, .int .i64 r1_.2.2.atTerm, .int .i64 r1_.2.2.commit, .bool r1_.2.2.yes, .int .i64 r1_.2.2.release, .int .i64 r1_.2.2.part, .str r1_.2.2.bytes, .int .i64 r1_.2.2.cmd.kind, .int .i64 r1_.2.2.cmd.release, .int .i64 r1_.2.2.cmd.node, .int .i64 r1_.2.2.cmd.size, .str r1_.2.2.cmd.digest, .ref 1100]] (by kernel_rfl) (by kernel_rfl) (by kernel_rfl) (by kernel_rfl) (by kernel_rfl)⟩
 refine dv (AW.condF (r2_.2.2 == 1) (by kernel_rfl) (beq_eq_false_iff_ne.2 h2) ·) ?_
 refine dv (AW.q 2 ·) ?_
 by_cases h3 : r2_.2.2 = 2
 · refine dv (AW.condT (r2_.2.2 == 2) (by kernel_rfl) (beq_iff_eq.2 h3) ·) ?_
   refine dv (AW.g ·) ?_
   refine dv (At.a 1 ·) ?_
   refine dv (At.ll 23 3 1 123 (45, 6) (([-1, 80, 81]).map encI) ·) ?_
   refine Exists.elim (spec_l1PickInt_spec  (⟨c.data, r2_.1, r2_.2.1⟩ : Cur) ([-1, 80, 81]) (by dsimp only; omega) (by decide)) fun r3_ hr3_ => ?_
   have qr3_ := hr3_.1
   try dsimp only at qr3_
   refine dv (At.c (hr3_.2) Tryz.call161 true [(0, 0), (123, 1)] [] [] trivial ·) ?_
   refine dv (At.z 2 ·) ?_
   refine dv (AW.q 2 ·) ?_
   refine dv (AW.ret ·) ?_
   refine dv (⟨_, Sub.refl _ _, ·⟩) ?_
   exact ⟨(r3_.1, r3_.2.1, (⟨r1_.2.2.kind, r1_.2.2.from_, r1_.2.2.term, r3_.2.2, r1_.2.2.atTerm, r1_.2.2.commit, r1_.2.2.yes, r1_.2.2.release, r1_.2.2.part, r1_.2.2.bytes, r1_.2.2.cmd, r1_.2.2.entries⟩ : Msg)), (by (try dsimp only); (try simp only [List.length_append, List.length_cons, List.length_nil]); omega), KF.mk (.inr rfl) [(0, 0), (1100, 1)] [.agg [.int .i64 r1_.2.2.kind, .int .i64 r1_.2.2.from_, .int .i64 r1_.2.2.term, .int .i64 r3_.2.2, .int .i64 r1_.2.2.atTerm, .int .i64 r1_.2.2.commit, .bool r1_.2.2.yes, .int .i64 r1_.2.2.release, .int .i64 r1_.2.2.part, .str r1_.2.2.bytes, .int .i64 r1_.2.2.cmd.kind, .int .i64 r1_.2.2.cmd.release, .int .i64 r1_.2.2.cmd.node, .int .i64 r1_.2.2.cmd.size, .str r1_.2.2.cmd.digest, .ref 1100]] (by kernel_rfl) (by kernel_rfl) (by kernel_rfl) (by kernel_rfl) (by kernel_rfl)⟩
 refine dv (AW.condF (r2_.2.2 == 2) (by kernel_rfl) (beq_eq_false_iff_ne.2 h3) ·) ?_
 refine dv (AW.q 2 ·) ?_
 by_cases h4 : r2_.2.2 = 3
 · refine dv (AW.condT (r2_.2.2 == 3) (by kernel_rfl) (beq_iff_eq.2 h4) ·) ?_
   refine dv (AW.g ·) ?_
   refine dv (At.a 1 ·) ?_
   refine Exists.elim (spec_l3DrawText_spec  (⟨c.data, r2_.1, r2_.2.1⟩ : Cur) 17 (by dsimp only; omega) (by omega)) fun r3_ hr3_ => ?_
   have qr3_ := hr3_.1
   try dsimp only at qr3_
   refine dv (At.c (hr3_.2) Tryz.call172 true [(0, 0)] [] [] trivial ·) ?_
   refine dv (At.z 2 ·) ?_
   refine dv (AW.q 2 ·) ?_
   refine dv (AW.ret ·) ?_
   refine dv (⟨_, Sub.refl _ _, ·⟩) ?_
   exact ⟨(r3_.1, r3_.2.1, (⟨r1_.2.2.kind, r1_.2.2.from_, r1_.2.2.term, r1_.2.2.at_, r1_.2.2.atTerm, r1_.2.2.commit, r1_.2.2.yes, r1_.2.2.release, r1_.2.2.part, r3_.2.2, r1_.2.2.cmd, r1_.2.2.entries⟩ : Msg)), (by (try dsimp only); (try simp only [List.length_append, List.length_cons, List.length_nil]); omega), KF.mk (.inr rfl) [(0, 0), (1100, 1)] [.agg [.int .i64 r1_.2.2.kind, .int .i64 r1_.2.2.from_, .int .i64 r1_.2.2.term, .int .i64 r1_.2.2.at_, .int .i64 r1_.2.2.atTerm, .int .i64 r1_.2.2.commit, .bool r1_.2.2.yes, .int .i64 r1_.2.2.release, .int .i64 r1_.2.2.part, .str r3_.2.2, .int .i64 r1_.2.2.cmd.kind, .int .i64 r1_.2.2.cmd.release, .int .i64 r1_.2.2.cmd.node, .int .i64 r1_.2.2.cmd.size, .str r1_.2.2.cmd.digest, .ref 1100]] (by kernel_rfl) (by kernel_rfl) (by kernel_rfl) (by kernel_rfl) (by kernel_rfl)⟩
 refine dv (AW.condF (r2_.2.2 == 3) (by kernel_rfl) (beq_eq_false_iff_ne.2 h4) ·) ?_
 refine dv (AW.q 2 ·) ?_
 by_cases h5 : r2_.2.2 = 4
 · refine dv (AW.condT (r2_.2.2 == 4) (by kernel_rfl) (beq_iff_eq.2 h5) ·) ?_
   refine dv (AW.gq 5 ·) ?_
   refine dv (AW.q 2 ·) ?_
   refine dv (AW.ret ·) ?_
   refine dv (⟨_, Sub.refl _ _, ·⟩) ?_
   exact ⟨(r2_.1, r2_.2.1, (⟨r1_.2.2.kind, r1_.2.2.from_, r1_.2.2.term, r1_.2.2.at_, r1_.2.2.atTerm, r1_.2.2.commit, !r1_.2.2.yes, r1_.2.2.release, r1_.2.2.part, r1_.2.2.bytes, r1_.2.2.cmd, r1_.2.2.entries⟩ : Msg)), (by (try dsimp only); (try simp only [List.length_append, List.length_cons, List.length_nil]); omega), KF.mk (.inr rfl) [(0, 0), (1100, 1)] [.agg [.int .i64 r1_.2.2.kind, .int .i64 r1_.2.2.from_, .int .i64 r1_.2.2.term, .int .i64 r1_.2.2.at_, .int .i64 r1_.2.2.atTerm, .int .i64 r1_.2.2.commit, .bool (!r1_.2.2.yes), .int .i64 r1_.2.2.release, .int .i64 r1_.2.2.part, .str r1_.2.2.bytes, .int .i64 r1_.2.2.cmd.kind, .int .i64 r1_.2.2.cmd.release, .int .i64 r1_.2.2.cmd.node, .int .i64 r1_.2.2.cmd.size, .str r1_.2.2.cmd.digest, .ref 1100]] (by kernel_rfl) (by kernel_rfl) (by kernel_rfl) (by kernel_rfl) (by kernel_rfl)⟩
 refine dv (AW.condF (r2_.2.2 == 4) (by kernel_rfl) (beq_eq_false_iff_ne.2 h5) ·) ?_
 refine dv (AW.q 2 ·) ?_
 by_cases h6 : r2_.2.2 = 5
 · refine dv (AW.condT (r2_.2.2 == 5) (by kernel_rfl) (beq_iff_eq.2 h6) ·) ?_
   refine dv (AW.gD Tryz_mix ·) ?_
   refine dv (At.a 3 ·) ?_
   refine Exists.elim (spec_l1Below_spec  (⟨c.data, r2_.1, r2_.2.1⟩ : Cur) 2 (by dsimp only; omega)) fun r3_ hr3_ => ?_
   have qr3_ := hr3_.1
   try dsimp only at qr3_
   refine dv (At.c (hr3_.2) Tryz.call143 true [(0, 0)] [] [] trivial ·) ?_
   refine dv (At.a 1 ·) ?_
   refine Exists.elim (spec_l5DrawCmd_spec  (⟨c.data, r3_.1, r3_.2.1⟩ : Cur) (by dsimp only; omega)) fun r4_ hr4_ => ?_
   have qr4_ := hr4_.1
   try dsimp only at qr4_
   refine dv (At.c (hr4_.2) Tryz.call100 true [(0, 0)] [] [] trivial ·) ?_
   refine dv (At.a 1 ·) ?_
   refine dv (At.ll 46 45 6 146 (45, 6) (([(⟨r3_.2.2, r4_.2.2⟩ : Ent)]).map encEnt) ·) ?_
   refine dv (At.apK 47 45 6 56 147 1100 146 encEnt r1_.2.2.entries ([(⟨r3_.2.2, r4_.2.2⟩ : Ent)]) (by simp only [List.length_map, List.length_append, List.length_take, List.length_drop, List.length_replicate, List.length_set, List.length_cons, List.length_nil]; omega) ·) ?_
   refine dv (At.zD 2 ·) ?_
   refine dv (AW.q 2 ·) ?_
   refine dv (AW.ret ·) ?_
   refine dv (⟨_, Sub.refl _ _, ·⟩) ?_
   exact ⟨(r4_.1, r4_.2.1, (⟨r1_.2.2.kind, r1_.2.2.from_, r1_.2.2.term, r1_.2.2.at_, r1_.2.2.atTerm, r1_.2.2.commit, r1_.2.2.yes, r1_.2.2.release, r1_.2.2.part, r1_.2.2.bytes, r1_.2.2.cmd, r1_.2.2.entries ++ ([(⟨r3_.2.2, r4_.2.2⟩ : Ent)])⟩ : Msg)), (by (try dsimp only); (try simp only [List.length_append, List.length_cons, List.length_nil]); omega), KF.mk (.inr rfl) [(0, 0), (147, 1)] [.agg [.int .i64 r1_.2.2.kind, .int .i64 r1_.2.2.from_, .int .i64 r1_.2.2.term, .int .i64 r1_.2.2.at_, .int .i64 r1_.2.2.atTerm, .int .i64 r1_.2.2.commit, .bool r1_.2.2.yes, .int .i64 r1_.2.2.release, .int .i64 r1_.2.2.part, .str r1_.2.2.bytes, .int .i64 r1_.2.2.cmd.kind, .int .i64 r1_.2.2.cmd.release, .int .i64 r1_.2.2.cmd.node, .int .i64 r1_.2.2.cmd.size, .str r1_.2.2.cmd.digest, .ref 147]] (by kernel_rfl) (by kernel_rfl) (by kernel_rfl) (by kernel_rfl) (by kernel_rfl)⟩
 refine dv (AW.condF (r2_.2.2 == 5) (by kernel_rfl) (beq_eq_false_iff_ne.2 h6) ·) ?_
 refine dv (AW.q 2 ·) ?_
 by_cases h7 : r2_.2.2 = 6
 · refine dv (AW.condT (r2_.2.2 == 6) (by kernel_rfl) (beq_iff_eq.2 h7) ·) ?_
   refine dv (AW.g ·) ?_
   refine dv (At.a 1 ·) ?_
   refine Exists.elim (spec_l5DrawCmd_spec  (⟨c.data, r2_.1, r2_.2.1⟩ : Cur) (by dsimp only; omega)) fun r3_ hr3_ => ?_
   have qr3_ := hr3_.1
   try dsimp only at qr3_
   refine dv (At.c (hr3_.2) Tryz.call100 true [(0, 0)] [] [] trivial ·) ?_
   refine dv (At.z 2 ·) ?_
   refine dv (AW.q 2 ·) ?_
   refine dv (AW.ret ·) ?_
   refine dv (⟨_, Sub.refl _ _, ·⟩) ?_
   exact ⟨(r3_.1, r3_.2.1, (⟨r1_.2.2.kind, r1_.2.2.from_, r1_.2.2.term, r1_.2.2.at_, r1_.2.2.atTerm, r1_.2.2.commit, r1_.2.2.yes, r1_.2.2.release, r1_.2.2.part, r1_.2.2.bytes, r3_.2.2, r1_.2.2.entries⟩ : Msg)), (by (try dsimp only); (try simp only [List.length_append, List.length_cons, List.length_nil]); omega), KF.mk (.inr rfl) [(0, 0), (1100, 1)] [.agg [.int .i64 r1_.2.2.kind, .int .i64 r1_.2.2.from_, .int .i64 r1_.2.2.term, .int .i64 r1_.2.2.at_, .int .i64 r1_.2.2.atTerm, .int .i64 r1_.2.2.commit, .bool r1_.2.2.yes, .int .i64 r1_.2.2.release, .int .i64 r1_.2.2.part, .str r1_.2.2.bytes, .int .i64 r3_.2.2.kind, .int .i64 r3_.2.2.release, .int .i64 r3_.2.2.node, .int .i64 r3_.2.2.size, .str r3_.2.2.digest, .ref 1100]] (by kernel_rfl) (by kernel_rfl) (by kernel_rfl) (by kernel_rfl) (by kernel_rfl)⟩
 refine dv (AW.condF (r2_.2.2 == 6) (by kernel_rfl) (beq_eq_false_iff_ne.2 h7) ·) ?_
 refine dv (AW.skip ·) ?_
 refine dv (AW.q 2 ·) ?_
 refine dv (AW.ret ·) ?_
 refine dv (⟨_, Sub.refl _ _, ·⟩) ?_
 exact ⟨(r2_.1, r2_.2.1, r1_.2.2), (by (try dsimp only); (try simp only [List.length_append, List.length_cons, List.length_nil]); omega), KF.mk (.inr rfl) [(0, 0), (1100, 1)] [.agg [.int .i64 r1_.2.2.kind, .int .i64 r1_.2.2.from_, .int .i64 r1_.2.2.term, .int .i64 r1_.2.2.at_, .int .i64 r1_.2.2.atTerm, .int .i64 r1_.2.2.commit, .bool r1_.2.2.yes, .int .i64 r1_.2.2.release, .int .i64 r1_.2.2.part, .str r1_.2.2.bytes, .int .i64 r1_.2.2.cmd.kind, .int .i64 r1_.2.2.cmd.release, .int .i64 r1_.2.2.cmd.node, .int .i64 r1_.2.2.cmd.size, .str r1_.2.2.cmd.digest, .ref 1100]] (by kernel_rfl) (by kernel_rfl) (by kernel_rfl) (by kernel_rfl) (by kernel_rfl)⟩
theorem spec_l10Spoil_spec  (c : Cur) (r : Raft) (hp : 0 ≤ c.pos ∧ c.pos ≤ c.data.length ∧ c.data.length ≤ 1048576) (hr : raftOk r = true) : ∃ rho_ : Int × Int × Raft, (0 ≤ rho_.1 ∧ rho_.1 ≤ c.data.length ∧ SmallR rho_.2.2) ∧ FnSpec Tryz.prog 146 [.ptr 0 0 0, .agg [.int .i64 r.id, .int .i64 r.of_, .int .i64 r.role, .int .i64 r.commit, .int .i64 r.hard.term, .int .i64 r.hard.vote, .ref 1, .ref 2, .ref 3, .ref 4]] [.box 141 [.sl false 1 (c.data.map encU8), .int .i64 c.pos, .int .i64 c.seed], .arr 45 6 (r.hard.log.map encEnt), .arr 3 1 (r.yes.map encI), .arr 3 1 (r.next.map encI), .arr 3 1 (r.match_.map encI)] (.agg [.int .i64 rho_.2.2.id, .int .i64 rho_.2.2.of_, .int .i64 rho_.2.2.role, .int .i64 rho_.2.2.commit, .int .i64 rho_.2.2.hard.term, .int .i64 rho_.2.2.hard.vote, .ref 5, .ref 6, .ref 7, .ref 8]) [.box 141 [.sl false 1 (c.data.map encU8), .int .i64 rho_.1, .int .i64 rho_.2.1], .dead, .dead, .dead, .dead, .arr 45 6 (rho_.2.2.hard.log.map encEnt), .arr 3 1 (rho_.2.2.yes.map encI), .arr 3 1 (rho_.2.2.next.map encI), .arr 3 1 (rho_.2.2.match_.map encI)] := by
 have hnn := NodeIn.nums (n := r.of_) ⟨hr, rfl⟩
 obtain ⟨z1, z2, z3, z4⟩ := hnn.2.2.2.2.2
 have hnm := raftOk1_nums (raftOk_1 hr)
 have hln := raftOk_lens hr
 refine dv (fun h_ => FnSpec.of 60 Tryz.func146 rfl Tryz.ntmps146 (by simp) (AW.weakK h_)) ?_
 refine dv (AW.q 2 ·) ?_
 refine dv (AW.seq ·) ?_
 refine dv (AW.seq ·) ?_
 refine dv (AW.weak (Sub.nils [⟨true, 104, some 6, 5001, 45, 6⟩, ⟨true, 104, some 7, 5002, 3, 1⟩, ⟨true, 104, some 8, 5003, 3, 1⟩, ⟨true, 104, some 9, 5004, 3, 1⟩] (by kernel_rfl)) ·) ?_
 refine dv (AW.g ·) ?_
 refine dv (At.a 1 ·) ?_
 refine Exists.elim (spec_l1Below_spec  c 40 (by omega)) fun r1_ hr1_ => ?_
 have qr1_ := hr1_.1
 try dsimp only at qr1_
 refine dv (At.c (hr1_.2) Tryz.call143 true [(0, 0)] [] [] trivial ·) ?_
 refine dv (At.done rfl ·) ?_
 refine dv (AW.block ·) ?_
 refine dv (AW.q 2 ·) ?_
 by_cases h1 : r1_.2.2 = 0
 · refine dv (AW.condT (r1_.2.2 == 0) (by kernel_rfl) (beq_iff_eq.2 h1) ·) ?_
   refine dv (AW.g ·) ?_
   refine dv (At.a 1 ·) ?_
   refine Exists.elim (spec_l1Below_spec  (⟨c.data, r1_.1, r1_.2.1⟩ : Cur) 5 (by dsimp only; omega)) fun r2_ hr2_ => ?_
   have qr2_ := hr2_.1
   try dsimp only at qr2_
   refine dv (At.c (hr2_.2) Tryz.call143 true [(0, 0)] [] [] trivial ·) ?_
   refine dv (At.z 2 ·) ?_
   refine dv (AW.q 2 ·) ?_
   refine dv (AW.ret ·) ?_
   refine dv (⟨_, (Sub.trans (Sub.trans (Sub.trans (Sub.trans (Sub.refl _ _) (Sub.mv 1 8001 (by kernel_rfl) (by decide))) (Sub.mv 2 8002 (by kernel_rfl) (by decide))) (Sub.mv 3 8003 (by kernel_rfl) (by decide))) (Sub.mv 4 8004 (by kernel_rfl) (by decide))), ·⟩) ?_
   exact ⟨(r2_.1, r2_.2.1, (⟨r.id, r.of_, r2_.2.2, r.commit, r.hard, r.yes, r.next, r.match_⟩ : Raft)), (by (try dsimp only); refine ⟨by omega, by omega, ?_⟩; unfold SmallR; (try dsimp only); (try simp only [List.length_append, List.length_cons, List.length_nil]); omega), KF.mk (.inr rfl) [(0, 0), (1, 1), (2, 2), (3, 3), (4, 4), (8001, 5), (8002, 6), (8003, 7), (8004, 8)] [.agg [.int .i64 r.id, .int .i64 r.of_, .int .i64 r2_.2.2, .int .i64 r.commit, .int .i64 r.hard.term, .int .i64 r.hard.vote, .ref 8001, .ref 8002, .ref 8003, .ref 8004]] (by kernel_rfl) (by kernel_rfl) (by kernel_rfl) (by kernel_rfl) (by kernel_rfl)⟩
 refine dv (AW.condF (r1_.2.2 == 0) (by kernel_rfl) (beq_eq_false_iff_ne.2 h1) ·) ?_
 refine dv (AW.q 2 ·) ?_
 by_cases h2 : r1_.2.2 = 1
 · refine dv (AW.condT (r1_.2.2 == 1) (by kernel_rfl) (beq_iff_eq.2 h2) ·) ?_
   refine dv (AW.gD Tryz_mix ·) ?_
   refine dv (At.a 3 ·) ?_
   refine Exists.elim (spec_l1Below_spec  (⟨c.data, r1_.1, r1_.2.1⟩ : Cur) 3 (by dsimp only; omega)) fun r2_ hr2_ => ?_
   have qr2_ := hr2_.1
   try dsimp only at qr2_
   refine dv (At.c (hr2_.2) Tryz.call143 true [(0, 0)] [] [] trivial ·) ?_
   refine dv (At.a 1 ·) ?_
   refine dv (At.sI 18 (r.commit + r2_.2.2) (by omega) ·) ?_
   refine dv (At.a 1 ·) ?_
   refine dv (At.sI 19 ((r.commit + r2_.2.2) - 1) (by omega) ·) ?_
   refine dv (At.zD 2 ·) ?_
   refine dv (AW.q 2 ·) ?_
   refine dv (AW.ret ·) ?_
   refine dv (⟨_, (Sub.trans (Sub.trans (Sub.trans (Sub.trans (Sub.refl _ _) (Sub.mv 1 8001 (by kernel_rfl) (by decide))) (Sub.mv 2 8002 (by kernel_rfl) (by decide))) (Sub.mv 3 8003 (by kernel_rfl) (by decide))) (Sub.mv 4 8004 (by kernel_rfl) (by decide))), ·⟩) ?_
   exact ⟨(r2_.1, r2_.2.1, (⟨r.id, r.of_, r.role, (r.commit + r2_.2.2) - 1, r.hard, r.yes, r.next, r.match_⟩ : Raft)), (by (try dsimp only); refine ⟨by omega, by omega, ?_⟩; unfold SmallR; (try dsimp only); (try simp only [List.length_append, List.length_cons, List.length_nil]); omega), KF.mk (.inr rfl) [(0, 0), (1, 1), (2, 2), (3, 3), (4, 4), (8001, 5), (8002, 6), (8003, 7), (8004, 8)] [.agg [.int .i64 r.id, .int .i64 r.of_, .int .i64 r.role, .int .i64 ((r.commit + r2_.2.2) - 1), .int .i64 r.hard.term, .int .i64 r.hard.vote, .ref 8001, .ref 8002, .ref 8003, .ref 8004]] (by kernel_rfl) (by kernel_rfl) (by kernel_rfl) (by kernel_rfl) (by kernel_rfl)⟩
 refine dv (AW.condF (r1_.2.2 == 1) (by kernel_rfl) (beq_eq_false_iff_ne.2 h2) ·) ?_
 refine dv (AW.q 2 ·) ?_
 by_cases h3 : r1_.2.2 = 2
 · refine dv (AW.condT (r1_.2.2 == 2) (by kernel_rfl) (beq_iff_eq.2 h3) ·) ?_
   refine dv (AW.gD Tryz_mix ·) ?_
   refine dv (At.a 4 ·) ?_
   refine Exists.elim (spec_l1Below_spec  (⟨c.data, r1_.1, r1_.2.1⟩ : Cur) 3 (by dsimp only; omega)) fun r2_ hr2_ => ?_
   have qr2_ := hr2_.1
   try dsimp only at qr2_
   refine dv (At.c (hr2_.2) Tryz.call143 true [(0, 0)] [] [] trivial ·) ?_
   refine dv (At.a 1 ·) ?_
   refine dv (At.sI 28 (r.hard.term + r2_.2.2) (by omega) ·) ?_
   refine dv (At.a 1 ·) ?_
   refine dv (At.sI 29 ((r.hard.term + r2_.2.2) - 1) (by omega) ·) ?_
   refine dv (At.zD 3 ·) ?_
   refine dv (AW.q 2 ·) ?_
   refine dv (AW.ret ·) ?_
   refine dv (⟨_, (Sub.trans (Sub.trans (Sub.trans (Sub.trans (Sub.refl _ _) (Sub.mv 1 8001 (by kernel_rfl) (by decide))) (Sub.mv 2 8002 (by kernel_rfl) (by decide))) (Sub.mv 3 8003 (by kernel_rfl) (by decide))) (Sub.mv 4 8004 (by kernel_rfl) (by decide))), ·⟩) ?_
   exact ⟨(r2_.1, r2_.2.1, (⟨r.id, r.of_, r.role, r.commit, ⟨(r.hard.term + r2_.2.2) - 1, r.hard.vote, r.hard.log⟩, r.yes, r.next, r.match_⟩ : Raft)), (by (try dsimp only); refine ⟨by omega, by omega, ?_⟩; unfold SmallR; (try dsimp only); (try simp only [List.length_append, List.length_cons, List.length_nil]); omega), KF.mk (.inr rfl) [(0, 0), (1, 1), (2, 2), (3, 3), (4, 4), (8001, 5), (8002, 6), (8003, 7), (8004, 8)] [.agg [.int .i64 r.id, .int .i64 r.of_, .int .i64 r.role, .int .i64 r.commit, .int .i64 ((r.hard.term + r2_.2.2) - 1), .int .i64 r.hard.vote, .ref 8001, .ref 8002, .ref 8003, .ref 8004]] (by kernel_rfl) (by kernel_rfl) (by kernel_rfl) (by kernel_rfl) (by kernel_rfl)⟩
 refine dv (AW.condF (r1_.2.2 == 2) (by kernel_rfl) (beq_eq_false_iff_ne.2 h3) ·) ?_
 refine dv (AW.q 2 ·) ?_
 by_cases h4 : r1_.2.2 = 3
 · refine dv (AW.condT (r1_.2.2 == 3) (by kernel_rfl) (beq_iff_eq.2 h4) ·) ?_
   refine dv (AW.g ·) ?_
   refine dv (At.a 1 ·) ?_
   refine Exists.elim (spec_l1Below_spec  (⟨c.data, r1_.1, r1_.2.1⟩ : Cur) 7 (by dsimp only; omega)) fun r2_ hr2_ => ?_
   have qr2_ := hr2_.1
   try dsimp only at qr2_
   refine dv (At.c (hr2_.2) Tryz.call143 true [(0, 0)] [] [] trivial ·) ?_
   refine dv (At.z 3 ·) ?_
   refine dv (AW.q 2 ·) ?_
   refine dv (AW.ret ·) ?_
   refine dv (⟨_, (Sub.trans (Sub.trans (Sub.trans (Sub.trans (Sub.refl _ _) (Sub.mv 1 8001 (by kernel_rfl) (by decide))) (Sub.mv 2 8002 (by kernel_rfl) (by decide))) (Sub.mv 3 8003 (by kernel_rfl) (by decide))) (Sub.mv 4 8004 (by kernel_rfl) (by decide))), ·⟩) ?_
   exact ⟨(r2_.1, r2_.2.1, (⟨r.id, r.of_, r.role, r.commit, ⟨r.hard.term, r2_.2.2, r.hard.log⟩, r.yes, r.next, r.match_⟩ : Raft)), (by (try dsimp only); refine ⟨by omega, by omega, ?_⟩; unfold SmallR; (try dsimp only); (try simp only [List.length_append, List.length_cons, List.length_nil]); omega), KF.mk (.inr rfl) [(0, 0), (1, 1), (2, 2), (3, 3), (4, 4), (8001, 5), (8002, 6), (8003, 7), (8004, 8)] [.agg [.int .i64 r.id, .int .i64 r.of_, .int .i64 r.role, .int .i64 r.commit, .int .i64 r.hard.term, .int .i64 r2_.2.2, .ref 8001, .ref 8002, .ref 8003, .ref 8004]] (by kernel_rfl) (by kernel_rfl) (by kernel_rfl) (by kernel_rfl) (by kernel_rfl)⟩
 refine dv (AW.condF (r1_.2.2 == 3) (by kernel_rfl) (beq_eq_false_iff_ne.2 h4) ·) ?_
 refine dv (AW.q 2 ·) ?_
 by_cases h5 : r1_.2.2 = 4
 · refine dv (AW.condT (r1_.2.2 == 4) (by kernel_rfl) (beq_iff_eq.2 h5) ·) ?_
   refine dv (AW.gD Tryz_mix ·) ?_
   refine dv (At.a 3 ·) ?_
   refine Exists.elim (spec_l1Below_spec  (⟨c.data, r1_.1, r1_.2.1⟩ : Cur) 5 (by dsimp only; omega)) fun r2_ hr2_ => ?_
   have qr2_ := hr2_.1
   try dsimp only at qr2_
   refine dv (At.c (hr2_.2) Tryz.call143 true [(0, 0)] [] [] trivial ·) ?_
   refine dv (At.ll 44 3 1 144 (45, 6) (([r2_.2.2]).map encI) ·) ?_
   refine dv (At.apK 45 3 1 8 145 2 144 encI r.yes ([r2_.2.2]) (by simp only [List.length_map, List.length_append, List.length_take, List.length_drop, List.length_replicate, List.length_set, List.length_cons, List.length_nil]; omega) ·) ?_
   refine dv (At.zD 2 ·) ?_
   refine dv (AW.q 2 ·) ?_
   refine dv (AW.ret ·) ?_
   refine dv (⟨_, (Sub.trans (Sub.trans (Sub.trans (Sub.refl _ _) (Sub.mv 1 8001 (by kernel_rfl) (by decide))) (Sub.mv 3 8003 (by kernel_rfl) (by decide))) (Sub.mv 4 8004 (by kernel_rfl) (by decide))), ·⟩) ?_
   exact ⟨(r2_.1, r2_.2.1, (⟨r.id, r.of_, r.role, r.commit, r.hard, r.yes ++ ([r2_.2.2]), r.next, r.match_⟩ : Raft)), (by (try dsimp only); refine ⟨by omega, by omega, ?_⟩; unfold SmallR; (try dsimp only); (try simp only [List.length_append, List.length_cons, List.length_nil]); omega), KF.mk (.inr rfl) [(0, 0), (1, 1), (2, 2), (3, 3), (4, 4), (8001, 5), (145, 6), (8003, 7), (8004, 8)] [.agg [.int .i64 r.id, .int .i64 r.of_, .int .i64 r.role, .int .i64 r.commit, .int .i64 r.hard.term, .int .i64 r.hard.vote, .ref 8001, .ref 145, .ref 8003, .ref 8004]] (by kernel_rfl) (by kernel_rfl) (by kernel_rfl) (by kernel_rfl) (by kernel_rfl)⟩
 refine dv (AW.condF (r1_.2.2 == 4) (by kernel_rfl) (beq_eq_false_iff_ne.2 h5) ·) ?_
 refine dv (AW.q 2 ·) ?_
 by_cases h6 : r1_.2.2 = 5
 · refine dv (AW.condT (r1_.2.2 == 5) (by kernel_rfl) (beq_iff_eq.2 h6) ·) ?_
   refine dv (AW.g ·) ?_
   refine dv (At.a 2 ·) ?_
   refine dv (At.ll 51 3 1 151 (45, 6) (([1]).map encI) ·) ?_
   refine dv (At.apK 52 3 1 8 152 3 151 encI r.next ([1]) (by simp only [List.length_map, List.length_append, List.length_take, List.length_drop, List.length_replicate, List.length_set, List.length_cons, List.length_nil]; omega) ·) ?_
   refine dv (At.z 2 ·) ?_
   refine dv (AW.q 2 ·) ?_
   refine dv (AW.ret ·) ?_
   refine dv (⟨_, (Sub.trans (Sub.trans (Sub.trans (Sub.refl _ _) (Sub.mv 1 8001 (by kernel_rfl) (by decide))) (Sub.mv 2 8002 (by kernel_rfl) (by decide))) (Sub.mv 4 8004 (by kernel_rfl) (by decide))), ·⟩) ?_
   exact ⟨(r1_.1, r1_.2.1, (⟨r.id, r.of_, r.role, r.commit, r.hard, r.yes, r.next ++ ([1]), r.match_⟩ : Raft)), (by (try dsimp only); refine ⟨by omega, by omega, ?_⟩; unfold SmallR; (try dsimp only); (try simp only [List.length_append, List.length_cons, List.length_nil]); omega), KF.mk (.inr rfl) [(0, 0), (1, 1), (2, 2), (3, 3), (4, 4), (8001, 5), (8002, 6), (152, 7), (8004, 8)] [.agg [.int .i64 r.id, .int .i64 r.of_, .int .i64 r.role, .int .i64 r.commit, .int .i64 r.hard.term, .int .i64 r.hard.vote, .ref 8001, .ref 8002, .ref 152, .ref 8004]] (by kernel_rfl) (by kernel_rfl) (by kernel_rfl) (by kernel_rfl) (by kernel_rfl)⟩
 refine dv (AW.condF (r1_.2.2 == 5) (by kernel_rfl) (beq_eq_false_iff_ne.2 h6) ·) ?_
 refine dv (AW.q 2 ·) ?_
 by_cases h7 : r1_.2.2 = 6
 · refine dv (AW.condT (r1_.2.2 == 6) (by kernel_rfl) (beq_iff_eq.2 h7) ·) ?_
   refine dv (AW.g ·) ?_
   refine dv (At.a 1 ·) ?_
   refine Exists.elim (spec_l1Below_spec  (⟨c.data, r1_.1, r1_.2.1⟩ : Cur) 6 (by dsimp only; omega)) fun r2_ hr2_ => ?_
   have qr2_ := hr2_.1
   try dsimp only at qr2_
   refine dv (At.c (hr2_.2) Tryz.call143 true [(0, 0)] [] [] trivial ·) ?_
   refine dv (At.z 2 ·) ?_
   refine dv (AW.q 2 ·) ?_
   refine dv (AW.ret ·) ?_
   refine dv (⟨_, (Sub.trans (Sub.trans (Sub.trans (Sub.trans (Sub.refl _ _) (Sub.mv 1 8001 (by kernel_rfl) (by decide))) (Sub.mv 2 8002 (by kernel_rfl) (by decide))) (Sub.mv 3 8003 (by kernel_rfl) (by decide))) (Sub.mv 4 8004 (by kernel_rfl) (by decide))), ·⟩) ?_
   exact ⟨(r2_.1, r2_.2.1, (⟨r2_.2.2, r.of_, r.role, r.commit, r.hard, r.yes, r.next, r.match_⟩ : Raft)), (by (try dsimp only); refine ⟨by omega, by omega, ?_⟩; unfold SmallR; (try dsimp only); (try simp only [List.length_append, List.length_cons, List.length_nil]); omega), KF.mk (.inr rfl) [(0, 0), (1, 1), (2, 2), (3, 3), (4, 4), (8001, 5), (8002, 6), (8003, 7), (8004, 8)] [.agg [.int .i64 r2_.2.2, .int .i64 r.of_, .int .i64 r.role, .int .i64 r.commit, .int .i64 r.hard.term, .int .i64 r.hard.vote, .ref 8001, .ref 8002, .ref 8003, .ref 8004]] (by kernel_rfl) (by kernel_rfl) (by kernel_rfl) (by kernel_rfl) (by kernel_rfl)⟩
 refine dv (AW.condF (r1_.2.2 == 6) (by kernel_rfl) (beq_eq_false_iff_ne.2 h7) ·) ?_
 refine dv (AW.skip ·) ?_
 refine dv (AW.q 2 ·) ?_
 refine dv (AW.ret ·) ?_
 refine dv (⟨_, (Sub.trans (Sub.trans (Sub.trans (Sub.trans (Sub.refl _ _) (Sub.mv 1 8001 (by kernel_rfl) (by decide))) (Sub.mv 2 8002 (by kernel_rfl) (by decide))) (Sub.mv 3 8003 (by kernel_rfl) (by decide))) (Sub.mv 4 8004 (by kernel_rfl) (by decide))), ·⟩) ?_
 exact ⟨(r1_.1, r1_.2.1, r), (by (try dsimp only); refine ⟨by omega, by omega, ?_⟩; unfold SmallR; (try dsimp only); (try simp only [List.length_append, List.length_cons, List.length_nil]); omega), KF.mk (.inr rfl) [(0, 0), (1, 1), (2, 2), (3, 3), (4, 4), (8001, 5), (8002, 6), (8003, 7), (8004, 8)] [.agg [.int .i64 r.id, .int .i64 r.of_, .int .i64 r.role, .int .i64 r.commit, .int .i64 r.hard.term, .int .i64 r.hard.vote, .ref 8001, .ref 8002, .ref 8003, .ref 8004]] (by kernel_rfl) (by kernel_rfl) (by kernel_rfl) (by kernel_rfl) (by kernel_rfl)⟩
theorem spec_l10DrawPair_spec  (code : List UInt8) (kind : Int) (hc : code.length ≤ 1048576) : ∃ rho_ : Raft × Msg, (SmallR rho_.1 ∧ rho_.2.entries.length ≤ 1000) ∧ FnSpec Tryz.prog 57 [.sl false 1 (code.map encU8), .int .i64 kind] [] (.tup [.agg [.int .i64 rho_.1.id, .int .i64 rho_.1.of_, .int .i64 rho_.1.role, .int .i64 rho_.1.commit, .int .i64 rho_.1.hard.term, .int .i64 rho_.1.hard.vote, .ref 0, .ref 1, .ref 2, .ref 3], .agg [.int .i64 rho_.2.kind, .int .i64 rho_.2.from_, .int .i64 rho_.2.term, .int .i64 rho_.2.at_, .int .i64 rho_.2.atTerm, .int .i64 rho_.2.commit, .bool rho_.2.yes, .int .i64 rho_.2.release, .int .i64 rho_.2.part, .str rho_.2.bytes, .int .i64 rho_.2.cmd.kind, .int .i64 rho_.2.cmd.release, .int .i64 rho_.2.cmd.node, .int .i64 rho_.2.cmd.size, .str rho_.2.cmd.digest, .sl true 6 (rho_.2.entries.map encEnt)]]) [.arr 45 6 (rho_.1.hard.log.map encEnt), .arr 3 1 (rho_.1.yes.map encI), .arr 3 1 (rho_.1.next.map encI), .arr 3 1 (rho_.1.match_.map encI)] := by
 refine dv (fun h_ => FnSpec.of 83 Tryz.func57 rfl Tryz.ntmps57 (by simp) (AW.weakK h_)) ?_
 refine dv (AW.q 2 ·) ?_
 refine dv (AW.seq ·) ?_
 refine dv (AW.weak (Sub.nils [⟨true, 104, some 6, 5001, 45, 6⟩, ⟨true, 104, some 7, 5002, 3, 1⟩, ⟨true, 104, some 8, 5003, 3, 1⟩, ⟨true, 104, some 9, 5004, 3, 1⟩, ⟨true, 105, some 15, 5005, 45, 6⟩] (by kernel_rfl)) ·) ?_
 refine dv (AW.g ·) ?_
 refine dv (At.a 1 ·) ?_
 refine Exists.elim (spec_l1New_spec  code (by omega)) fun r1_ hr1_ => ?_
 have qr1_ := hr1_.1
 try dsimp only at qr1_
 refine dv (At.c (hr1_.2) Tryz.call56 true [] [(1300, 0)] [] trivial ·) ?_
 refine dv (At.z 1 ·) ?_
 refine dv (AW.r ·) ?_
 refine dv (At.a 2 ·) ?_
 refine dv (At.c (spec_l1Long_spec  code 40 90 (by omega) (by omega)) Tryz.call142 true [] [] [] trivial ·) ?_
 refine Exists.elim (spec_l10DrawNet_spec  (⟨code, 0, r1_⟩ : Cur) (min (40 + (code.length : Int) / 4) 90) (by dsimp only; omega) (by omega)) fun r2_ hr2_ => ?_
 have qr2_ := hr2_.1
 try dsimp only at qr2_
 refine dv (At.c (hr2_.2) Tryz.call141 true [(1300, 0)] [(1400, 1), (1401, 2)] [] trivial ·) ?_
 obtain ⟨n, hn1, hn2, hns, hml1, hml⟩ := qr2_.2.2
 refine dv (At.z 5 ·) ?_
 refine dv (AW.r ·) ?_
 refine dv (At.a 3 ·) ?_
 refine dv (At.sL 25 encRaft r2_.2.2.1 ·) ?_
 refine Exists.elim (spec_l1Below_spec  (⟨code, r2_.1, r2_.2.1⟩ : Cur) (r2_.2.2.1.length : Int) (by dsimp only; omega)) fun r3_ hr3_ => ?_
 have qr3_ := hr3_.1
 try dsimp only at qr3_
 refine dv (At.c (hr3_.2) Tryz.call143 true [(1300, 0)] [] [] trivial ·) ?_
 refine dv (At.z 1 ·) ?_
 refine dv (AW.r ·) ?_
 refine dv (At.a 1 ·) ?_
 refine Exists.elim (spec_l8DrawRight_spec  (⟨code, r3_.1, r3_.2.1⟩ : Cur) (by dsimp only; omega)) fun r4_ hr4_ => ?_
 have qr4_ := hr4_.1
 try dsimp only at qr4_
 refine dv (At.c (hr4_.2) Tryz.call144 true [(1300, 0)] [(1560, 1)] [] trivial ·) ?_
 refine dv (At.z 2 ·) ?_
 refine dv (AW.seq ·) ?_
 refine dv (AW.weak (Sub.frz 1560 45 6 (r4_.2.2.entries.map encEnt) (by kernel_rfl) flatEnts) ·) ?_
 refine dv (AW.gq 1 ·) ?_
 refine dv (AW.seq ·) ?_
 refine dv (AW.q 1 ·) ?_
 refine dv (AW.block ·) ?_
 refine DW.loopQ (fun (x : Nat × Msg × Int × Bool × Int × Int) => match x with | (i, q, to, fd, p, s) => Go.Sy.mk [.un, .int .i64 kind, .un, .un, .ptr 104 0 0, .ptr 105 0 0, .ptr 1300 0 0, .ref 1400, .ref 1401, .int .i64 to, .ptr 110 0 0, .bool fd, .int .i64 (i : Int)] [(104, .box 29 [.int .i64 0, .int .i64 0, .int .i64 0, .int .i64 0, .int .i64 0, .int .i64 0, .ref 5001, .ref 5002, .ref 5003, .ref 5004]), (105, .box 33 [.int .i64 0, .int .i64 0, .int .i64 0, .int .i64 0, .int .i64 0, .int .i64 0, .bool false, .int .i64 0, .int .i64 0, .str (⟨#[]⟩ : ByteArray), .int .i64 0, .int .i64 0, .int .i64 0, .int .i64 0, .str (⟨#[]⟩ : ByteArray), .ref 5005]), (110, .box 33 [.int .i64 q.kind, .int .i64 q.from_, .int .i64 q.term, .int .i64 q.at_, .int .i64 q.atTerm, .int .i64 q.commit, .bool q.yes, .int .i64 q.release, .int .i64 q.part, .str q.bytes, .int .i64 q.cmd.kind, .int .i64 q.cmd.release, .int .i64 q.cmd.node, .int .i64 q.cmd.size, .str q.cmd.digest, .sl true 6 (q.entries.map encEnt)]), (1300, .box 141 [.sl false 1 (code.map encU8), .int .i64 p, .int .i64 s]), (1400, .arr 29 10 (r2_.2.2.1.map encRaft)), (1401, .arr 51 17 (r2_.2.2.2.map encOutT)), (5001, .arr 45 6 []), (5002, .arr 3 1 []), (5003, .arr 3 1 []), (5004, .arr 3 1 []), (5005, .arr 45 6 [])]) (fun (x : Nat × Msg × Int × Bool × Int × Int) => match x with | (i, q, to, fd, p, s) => i ≤ (r2_.2.2.2).length ∧ q.entries.length ≤ 1000 ∧ (0 ≤ to ∧ to < n) ∧ (0 ≤ p ∧ p ≤ code.length)) (fun (x : Nat × Msg × Int × Bool × Int × Int) => match x with | (i, q, to, fd, p, s) => (r2_.2.2.2).length - i) (0, r4_.2.2, r3_.2.2, false, r4_.1, r4_.2.1) (by dsimp only; omega) (Sub.o [(104, 104), (105, 105), (110, 110), (1300, 1300), (1400, 1400), (1401, 1401), (5001, 5001), (5002, 5002), (5003, 5003), (5004, 5004), (5005, 5005)] [false, true, false, false, true, true, true, true, true, true, true, true, true]) ?_
 rintro ⟨i, q, to, fd, p, s⟩ hq ih1
 refine dv (AW.seq ·) ?_
 refine dv (AW.r ·) ?_
 refine dv (At.a 3 ·) ?_
 refine dv (At.sL 31 encOutT r2_.2.2.2 ·) ?_
 refine dv (At.z 1 ·) ?_
 by_cases h1 : (i : Int) < (r2_.2.2.2.length : Int)
 · refine dv (AW.condT (decide ((i : Int) < (r2_.2.2.2.length : Int))) (by kernel_rfl) (decide_eq_true h1) ·) ?_
   refine dv (AW.skip ·) ?_
   refine dv (AW.seq ·) ?_
   refine dv (AW.block ·) ?_
   refine dv (AW.r ·) ?_
   refine dv (At.a 2 ·) ?_
   refine dv (At.iRf 38 37 (.tmp 35) (.tmp 36) 1401 (r2_.2.2.2.map encOutT) .i64 (i : Int) 51 17 (by omega) (by simp only [List.length_map]; omega) ·) ?_
   refine dv (At.a 2 ·) ?_
   refine Exists.elim (gE r2_.2.2.2 i (by omega)) fun e1 he1 => ?_
   have hxe1 := hml _ (List.mem_of_getElem? he1)
   refine dv (At.lEl 3 40 (.tmp 39) 1401 51 17 (r2_.2.2.2.map encOutT) i 1 false 1 (encOutT e1) (.int .i64 e1.msg.kind) (mapGet he1) ·) ?_
   refine dv (At.a 3 ·) ?_
   by_cases h2 : e1.msg.kind = kind
   · refine dv (At.sB 43 _ _ (sayET h2) ·) ?_
     refine dv (At.a 3 ·) ?_
     by_cases h3 : fd = true
     · refine dv (At.sB 46 (!fd) false (sayNF (sayB h3)) ·) ?_
       refine dv (At.a 1 ·) ?_
       refine Exists.elim (spec_l1Once_spec  (⟨code, p, s⟩ : Cur) 2 (by dsimp only; omega)) fun r5_ hr5_ => ?_
       have qr5_ := hr5_.1
       try dsimp only at qr5_
       refine dv (At.c (hr5_.2) Tryz.call58 true [(1300, 0)] [] [] trivial ·) ?_
       refine dv (At.z 2 ·) ?_
       by_cases h4 : r5_.2.2 = true
       · refine dv (AW.condT (r5_.2.2) (by kernel_rfl) h4 ·) ?_
         refine dv (AW.r ·) ?_
         refine dv (At.a 2 ·) ?_
         refine dv (At.iRf 38 53 (.tmp 51) (.tmp 52) 1401 (r2_.2.2.2.map encOutT) .i64 (i : Int) 51 17 (by omega) (by simp only [List.length_map]; omega) ·) ?_
         refine dv (At.a 1 ·) ?_
         refine dv (At.lEl 33 55 (.tmp 54) 1401 51 17 (r2_.2.2.2.map encOutT) i 1 true 16 (encOutT e1) (.agg [.int .i64 e1.msg.kind, .int .i64 e1.msg.from_, .int .i64 e1.msg.term, .int .i64 e1.msg.at_, .int .i64 e1.msg.atTerm, .int .i64 e1.msg.commit, .bool e1.msg.yes, .int .i64 e1.msg.release, .int .i64 e1.msg.part, .str e1.msg.bytes, .int .i64 e1.msg.cmd.kind, .int .i64 e1.msg.cmd.release, .int .i64 e1.msg.cmd.node, .int .i64 e1.msg.cmd.size, .str e1.msg.cmd.digest, .sl true 6 (e1.msg.entries.map encEnt)]) (mapGet he1) ·) ?_
         refine dv (At.z 1 ·) ?_
         refine dv (AW.r ·) ?_
         refine dv (At.a 2 ·) ?_
         refine dv (At.iRf 38 58 (.tmp 56) (.tmp 57) 1401 (r2_.2.2.2.map encOutT) .i64 (i : Int) 51 17 (by omega) (by simp only [List.length_map]; omega) ·) ?_
         refine dv (At.a 1 ·) ?_
         refine dv (At.lEl 3 60 (.tmp 59) 1401 51 17 (r2_.2.2.2.map encOutT) i 0 false 1 (encOutT e1) (.int .i64 e1.to) (mapGet he1) ·) ?_
         refine dv (At.z 1 ·) ?_
         refine dv (AW.gq 1 ·) ?_
         refine dv (AW.g ·) ?_
         refine dv (At.a 2 ·) ?_
         refine dv (At.sI 34 ((i : Int) + 1) (by omega) ·) ?_
         refine dv (At.z 1 ·) ?_
         exact dw (fun _ h_ => AWL.weak (Sub.o [(104, 104), (105, 105), (110, 110), (1300, 1300), (1400, 1400), (1401, 1401), (5001, 5001), (5002, 5002), (5003, 5003), (5004, 5004), (5005, 5005)] [false, true, false, false, true, true, true, true, true, true, true, true, true]) h_) (ih1 (i + 1, e1.msg, e1.to, true, r5_.1, r5_.2.1) (by dsimp only; omega) (by simp only; omega))
       replace h4 := Bool.eq_false_iff.2 h4
       refine dv (AW.condF (r5_.2.2) (by kernel_rfl) h4 ·) ?_
       refine dv (AW.skip ·) ?_
       refine dv (AW.g ·) ?_
       refine dv (At.a 2 ·) ?_
       refine dv (At.sI 34 ((i : Int) + 1) (by omega) ·) ?_
       refine dv (At.z 1 ·) ?_
       exact dw (fun _ h_ => AWL.weak (Sub.o [(104, 104), (105, 105), (110, 110), (1300, 1300), (1400, 1400), (1401, 1401), (5001, 5001), (5002, 5002), (5003, 5003), (5004, 5004), (5005, 5005)] [false, true, false, false, true, true, true, true, true, true, true, true, true]) h_) (ih1 (i + 1, q, to, fd, r5_.1, r5_.2.1) (by dsimp only; omega) (by simp only; omega))
     refine dv (At.sB 46 (!fd) true (sayNT (sayB (Bool.eq_false_iff.2 h3))) ·) ?_
     replace h3 := Bool.eq_false_iff.2 h3
     refine dv (At.z 4 ·) ?_
     refine dv (fun h_ => AW.cond true (by kernel_rfl) (fun _ => h_) (fun h => by cases h)) ?_
     refine dv (AW.r ·) ?_
     refine dv (At.a 2 ·) ?_
     refine dv (At.iRf 38 53 (.tmp 51) (.tmp 52) 1401 (r2_.2.2.2.map encOutT) .i64 (i : Int) 51 17 (by omega) (by simp only [List.length_map]; omega) ·) ?_
     refine dv (At.a 1 ·) ?_
     refine dv (At.lEl 33 55 (.tmp 54) 1401 51 17 (r2_.2.2.2.map encOutT) i 1 true 16 (encOutT e1) (.agg [.int .i64 e1.msg.kind, .int .i64 e1.msg.from_, .int .i64 e1.msg.term, .int .i64 e1.msg.at_, .int .i64 e1.msg.atTerm, .int .i64 e1.msg.commit, .bool e1.msg.yes, .int .i64 e1.msg.release, .int .i64 e1.msg.part, .str e1.msg.bytes, .int .i64 e1.msg.cmd.kind, .int .i64 e1.msg.cmd.release, .int .i64 e1.msg.cmd.node, .int .i64 e1.msg.cmd.size, .str e1.msg.cmd.digest, .sl true 6 (e1.msg.entries.map encEnt)]) (mapGet he1) ·) ?_
     refine dv (At.z 1 ·) ?_
     refine dv (AW.r ·) ?_
     refine dv (At.a 2 ·) ?_
     refine dv (At.iRf 38 58 (.tmp 56) (.tmp 57) 1401 (r2_.2.2.2.map encOutT) .i64 (i : Int) 51 17 (by omega) (by simp only [List.length_map]; omega) ·) ?_
     refine dv (At.a 1 ·) ?_
     refine dv (At.lEl 3 60 (.tmp 59) 1401 51 17 (r2_.2.2.2.map encOutT) i 0 false 1 (encOutT e1) (.int .i64 e1.to) (mapGet he1) ·) ?_
     refine dv (At.z 1 ·) ?_
     refine dv (AW.gq 1 ·) ?_
     refine dv (AW.g ·) ?_
     refine dv (At.a 2 ·) ?_
     refine dv (At.sI 34 ((i : Int) + 1) (by omega) ·) ?_
     refine dv (At.z 1 ·) ?_
     exact dw (fun _ h_ => AWL.weak (Sub.o [(104, 104), (105, 105), (110, 110), (1300, 1300), (1400, 1400), (1401, 1401), (5001, 5001), (5002, 5002), (5003, 5003), (5004, 5004), (5005, 5005)] [false, true, false, false, true, true, true, true, true, true, true, true, true]) h_) (ih1 (i + 1, e1.msg, e1.to, true, p, s) (by dsimp only; omega) (by simp only; omega))
   refine dv (At.sB 43 _ _ (sayEF h2) ·) ?_
   refine dv (At.z 7 ·) ?_
   refine dv (fun h_ => AW.cond false (by kernel_rfl) (fun h => by cases h) (fun _ => h_)) ?_
   refine dv (AW.skip ·) ?_
   refine dv (AW.g ·) ?_
   refine dv (At.a 2 ·) ?_
   refine dv (At.sI 34 ((i : Int) + 1) (by omega) ·) ?_
   refine dv (At.z 1 ·) ?_
   exact dw (fun _ h_ => AWL.weak (Sub.o [(104, 104), (105, 105), (110, 110), (1300, 1300), (1400, 1400), (1401, 1401), (5001, 5001), (5002, 5002), (5003, 5003), (5004, 5004), (5005, 5005)] [false, true, false, false, true, true, true, true, true, true, true, true, true]) h_) (ih1 (i + 1, q, to, fd, p, s) (by dsimp only; omega) (by simp only; omega))
 refine dv (AW.condF (decide ((i : Int) < (r2_.2.2.2.length : Int))) (by kernel_rfl) (decide_eq_false h1) ·) ?_
 refine dv (AW.exit ·) ?_
 refine dv (AW.seq ·) ?_
 refine Exists.elim (gE r2_.2.2.1 ((to).toNat) (by omega)) fun e2 he2 => ?_
 have hye2 := hns _ (List.mem_of_getElem? he2)
 have hnne2 := hye2.nums
 have hsme2 := hnne2.2.2.2.2.2
 have hoke2 := hye2.1
 refine dv (AW.weak (Sub.openL 1400 ((to).toNat) 29 10 (r2_.2.2.1.map encRaft) (encRaft e2) [(6, 5006), (7, 5007), (8, 5008), (9, 5009)] (by kernel_rfl) (mapGet he2) (by kernel_rfl)) ·) ?_
 refine dv (AW.g ·) ?_
 refine dv (At.a 2 ·) ?_
 refine dv (At.idxH 142 63 (.tmp 61) (.tmp 62) 1400 ((r2_.2.2.1.map encRaft).set ((to).toNat) (.agg [.int .i64 e2.id, .int .i64 e2.of_, .int .i64 e2.role, .int .i64 e2.commit, .int .i64 e2.hard.term, .int .i64 e2.hard.vote, .un, .un, .un, .un])) ((to).toNat) [(9, 5009), (8, 5008), (7, 5007), (6, 5006)] .i64 (to) 29 10 (by omega) (by rw [List.length_set, List.length_map]; omega) ·) ?_
 refine dv (At.ldH 29 64 (.tmp 63) 1400 29 10 ((r2_.2.2.1.map encRaft).set ((to).toNat) (.agg [.int .i64 e2.id, .int .i64 e2.of_, .int .i64 e2.role, .int .i64 e2.commit, .int .i64 e2.hard.term, .int .i64 e2.hard.vote, .un, .un, .un, .un])) ((to).toNat) [(9, 5009), (8, 5008), (7, 5007), (6, 5006)] 0 true 10 (.agg [.int .i64 e2.id, .int .i64 e2.of_, .int .i64 e2.role, .int .i64 e2.commit, .int .i64 e2.hard.term, .int .i64 e2.hard.vote, .un, .un, .un, .un]) (.agg [.int .i64 e2.id, .int .i64 e2.of_, .int .i64 e2.role, .int .i64 e2.commit, .int .i64 e2.hard.term, .int .i64 e2.hard.vote, .ref 5006, .ref 5007, .ref 5008, .ref 5009]) (setGet (mapGet he2)) ·) ?_
 refine dv (At.z 2 ·) ?_
 refine dv (AW.seq ·) ?_
 refine dv (AW.r ·) ?_
 refine dv (At.a 3 ·) ?_
 by_cases h5 : fd = true
 · refine dv (At.sB 67 (!fd) false (sayNF (sayB h5)) ·) ?_
   refine dv (At.a 1 ·) ?_
   refine Exists.elim (spec_l1Once_spec  (⟨code, p, s⟩ : Cur) 3 (by dsimp only; omega)) fun r5_ hr5_ => ?_
   have qr5_ := hr5_.1
   try dsimp only at qr5_
   refine dv (At.c (hr5_.2) Tryz.call58 true [(1300, 0)] [] [] trivial ·) ?_
   refine dv (At.z 1 ·) ?_
   by_cases h6 : r5_.2.2 = true
   · refine dv (AW.condT (r5_.2.2) (by kernel_rfl) h6 ·) ?_
     refine dv (AW.g ·) ?_
     refine dv (At.a 3 ·) ?_
     refine Exists.elim (spec_l10Made_spec  (⟨code, r5_.1, r5_.2.1⟩ : Cur) e2 kind (by dsimp only; omega) (by assumption)) fun r6_ hr6_ => ?_
     have qr6_ := hr6_.1
     try dsimp only at qr6_
     refine dv (At.c (hr6_.2) Tryz.call60 true [(1300, 0), (5006, 1), (5007, 2), (5008, 3), (5009, 4)] [(2480, 5)] [] trivial ·) ?_
     refine dv (At.z 1 ·) ?_
     refine dv (AW.seq ·) ?_
     refine dv (AW.seq ·) ?_
     refine dv (AW.weak (Sub.frz 2480 45 6 (r6_.2.2.entries.map encEnt) (by kernel_rfl) flatEnts) ·) ?_
     refine dv (AW.g ·) ?_
     refine dv (At.a 1 ·) ?_
     refine Exists.elim (spec_l1Once_spec  (⟨code, r6_.1, r6_.2.1⟩ : Cur) 25 (by dsimp only; omega)) fun r7_ hr7_ => ?_
     have qr7_ := hr7_.1
     try dsimp only at qr7_
     refine dv (At.c (hr7_.2) Tryz.call58 true [(1300, 0)] [] [] trivial ·) ?_
     refine dv (At.done rfl ·) ?_
     by_cases h7 : r7_.2.2 = true
     · refine dv (AW.condT (r7_.2.2) (by kernel_rfl) h7 ·) ?_
       refine dv (AW.g ·) ?_
       refine dv (At.a 1 ·) ?_
       refine Exists.elim (spec_l8DrawMsg_spec  (⟨code, r7_.1, r7_.2.1⟩ : Cur) (by dsimp only; omega)) fun r8_ hr8_ => ?_
       have qr8_ := hr8_.1
       try dsimp only at qr8_
       refine dv (At.c (hr8_.2) Tryz.call145 true [(1300, 0)] [(2560, 1)] [] trivial ·) ?_
       refine dv (At.z 1 ·) ?_
       refine dv (AW.seq ·) ?_
       refine dv (AW.weak (Sub.frz 2560 45 6 (r8_.2.2.entries.map encEnt) (by kernel_rfl) flatEnts) ·) ?_
       refine dv (AW.gD Tryz_mix ·) ?_
       refine dv (At.a 2 ·) ?_
       refine Exists.elim (spec_l10Spoil_spec  (⟨code, r8_.1, r8_.2.1⟩ : Cur) e2 (by dsimp only; omega) (by assumption)) fun r9_ hr9_ => ?_
       have qr9_ := hr9_.1
       try dsimp only at qr9_
       refine dv (At.c (hr9_.2) Tryz.call146 true [(1300, 0), (5006, 1), (5007, 2), (5008, 3), (5009, 4)] [(2620, 5), (2621, 6), (2622, 7), (2623, 8)] [] trivial ·) ?_
       have hsp := qr9_.2.2
       refine dv (At.zD 3 ·) ?_
       refine dv (AW.ret ·) ?_
       refine dv (⟨_, Sub.refl _ _, ·⟩) ?_
       exact ⟨(r9_.2.2, r8_.2.2), ⟨hsp, by (try dsimp only); omega⟩, KF.mk (.inr rfl) [(2620, 0), (2621, 1), (2622, 2), (2623, 3)] [.agg [.int .i64 r9_.2.2.id, .int .i64 r9_.2.2.of_, .int .i64 r9_.2.2.role, .int .i64 r9_.2.2.commit, .int .i64 r9_.2.2.hard.term, .int .i64 r9_.2.2.hard.vote, .ref 2620, .ref 2621, .ref 2622, .ref 2623], .agg [.int .i64 r8_.2.2.kind, .int .i64 r8_.2.2.from_, .int .i64 r8_.2.2.term, .int .i64 r8_.2.2.at_, .int .i64 r8_.2.2.atTerm, .int .i64 r8_.2.2.commit, .bool r8_.2.2.yes, .int .i64 r8_.2.2.release, .int .i64 r8_.2.2.part, .str r8_.2.2.bytes, .int .i64 r8_.2.2.cmd.kind, .int .i64 r8_.2.2.cmd.release, .int .i64 r8_.2.2.cmd.node, .int .i64 r8_.2.2.cmd.size, .str r8_.2.2.cmd.digest, .sl true 6 (r8_.2.2.entries.map encEnt)]] (by kernel_rfl) (by kernel_rfl) (by kernel_rfl) (by kernel_rfl) (by kernel_rfl)⟩
     replace h7 := Bool.eq_false_iff.2 h7
     refine dv (AW.condF (r7_.2.2) (by kernel_rfl) h7 ·) ?_
     refine dv (AW.skip ·) ?_
     refine dv (AW.seq ·) ?_
     refine dv (AW.gD Tryz_mix ·) ?_
     refine dv (At.a 2 ·) ?_
     refine Exists.elim (spec_l10Spoil_spec  (⟨code, r7_.1, r7_.2.1⟩ : Cur) e2 (by dsimp only; omega) (by assumption)) fun r8_ hr8_ => ?_
     have qr8_ := hr8_.1
     try dsimp only at qr8_
     refine dv (At.c (hr8_.2) Tryz.call146 true [(1300, 0), (5006, 1), (5007, 2), (5008, 3), (5009, 4)] [(2620, 5), (2621, 6), (2622, 7), (2623, 8)] [] trivial ·) ?_
     have hsp := qr8_.2.2
     refine dv (At.zD 3 ·) ?_
     refine dv (AW.ret ·) ?_
     refine dv (⟨_, Sub.refl _ _, ·⟩) ?_
     exact ⟨(r8_.2.2, r6_.2.2), ⟨hsp, by (try dsimp only); omega⟩, KF.mk (.inr rfl) [(2620, 0), (2621, 1), (2622, 2), (2623, 3)] [.agg [.int .i64 r8_.2.2.id, .int .i64 r8_.2.2.of_, .int .i64 r8_.2.2.role, .int .i64 r8_.2.2.commit, .int .i64 r8_.2.2.hard.term, .int .i64 r8_.2.2.hard.vote, .ref 2620, .ref 2621, .ref 2622, .ref 2623], .agg [.int .i64 r6_.2.2.kind, .int .i64 r6_.2.2.from_, .int .i64 r6_.2.2.term, .int .i64 r6_.2.2.at_, .int .i64 r6_.2.2.atTerm, .int .i64 r6_.2.2.commit, .bool r6_.2.2.yes, .int .i64 r6_.2.2.release, .int .i64 r6_.2.2.part, .str r6_.2.2.bytes, .int .i64 r6_.2.2.cmd.kind, .int .i64 r6_.2.2.cmd.release, .int .i64 r6_.2.2.cmd.node, .int .i64 r6_.2.2.cmd.size, .str r6_.2.2.cmd.digest, .sl true 6 (r6_.2.2.entries.map encEnt)]] (by kernel_rfl) (by kernel_rfl) (by kernel_rfl) (by kernel_rfl) (by kernel_rfl)⟩
   replace h6 := Bool.eq_false_iff.2 h6
   refine dv (AW.condF (r5_.2.2) (by kernel_rfl) h6 ·) ?_
   refine dv (AW.skip ·) ?_
   refine dv (AW.seq ·) ?_
   refine dv (AW.r ·) ?_
   refine dv (At.a 1 ·) ?_
   refine Exists.elim (spec_l1Once_spec  (⟨code, r5_.1, r5_.2.1⟩ : Cur) 25 (by dsimp only; omega)) fun r6_ hr6_ => ?_
   have qr6_ := hr6_.1
   try dsimp only at qr6_
   refine dv (At.c (hr6_.2) Tryz.call58 true [(1300, 0)] [] [] trivial ·) ?_
   refine dv (At.done rfl ·) ?_
   by_cases h8 : r6_.2.2 = true
   · refine dv (AW.condT (r6_.2.2) (by kernel_rfl) h8 ·) ?_
     refine dv (AW.g ·) ?_
     refine dv (At.a 1 ·) ?_
     refine Exists.elim (spec_l8DrawMsg_spec  (⟨code, r6_.1, r6_.2.1⟩ : Cur) (by dsimp only; omega)) fun r7_ hr7_ => ?_
     have qr7_ := hr7_.1
     try dsimp only at qr7_
     refine dv (At.c (hr7_.2) Tryz.call145 true [(1300, 0)] [(2560, 1)] [] trivial ·) ?_
     refine dv (At.z 1 ·) ?_
     refine dv (AW.seq ·) ?_
     refine dv (AW.weak (Sub.frz 2560 45 6 (r7_.2.2.entries.map encEnt) (by kernel_rfl) flatEnts) ·) ?_
     refine dv (AW.gD Tryz_mix ·) ?_
     refine dv (At.a 2 ·) ?_
     refine Exists.elim (spec_l10Spoil_spec  (⟨code, r7_.1, r7_.2.1⟩ : Cur) e2 (by dsimp only; omega) (by assumption)) fun r8_ hr8_ => ?_
     have qr8_ := hr8_.1
     try dsimp only at qr8_
     refine dv (At.c (hr8_.2) Tryz.call146 true [(1300, 0), (5006, 1), (5007, 2), (5008, 3), (5009, 4)] [(2620, 5), (2621, 6), (2622, 7), (2623, 8)] [] trivial ·) ?_
     have hsp := qr8_.2.2
     refine dv (At.zD 3 ·) ?_
     refine dv (AW.ret ·) ?_
     refine dv (⟨_, Sub.refl _ _, ·⟩) ?_
     exact ⟨(r8_.2.2, r7_.2.2), ⟨hsp, by (try dsimp only); omega⟩, KF.mk (.inr rfl) [(2620, 0), (2621, 1), (2622, 2), (2623, 3)] [.agg [.int .i64 r8_.2.2.id, .int .i64 r8_.2.2.of_, .int .i64 r8_.2.2.role, .int .i64 r8_.2.2.commit, .int .i64 r8_.2.2.hard.term, .int .i64 r8_.2.2.hard.vote, .ref 2620, .ref 2621, .ref 2622, .ref 2623], .agg [.int .i64 r7_.2.2.kind, .int .i64 r7_.2.2.from_, .int .i64 r7_.2.2.term, .int .i64 r7_.2.2.at_, .int .i64 r7_.2.2.atTerm, .int .i64 r7_.2.2.commit, .bool r7_.2.2.yes, .int .i64 r7_.2.2.release, .int .i64 r7_.2.2.part, .str r7_.2.2.bytes, .int .i64 r7_.2.2.cmd.kind, .int .i64 r7_.2.2.cmd.release, .int .i64 r7_.2.2.cmd.node, .int .i64 r7_.2.2.cmd.size, .str r7_.2.2.cmd.digest, .sl true 6 (r7_.2.2.entries.map encEnt)]] (by kernel_rfl) (by kernel_rfl) (by kernel_rfl) (by kernel_rfl) (by kernel_rfl)⟩
   replace h8 := Bool.eq_false_iff.2 h8
   refine dv (AW.condF (r6_.2.2) (by kernel_rfl) h8 ·) ?_
   refine dv (AW.skip ·) ?_
   refine dv (AW.seq ·) ?_
   refine dv (AW.gD Tryz_mix ·) ?_
   refine dv (At.a 2 ·) ?_
   refine Exists.elim (spec_l10Spoil_spec  (⟨code, r6_.1, r6_.2.1⟩ : Cur) e2 (by dsimp only; omega) (by assumption)) fun r7_ hr7_ => ?_
   have qr7_ := hr7_.1
   try dsimp only at qr7_
   refine dv (At.c (hr7_.2) Tryz.call146 true [(1300, 0), (5006, 1), (5007, 2), (5008, 3), (5009, 4)] [(2620, 5), (2621, 6), (2622, 7), (2623, 8)] [] trivial ·) ?_
   have hsp := qr7_.2.2
   refine dv (At.zD 3 ·) ?_
   refine dv (AW.ret ·) ?_
   refine dv (⟨_, Sub.refl _ _, ·⟩) ?_
   exact ⟨(r7_.2.2, q), ⟨hsp, by (try dsimp only); omega⟩, KF.mk (.inr rfl) [(2620, 0), (2621, 1), (2622, 2), (2623, 3)] [.agg [.int .i64 r7_.2.2.id, .int .i64 r7_.2.2.of_, .int .i64 r7_.2.2.role, .int .i64 r7_.2.2.commit, .int .i64 r7_.2.2.hard.term, .int .i64 r7_.2.2.hard.vote, .ref 2620, .ref 2621, .ref 2622, .ref 2623], .agg [.int .i64 q.kind, .int .i64 q.from_, .int .i64 q.term, .int .i64 q.at_, .int .i64 q.atTerm, .int .i64 q.commit, .bool q.yes, .int .i64 q.release, .int .i64 q.part, .str q.bytes, .int .i64 q.cmd.kind, .int .i64 q.cmd.release, .int .i64 q.cmd.node, .int .i64 q.cmd.size, .str q.cmd.digest, .sl true 6 (q.entries.map encEnt)]] (by kernel_rfl) (by kernel_rfl) (by kernel_rfl) (by kernel_rfl) (by kernel_rfl)⟩
 refine dv (At.sB 67 (!fd) true (sayNT (sayB (Bool.eq_false_iff.2 h5))) ·) ?_
 replace h5 := Bool.eq_false_iff.2 h5
 refine dv (At.z 3 ·) ?_
 refine dv (fun h_ => AW.cond true (by kernel_rfl) (fun _ => h_) (fun h => by cases h)) ?_
 refine dv (AW.g ·) ?_
 refine dv (At.a 3 ·) ?_
 refine Exists.elim (spec_l10Made_spec  (⟨code, p, s⟩ : Cur) e2 kind (by dsimp only; omega) (by assumption)) fun r5_ hr5_ => ?_
 have qr5_ := hr5_.1
 try dsimp only at qr5_
 refine dv (At.c (hr5_.2) Tryz.call60 true [(1300, 0), (5006, 1), (5007, 2), (5008, 3), (5009, 4)] [(2480, 5)] [] trivial ·) ?_
 refine dv (At.z 1 ·) ?_
 refine dv (AW.seq ·) ?_
 refine dv (AW.seq ·) ?_
 refine dv (AW.weak (Sub.frz 2480 45 6 (r5_.2.2.entries.map encEnt) (by kernel_rfl) flatEnts) ·) ?_
 refine dv (AW.g ·) ?_
 refine dv (At.a 1 ·) ?_
 refine Exists.elim (spec_l1Once_spec  (⟨code, r5_.1, r5_.2.1⟩ : Cur) 25 (by dsimp only; omega)) fun r6_ hr6_ => ?_
 have qr6_ := hr6_.1
 try dsimp only at qr6_
 refine dv (At.c (hr6_.2) Tryz.call58 true [(1300, 0)] [] [] trivial ·) ?_
 refine dv (At.done rfl ·) ?_
 by_cases h9 : r6_.2.2 = true
 · refine dv (AW.condT (r6_.2.2) (by kernel_rfl) h9 ·) ?_
   refine dv (AW.g ·) ?_
   refine dv (At.a 1 ·) ?_
   refine Exists.elim (spec_l8DrawMsg_spec  (⟨code, r6_.1, r6_.2.1⟩ : Cur) (by dsimp only; omega)) fun r7_ hr7_ => ?_
   have qr7_ := hr7_.1
   try dsimp only at qr7_
   refine dv (At.c (hr7_.2) Tryz.call145 true [(1300, 0)] [(2560, 1)] [] trivial ·) ?_
   refine dv (At.z 1 ·) ?_
   refine dv (AW.seq ·) ?_
   refine dv (AW.weak (Sub.frz 2560 45 6 (r7_.2.2.entries.map encEnt) (by kernel_rfl) flatEnts) ·) ?_
   refine dv (AW.gD Tryz_mix ·) ?_
   refine dv (At.a 2 ·) ?_
   refine Exists.elim (spec_l10Spoil_spec  (⟨code, r7_.1, r7_.2.1⟩ : Cur) e2 (by dsimp only; omega) (by assumption)) fun r8_ hr8_ => ?_
   have qr8_ := hr8_.1
   try dsimp only at qr8_
   refine dv (At.c (hr8_.2) Tryz.call146 true [(1300, 0), (5006, 1), (5007, 2), (5008, 3), (5009, 4)] [(2620, 5), (2621, 6), (2622, 7), (2623, 8)] [] trivial ·) ?_
   have hsp := qr8_.2.2
   refine dv (At.zD 3 ·) ?_
   refine dv (AW.ret ·) ?_
   refine dv (⟨_, Sub.refl _ _, ·⟩) ?_
   exact ⟨(r8_.2.2, r7_.2.2), ⟨hsp, by (try dsimp only); omega⟩, KF.mk (.inr rfl) [(2620, 0), (2621, 1), (2622, 2), (2623, 3)] [.agg [.int .i64 r8_.2.2.id, .int .i64 r8_.2.2.of_, .int .i64 r8_.2.2.role, .int .i64 r8_.2.2.commit, .int .i64 r8_.2.2.hard.term, .int .i64 r8_.2.2.hard.vote, .ref 2620, .ref 2621, .ref 2622, .ref 2623], .agg [.int .i64 r7_.2.2.kind, .int .i64 r7_.2.2.from_, .int .i64 r7_.2.2.term, .int .i64 r7_.2.2.at_, .int .i64 r7_.2.2.atTerm, .int .i64 r7_.2.2.commit, .bool r7_.2.2.yes, .int .i64 r7_.2.2.release, .int .i64 r7_.2.2.part, .str r7_.2.2.bytes, .int .i64 r7_.2.2.cmd.kind, .int .i64 r7_.2.2.cmd.release, .int .i64 r7_.2.2.cmd.node, .int .i64 r7_.2.2.cmd.size, .str r7_.2.2.cmd.digest, .sl true 6 (r7_.2.2.entries.map encEnt)]] (by kernel_rfl) (by kernel_rfl) (by kernel_rfl) (by kernel_rfl) (by kernel_rfl)⟩
 replace h9 := Bool.eq_false_iff.2 h9
 refine dv (AW.condF (r6_.2.2) (by kernel_rfl) h9 ·) ?_
 refine dv (AW.skip ·) ?_
 refine dv (AW.seq ·) ?_
 refine dv (AW.gD Tryz_mix ·) ?_
 refine dv (At.a 2 ·) ?_
 refine Exists.elim (spec_l10Spoil_spec  (⟨code, r6_.1, r6_.2.1⟩ : Cur) e2 (by dsimp only; omega) (by assumption)) fun r7_ hr7_ => ?_
 have qr7_ := hr7_.1
 try dsimp only at qr7_
 refine dv (At.c (hr7_.2) Tryz.call146 true [(1300, 0), (5006, 1), (5007, 2), (5008, 3), (5009, 4)] [(2620, 5), (2621, 6), (2622, 7), (2623, 8)] [] trivial ·) ?_
 have hsp := qr7_.2.2
 refine dv (At.zD 3 ·) ?_
 refine dv (AW.ret ·) ?_
 refine dv (⟨_, Sub.refl _ _, ·⟩) ?_
 exact ⟨(r7_.2.2, r5_.2.2), ⟨hsp, by (try dsimp only); omega⟩, KF.mk (.inr rfl) [(2620, 0), (2621, 1), (2622, 2), (2623, 3)] [.agg [.int .i64 r7_.2.2.id, .int .i64 r7_.2.2.of_, .int .i64 r7_.2.2.role, .int .i64 r7_.2.2.commit, .int .i64 r7_.2.2.hard.term, .int .i64 r7_.2.2.hard.vote, .ref 2620, .ref 2621, .ref 2622, .ref 2623], .agg [.int .i64 r5_.2.2.kind, .int .i64 r5_.2.2.from_, .int .i64 r5_.2.2.term, .int .i64 r5_.2.2.at_, .int .i64 r5_.2.2.atTerm, .int .i64 r5_.2.2.commit, .bool r5_.2.2.yes, .int .i64 r5_.2.2.release, .int .i64 r5_.2.2.part, .str r5_.2.2.bytes, .int .i64 r5_.2.2.cmd.kind, .int .i64 r5_.2.2.cmd.release, .int .i64 r5_.2.2.cmd.node, .int .i64 r5_.2.2.cmd.size, .str r5_.2.2.cmd.digest, .sl true 6 (r5_.2.2.entries.map encEnt)]] (by kernel_rfl) (by kernel_rfl) (by kernel_rfl) (by kernel_rfl) (by kernel_rfl)⟩
theorem spec_l10DrawOne_spec  (code : List UInt8) (hc : code.length ≤ 1048576) : ∃ rho_ : Raft, (SmallR rho_) ∧ FnSpec Tryz.prog 95 [.sl false 1 (code.map encU8)] [] (.agg [.int .i64 rho_.id, .int .i64 rho_.of_, .int .i64 rho_.role, .int .i64 rho_.commit, .int .i64 rho_.hard.term, .int .i64 rho_.hard.vote, .ref 0, .ref 1, .ref 2, .ref 3]) [.arr 45 6 (rho_.hard.log.map encEnt), .arr 3 1 (rho_.yes.map encI), .arr 3 1 (rho_.next.map encI), .arr 3 1 (rho_.match_.map encI)] := by
 refine dv (fun h_ => FnSpec.of 11 Tryz.func95 rfl Tryz.ntmps95 (by simp) (AW.weakK h_)) ?_
 refine dv (AW.q 1 ·) ?_
 refine dv (AW.seq ·) ?_
 refine dv (AW.weak (Sub.nils [⟨true, 102, some 6, 5001, 45, 6⟩, ⟨true, 102, some 7, 5002, 3, 1⟩, ⟨true, 102, some 8, 5003, 3, 1⟩, ⟨true, 102, some 9, 5004, 3, 1⟩] (by kernel_rfl)) ·) ?_
 refine dv (AW.g ·) ?_
 refine dv (At.a 1 ·) ?_
 refine Exists.elim (spec_l10DrawPair_spec  code 1 hc) fun r1_ hr1_ => ?_
 have qr1_ := hr1_.1
 try dsimp only at qr1_
 refine dv (At.c (hr1_.2) Tryz.call57 true [] [(1140, 0), (1141, 1), (1142, 2), (1143, 3)] [] trivial ·) ?_
 refine dv (At.z 7 ·) ?_
 refine dv (AW.q 2 ·) ?_
 refine dv (AW.ret ·) ?_
 refine dv (⟨_, Sub.refl _ _, ·⟩) ?_
 exact ⟨(r1_.1), (by exact qr1_.1), KF.mk (.inr rfl) [(1140, 0), (1141, 1), (1142, 2), (1143, 3)] [.agg [.int .i64 r1_.1.id, .int .i64 r1_.1.of_, .int .i64 r1_.1.role, .int .i64 r1_.1.commit, .int .i64 r1_.1.hard.term, .int .i64 r1_.1.hard.vote, .ref 1140, .ref 1141, .ref 1142, .ref 1143]] (by kernel_rfl) (by kernel_rfl) (by kernel_rfl) (by kernel_rfl) (by kernel_rfl)⟩
theorem spec_DrawRaftStand_spec  (code : List UInt8) (hc : code.length ≤ 1048576) : ∃ rho_ : Raft, (SmallR rho_) ∧ FnSpec Tryz.prog 28 [.sl false 1 (code.map encU8)] [] (.agg [.int .i64 rho_.id, .int .i64 rho_.of_, .int .i64 rho_.role, .int .i64 rho_.commit, .int .i64 rho_.hard.term, .int .i64 rho_.hard.vote, .ref 0, .ref 1, .ref 2, .ref 3]) [.arr 45 6 (rho_.hard.log.map encEnt), .arr 3 1 (rho_.yes.map encI), .arr 3 1 (rho_.next.map encI), .arr 3 1 (rho_.match_.map encI)] := by
 refine dv (fun h_ => FnSpec.of 5 Tryz.func28 rfl Tryz.ntmps28 (by simp) (AW.weakK h_)) ?_
 refine dv (AW.q 1 ·) ?_
 refine dv (AW.seq ·) ?_
 refine dv (AW.weak (Sub.nils [⟨true, 102, some 6, 5001, 45, 6⟩, ⟨true, 102, some 7, 5002, 3, 1⟩, ⟨true, 102, some 8, 5003, 3, 1⟩, ⟨true, 102, some 9, 5004, 3, 1⟩] (by kernel_rfl)) ·) ?_
 refine dv (AW.g ·) ?_
 refine dv (At.a 1 ·) ?_
 refine Exists.elim (spec_l10DrawOne_spec  code hc) fun r1_ hr1_ => ?_
 have qr1_ := hr1_.1
 try dsimp only at qr1_
 refine dv (At.c (hr1_.2) Tryz.call95 true [] [(1080, 0), (1081, 1), (1082, 2), (1083, 3)] [] trivial ·) ?_
 refine dv (At.z 1 ·) ?_
 refine dv (AW.ret ·) ?_
 refine dv (⟨_, Sub.refl _ _, ·⟩) ?_
 exact ⟨(r1_), (by exact qr1_), KF.mk (.inr rfl) [(1080, 0), (1081, 1), (1082, 2), (1083, 3)] [.agg [.int .i64 r1_.id, .int .i64 r1_.of_, .int .i64 r1_.role, .int .i64 r1_.commit, .int .i64 r1_.hard.term, .int .i64 r1_.hard.vote, .ref 1080, .ref 1081, .ref 1082, .ref 1083]] (by kernel_rfl) (by kernel_rfl) (by kernel_rfl) (by kernel_rfl) (by kernel_rfl)⟩
theorem impl_copyLog_spec  (l : List Ent) (hl : l.length ≤ 1048576) : FnSpec Tryz.prog 162 [.sl false 6 (l.map encEnt)] [] (.ref 0) [.arr 45 6 (l.map encEnt)] := by
 refine FnSpec.of 6 Tryz.func162 rfl Tryz.ntmps162 (by simp) (AW.weakK ?_)
 refine AW.q 1 ?_
 refine AW.r ?_
 refine At.lit0 (t := 24) (d := 3) (e := 45) (es := 6) (bytes := 56) 103 (by kernel_rfl) (by kernel_rfl) (by kernel_rfl) (by kernel_rfl) ?_
 refine At.a 1 ?_
 refine At.append (t := 24) (d := 5) (e := 45) (es := 6) (bytes := 56) (s := .tmp 3) (x := .tmp 4) (S := .ref 103) (T := .sl false 6 (l.map encEnt)) (xs := []) (ys := (l.map encEnt)) 105 [103] [] (l.map encEnt) (by kernel_rfl) (by kernel_rfl) (by kernel_rfl) (by kernel_rfl) ⟨by kernel_rfl, rfl⟩ ⟨rfl, rfl, (allP_encEnt _), rfl⟩ (by kernel_rfl) (by kernel_rfl) (by simp) (by simp only [List.length_map, List.length_append, List.length_take, List.length_drop, List.length_replicate, List.length_set, List.length_cons, List.length_nil]; omega) (by simp only [List.length_map, List.length_append, List.length_take, List.length_drop, List.length_replicate, List.length_set, List.length_cons, List.length_nil]; omega) ?_
 refine At.z 1 ?_
 exact AW.ret (rf (KF.n [(105, 0)]))
theorem impl_copyHard_spec  (h : Hard) (hl : h.log.length ≤ 1048576) : FnSpec Tryz.prog 175 [.agg [.int .i64 h.term, .int .i64 h.vote, .sl false 6 (h.log.map encEnt)]] [] (.agg [.int .i64 h.term, .int .i64 h.vote, .ref 0]) [.arr 45 6 (h.log.map encEnt)] := by
 refine FnSpec.of 8 Tryz.func175 rfl Tryz.ntmps175 (by simp) (AW.weakK ?_)
 refine AW.q 2 ?_
 refine AW.seq ?_
 refine AW.weak (Sub.nils [⟨true, 102, some 2, 5001, 45, 6⟩] (by kernel_rfl)) ?_
 refine AW.g ?_
 refine At.a 2 ?_
 refine At.c (impl_copyLog_spec  h.log (by omega)) Tryz.call162 true [] [(1100, 0)] [] trivial ?_
 refine At.z 2 ?_
 refine AW.q 2 ?_
 exact AW.ret (rf (KF.n [(1100, 0)]))
theorem impl_copyInts_spec  (l : List Int) (hl : l.length ≤ 1048576) : FnSpec Tryz.prog 176 [.sl false 1 (l.map encI)] [] (.ref 0) [.arr 3 1 (l.map encI)] := by
 refine FnSpec.of 6 Tryz.func176 rfl Tryz.ntmps176 (by simp) (AW.weakK ?_)
 refine AW.q 1 ?_
 refine AW.r ?_
 refine At.lit0 (t := 27) (d := 3) (e := 3) (es := 1) (bytes := 8) 103 (by kernel_rfl) (by kernel_rfl) (by kernel_rfl) (by kernel_rfl) ?_
 refine At.a 1 ?_
 refine At.append (t := 27) (d := 5) (e := 3) (es := 1) (bytes := 8) (s := .tmp 3) (x := .tmp 4) (S := .ref 103) (T := .sl false 1 (l.map encI)) (xs := []) (ys := (l.map encI)) 105 [103] [] (l.map encI) (by kernel_rfl) (by kernel_rfl) (by kernel_rfl) (by kernel_rfl) ⟨by kernel_rfl, rfl⟩ ⟨rfl, rfl, (allP_encI _), rfl⟩ (by kernel_rfl) (by kernel_rfl) (by simp) (by simp only [List.length_map, List.length_append, List.length_take, List.length_drop, List.length_replicate, List.length_set, List.length_cons, List.length_nil]; omega) (by simp only [List.length_map, List.length_append, List.length_take, List.length_drop, List.length_replicate, List.length_set, List.length_cons, List.length_nil]; omega) ?_
 refine At.z 1 ?_
 exact AW.ret (rf (KF.n [(105, 0)]))
theorem impl_copyRaft_spec  (r : Raft) (hz : SmallR r) : FnSpec Tryz.prog 157 [(raftA r)] [] (.agg [.int .i64 r.id, .int .i64 r.of_, .int .i64 r.role, .int .i64 r.commit, .int .i64 r.hard.term, .int .i64 r.hard.vote, .ref 0, .ref 1, .ref 2, .ref 3]) [.arr 45 6 (r.hard.log.map encEnt), .arr 3 1 (r.yes.map encI), .arr 3 1 (r.next.map encI), .arr 3 1 (r.match_.map encI)] := by
 obtain ⟨z1, z2, z3, z4⟩ := id hz
 refine FnSpec.of 20 Tryz.func157 rfl Tryz.ntmps157 (by simp) (AW.weakK ?_)
 refine AW.q 2 ?_
 refine AW.seq ?_
 refine AW.weak (Sub.nils [⟨true, 102, some 6, 5001, 45, 6⟩, ⟨true, 102, some 7, 5002, 3, 1⟩, ⟨true, 102, some 8, 5003, 3, 1⟩, ⟨true, 102, some 9, 5004, 3, 1⟩] (by kernel_rfl)) ?_
 refine AW.g ?_
 refine At.a 2 ?_
 refine At.c (impl_copyHard_spec  r.hard (by omega)) Tryz.call175 true [] [(1100, 0)] [] trivial ?_
 refine At.z 2 ?_
 refine AW.seq ?_
 refine AW.gD Tryz_mix ?_
 refine At.a 2 ?_
 refine At.c (impl_copyInts_spec  r.yes (by omega)) Tryz.call176 true [] [(1180, 0)] [] trivial ?_
 refine At.a 2 ?_
 refine At.c (impl_copyInts_spec  r.next (by omega)) Tryz.call176 true [] [(1240, 0)] [] trivial ?_
 refine At.a 2 ?_
 refine At.c (impl_copyInts_spec  r.match_ (by omega)) Tryz.call176 true [] [(1300, 0)] [] trivial ?_
 refine At.zD 6 ?_
 refine AW.q 2 ?_
 exact AW.ret (rf (KF.n [(1100, 0), (1180, 1), (1240, 2), (1300, 3)]))
theorem impl_stepOf_spec  (r : Raft) (hz : SmallR r) : FnSpec Tryz.prog 80 [(raftA r)] [] (.ptr 0 0 0) [.box 102 [.int .i64 r.id, .int .i64 r.of_, .int .i64 r.role, .int .i64 r.commit, .int .i64 r.hard.term, .int .i64 r.hard.vote, .ref 1, .ref 2, .ref 3, .ref 4, .int .i64 r.id, .int .i64 r.of_, .int .i64 r.role, .int .i64 r.commit, .int .i64 r.hard.term, .int .i64 r.hard.vote, .sl false 6 (r.hard.log.map encEnt), .sl false 1 (r.yes.map encI), .sl false 1 (r.next.map encI), .sl false 1 (r.match_.map encI), .ref 5, .ref 6], .arr 45 6 (r.hard.log.map encEnt), .arr 3 1 (r.yes.map encI), .arr 3 1 (r.next.map encI), .arr 3 1 (r.match_.map encI), .arr 47 10 [], .arr 51 17 []] := by
 obtain ⟨z1, z2, z3, z4⟩ := id hz
 refine FnSpec.of 8 Tryz.func80 rfl Tryz.ntmps80 (by simp) (AW.weakK ?_)
 refine AW.q 2 ?_
 refine AW.seq ?_
 refine AW.gD Tryz_mix ?_
 refine At.a 1 ?_
 refine At.c (impl_copyRaft_spec  r (by omega)) Tryz.call157 true [] [(1080, 0), (1081, 1), (1082, 2), (1083, 3)] [] trivial ?_
 refine At.zD 4 ?_
 refine AW.ret ?_
 refine ⟨_, Sub.nils [⟨true, 107, some 20, 5001, 47, 10⟩, ⟨true, 107, some 21, 5002, 51, 17⟩] (by kernel_rfl), ?_⟩
 exact KF.n [(107, 0), (1080, 1), (1081, 2), (1082, 3), (1083, 4), (5001, 5), (5002, 6)]
theorem impl_isOf_spec  (of : Int) : FnSpec Tryz.prog 68 [.int .i64 of] [] (.bool (ofOk of)) [] := by
 refine FnSpec.of 13 Tryz.func68 rfl Tryz.ntmps68 (by simp) (AW.weakK ?_)
 refine AW.q 1 ?_
 refine AW.r ?_
 refine At.a 3 ?_
 by_cases h1 : of = 1
 · refine At.sB 5 _ _ (sayET h1) ?_
   refine At.z 8 ?_
   refine AW.ret ?_
   refine ⟨_, Sub.refl _ _, ?_⟩
   refine KF.conv (fun w => .bool w) (fun w => []) (show (true) = (ofOk of) from by simp_all [ofOk]) ?_
   exact KF.n []
 refine At.sB 5 _ _ (sayEF h1) ?_
 refine At.a 4 ?_
 by_cases h2 : of = 3
 · refine At.sB 9 _ _ (sayET h2) ?_
   refine At.z 4 ?_
   refine AW.ret ?_
   refine ⟨_, Sub.refl _ _, ?_⟩
   refine KF.conv (fun w => .bool w) (fun w => []) (show (true) = (ofOk of) from by simp_all [ofOk]) ?_
   exact KF.n []
 refine At.sB 9 _ _ (sayEF h2) ?_
 refine At.z 4 ?_
 refine AW.ret ?_
 refine ⟨_, Sub.refl _ _, ?_⟩
 refine KF.conv (fun w => .bool w) (fun w => []) (show (of == 5) = (ofOk of) from by simp_all [ofOk]) ?_
 exact KF.n []
theorem impl_within_spec  (n : Int) (low : Int) (high : Int) : FnSpec Tryz.prog 69 [.int .i64 n, .int .i64 low, .int .i64 high] [] (.bool (inR n low high)) [] := by
 refine FnSpec.of 15 Tryz.func69 rfl Tryz.ntmps69 (by simp) (AW.weakK ?_)
 refine AW.q 1 ?_
 refine AW.r ?_
 refine At.a 4 ?_
 by_cases h1 : n ≥ low
 · refine At.sB 10 _ _ (sayT h1) ?_
   refine At.z 5 ?_
   refine AW.ret ?_
   refine ⟨_, Sub.refl _ _, ?_⟩
   refine KF.conv (fun w => .bool w) (fun w => []) (show (decide (n ≤ high)) = (inR n low high) from by simp [inR, *]) ?_
   exact KF.n []
 refine At.sB 10 _ _ (sayF h1) ?_
 refine At.z 5 ?_
 refine AW.ret ?_
 refine ⟨_, Sub.refl _ _, ?_⟩
 refine KF.conv (fun w => .bool w) (fun w => []) (show (false) = (inR n low high) from by simp [inR, *]) ?_
 exact KF.n []
theorem impl_isRelease_spec  (n : Int) : FnSpec Tryz.prog 153 [.int .i64 n] [] (.bool (inR n 1 1000)) [] := by
 refine FnSpec.of 5 Tryz.func153 rfl Tryz.ntmps153 (by simp) (AW.weakK ?_)
 refine AW.q 1 ?_
 refine AW.r ?_
 refine At.a 1 ?_
 refine At.c (impl_within_spec  n 1 1000 ) Tryz.call69 true [] [] [] trivial ?_
 refine At.z 1 ?_
 exact AW.ret (rf (KF.n []))
theorem impl_isSize_spec  (n : Int) : FnSpec Tryz.prog 154 [.int .i64 n] [] (.bool (inR n 0 1000)) [] := by
 refine FnSpec.of 5 Tryz.func154 rfl Tryz.ntmps154 (by simp) (AW.weakK ?_)
 refine AW.q 1 ?_
 refine AW.r ?_
 refine At.a 1 ?_
 refine At.c (impl_within_spec  n 0 1000 ) Tryz.call69 true [] [] [] trivial ?_
 refine At.z 1 ?_
 exact AW.ret (rf (KF.n []))
theorem impl_isNode_spec  (n : Int) : FnSpec Tryz.prog 152 [.int .i64 n] [] (.bool (inR n 0 4)) [] := by
 refine FnSpec.of 5 Tryz.func152 rfl Tryz.ntmps152 (by simp) (AW.weakK ?_)
 refine AW.q 1 ?_
 refine AW.r ?_
 refine At.a 1 ?_
 refine At.c (impl_within_spec  n 0 4 ) Tryz.call69 true [] [] [] trivial ?_
 refine At.z 1 ?_
 exact AW.ret (rf (KF.n []))
def K_impl_CmdOk (rs : List ResultVar) (c : Cmd) (w0_ : Bool) : Exit → Sg → Prop := KF Tryz.prog 0 rs (.bool w0_) []
theorem impl_CmdOk_spec  (c : Cmd) : FnSpec Tryz.prog 101 [.agg [.int .i64 c.kind, .int .i64 c.release, .int .i64 c.node, .int .i64 c.size, .str c.digest]] [] (.bool (cmdOk c)) [] := by
 refine FnSpec.of 52 Tryz.func101 rfl Tryz.ntmps101 (by simp) (AW.weakK ?_)
 refine AW.q 2 ?_
 refine AW.q 3 ?_
 refine AW.q 4 ?_
 refine AW.r ?_
 refine At.a 2 ?_
 refine At.c (impl_isRelease_spec  c.release ) Tryz.call153 true [] [] [] trivial ?_
 refine At.z 1 ?_
 refine AW.seq ?_
 refine AW.q 2 ?_
 refine AW.block ?_
 refine AW.q 2 ?_
 refine AW.cE c.kind (1 : Int) (fun h1 => ?_) (fun h1 => ?_)
 · refine AW.gq 4 ?_
   refine AW.r ?_
   refine At.a 2 ?_
   by_cases h2 : c.release = 0
   · refine At.sB 47 _ _ (sayET h2) ?_
     refine At.a 2 ?_
     refine At.eqA (t := 31) (u := 31) (d := 50) (op := .eql) (x := .tmp 48) (y := .tmp 49) (X := [.int .i64 0, .int .i64 0, .int .i64 c.node, .int .i64 c.size, .str c.digest]) (Y := [.int .i64 0, .int .i64 0, .int .i64 0, .int .i64 0, .str (⟨#[]⟩ : ByteArray)]) (cmdEq (⟨0, 0, c.node, c.size, c.digest⟩ : Cmd) (⟨0, 0, 0, 0, (⟨#[]⟩ : ByteArray)⟩ : Cmd)) (by kernel_rfl) (by kernel_rfl) (by kernel_rfl) (by kernel_rfl) (by kernel_rfl) (.bool (cmdEq (⟨0, 0, c.node, c.size, c.digest⟩ : Cmd) (⟨0, 0, 0, 0, (⟨#[]⟩ : ByteArray)⟩ : Cmd))) (.inl ⟨rfl, rfl⟩) ?_
     refine At.z 2 ?_
     exact AW.ret (rf (k1 (K_impl_CmdOk _ c) (show (cmdEq (⟨0, 0, c.node, c.size, c.digest⟩ : Cmd) (⟨0, 0, 0, 0, (⟨#[]⟩ : ByteArray)⟩ : Cmd)) = (cmdOk c) from by (try simp only [inR_iff, inR_not] at *); rw [Bool.eq_iff_iff]; simp only [cmdOk, cmdEq, noBytes]; (repeat' split) <;> (try simp [inR_iff]) <;> grind) (KF.n [])))
   refine At.sB 47 _ _ (sayEF h2) ?_
   refine At.z 5 ?_
   exact AW.ret (rf (k1 (K_impl_CmdOk _ c) (show (false) = (cmdOk c) from by (try simp only [inR_iff, inR_not] at *); rw [Bool.eq_iff_iff]; simp only [cmdOk, cmdEq, noBytes]; (repeat' split) <;> (try simp [inR_iff]) <;> grind) (KF.n [])))
 refine AW.q 2 ?_
 refine AW.cE c.kind (2 : Int) (fun h3 => ?_) (fun h3 => ?_)
 · refine AW.r ?_
   refine At.a 2 ?_
   by_cases h4 : (inR c.release 1 1000) = true
   · refine At.sB 21 (inR c.release 1 1000) true (sayB h4) ?_
     refine At.a 2 ?_
     refine At.c (impl_isSize_spec  c.size ) Tryz.call154 true [] [] [] trivial ?_
     refine At.a 2 ?_
     by_cases h5 : (inR c.size 0 1000) = true
     · refine At.sB 26 (inR c.size 0 1000) true (sayB h5) ?_
       refine At.z 6 ?_
       refine AW.gq 4 ?_
       refine AW.r ?_
       refine At.a 2 ?_
       by_cases h6 : (c.digest.size : Int) = 32
       · refine At.sB 47 _ _ (sayET h6) ?_
         refine At.a 2 ?_
         refine At.eqA (t := 31) (u := 31) (d := 50) (op := .eql) (x := .tmp 48) (y := .tmp 49) (X := [.int .i64 0, .int .i64 0, .int .i64 c.node, .int .i64 0, .str (⟨#[]⟩ : ByteArray)]) (Y := [.int .i64 0, .int .i64 0, .int .i64 0, .int .i64 0, .str (⟨#[]⟩ : ByteArray)]) (cmdEq (⟨0, 0, c.node, 0, (⟨#[]⟩ : ByteArray)⟩ : Cmd) (⟨0, 0, 0, 0, (⟨#[]⟩ : ByteArray)⟩ : Cmd)) (by kernel_rfl) (by kernel_rfl) (by kernel_rfl) (by kernel_rfl) (by kernel_rfl) (.bool (cmdEq (⟨0, 0, c.node, 0, (⟨#[]⟩ : ByteArray)⟩ : Cmd) (⟨0, 0, 0, 0, (⟨#[]⟩ : ByteArray)⟩ : Cmd))) (.inl ⟨rfl, rfl⟩) ?_
         refine At.z 2 ?_
         exact AW.ret (rf (k1 (K_impl_CmdOk _ c) (show (cmdEq (⟨0, 0, c.node, 0, (⟨#[]⟩ : ByteArray)⟩ : Cmd) (⟨0, 0, 0, 0, (⟨#[]⟩ : ByteArray)⟩ : Cmd)) = (cmdOk c) from by (try simp only [inR_iff, inR_not] at *); rw [Bool.eq_iff_iff]; simp only [cmdOk, cmdEq, noBytes]; (repeat' split) <;> (try simp [inR_iff]) <;> grind) (KF.n [])))
       refine At.sB 47 _ _ (sayEF h6) ?_
       refine At.z 5 ?_
       exact AW.ret (rf (k1 (K_impl_CmdOk _ c) (show (false) = (cmdOk c) from by (try simp only [inR_iff, inR_not] at *); rw [Bool.eq_iff_iff]; simp only [cmdOk, cmdEq, noBytes]; (repeat' split) <;> (try simp [inR_iff]) <;> grind) (KF.n [])))
     refine At.sB 26 (inR c.size 0 1000) false (sayB (Bool.eq_false_iff.2 h5)) ?_
     replace h5 := Bool.eq_false_iff.2 h5
     refine At.z 6 ?_
     refine AW.gq 4 ?_
     refine AW.q 7 ?_
     exact AW.ret (rf (k1 (K_impl_CmdOk _ c) (show (false) = (cmdOk c) from by (try simp only [inR_iff, inR_not] at *); rw [Bool.eq_iff_iff]; simp only [cmdOk, cmdEq, noBytes]; (repeat' split) <;> (try simp [inR_iff]) <;> grind) (KF.n [])))
   refine At.sB 21 (inR c.release 1 1000) false (sayB (Bool.eq_false_iff.2 h4)) ?_
   replace h4 := Bool.eq_false_iff.2 h4
   refine At.z 11 ?_
   refine AW.gq 4 ?_
   refine AW.q 7 ?_
   exact AW.ret (rf (k1 (K_impl_CmdOk _ c) (show (false) = (cmdOk c) from by (try simp only [inR_iff, inR_not] at *); rw [Bool.eq_iff_iff]; simp only [cmdOk, cmdEq, noBytes]; (repeat' split) <;> (try simp [inR_iff]) <;> grind) (KF.n [])))
 refine AW.q 2 ?_
 refine AW.cE c.kind (3 : Int) (fun h7 => ?_) (fun h7 => ?_)
 · refine AW.r ?_
   refine At.a 2 ?_
   by_cases h8 : (inR c.release 1 1000) = true
   · refine At.sB 37 (inR c.release 1 1000) true (sayB h8) ?_
     refine At.a 2 ?_
     refine At.c (impl_isNode_spec  c.node ) Tryz.call152 true [] [] [] trivial ?_
     refine At.z 2 ?_
     refine AW.gq 2 ?_
     refine AW.r ?_
     refine At.a 2 ?_
     by_cases h9 : (inR c.node 0 4) = true
     · refine At.sB 47 (inR c.node 0 4) true (sayB h9) ?_
       refine At.a 2 ?_
       refine At.eqA (t := 31) (u := 31) (d := 50) (op := .eql) (x := .tmp 48) (y := .tmp 49) (X := [.int .i64 0, .int .i64 0, .int .i64 0, .int .i64 c.size, .str c.digest]) (Y := [.int .i64 0, .int .i64 0, .int .i64 0, .int .i64 0, .str (⟨#[]⟩ : ByteArray)]) (cmdEq (⟨0, 0, 0, c.size, c.digest⟩ : Cmd) (⟨0, 0, 0, 0, (⟨#[]⟩ : ByteArray)⟩ : Cmd)) (by kernel_rfl) (by kernel_rfl) (by kernel_rfl) (by kernel_rfl) (by kernel_rfl) (.bool (cmdEq (⟨0, 0, 0, c.size, c.digest⟩ : Cmd) (⟨0, 0, 0, 0, (⟨#[]⟩ : ByteArray)⟩ : Cmd))) (.inl ⟨rfl, rfl⟩) ?_
       refine At.z 2 ?_
       exact AW.ret (rf (k1 (K_impl_CmdOk _ c) (show (cmdEq (⟨0, 0, 0, c.size, c.digest⟩ : Cmd) (⟨0, 0, 0, 0, (⟨#[]⟩ : ByteArray)⟩ : Cmd)) = (cmdOk c) from by (try simp only [inR_iff, inR_not] at *); rw [Bool.eq_iff_iff]; simp only [cmdOk, cmdEq, noBytes]; (repeat' split) <;> (try simp [inR_iff]) <;> grind) (KF.n [])))
     refine At.sB 47 (inR c.node 0 4) false (sayB (Bool.eq_false_iff.2 h9)) ?_
     replace h9 := Bool.eq_false_iff.2 h9
     refine At.z 5 ?_
     exact AW.ret (rf (k1 (K_impl_CmdOk _ c) (show (false) = (cmdOk c) from by (try simp only [inR_iff, inR_not] at *); rw [Bool.eq_iff_iff]; simp only [cmdOk, cmdEq, noBytes]; (repeat' split) <;> (try simp [inR_iff]) <;> grind) (KF.n [])))
   refine At.sB 37 (inR c.release 1 1000) false (sayB (Bool.eq_false_iff.2 h8)) ?_
   replace h8 := Bool.eq_false_iff.2 h8
   refine At.z 5 ?_
   refine AW.gq 2 ?_
   refine AW.q 7 ?_
   exact AW.ret (rf (k1 (K_impl_CmdOk _ c) (show (false) = (cmdOk c) from by (try simp only [inR_iff, inR_not] at *); rw [Bool.eq_iff_iff]; simp only [cmdOk, cmdEq, noBytes]; (repeat' split) <;> (try simp [inR_iff]) <;> grind) (KF.n [])))
 refine AW.seq ?_
 refine AW.q 2 ?_
 refine AW.cE c.kind (4 : Int) (fun h10 => ?_) (fun h10 => ?_)
 · refine AW.skip ?_
   refine AW.cE c.kind (4 : Int) (fun h11 => ?_) (fun h11 => ?_)
   · refine AW.skip ?_
     refine AW.r ?_
     refine At.a 2 ?_
     by_cases h12 : (inR c.release 1 1000) = true
     · refine At.sB 47 (inR c.release 1 1000) true (sayB h12) ?_
       refine At.a 2 ?_
       refine At.eqA (t := 31) (u := 31) (d := 50) (op := .eql) (x := .tmp 48) (y := .tmp 49) (X := [.int .i64 0, .int .i64 0, .int .i64 c.node, .int .i64 c.size, .str c.digest]) (Y := [.int .i64 0, .int .i64 0, .int .i64 0, .int .i64 0, .str (⟨#[]⟩ : ByteArray)]) (cmdEq (⟨0, 0, c.node, c.size, c.digest⟩ : Cmd) (⟨0, 0, 0, 0, (⟨#[]⟩ : ByteArray)⟩ : Cmd)) (by kernel_rfl) (by kernel_rfl) (by kernel_rfl) (by kernel_rfl) (by kernel_rfl) (.bool (cmdEq (⟨0, 0, c.node, c.size, c.digest⟩ : Cmd) (⟨0, 0, 0, 0, (⟨#[]⟩ : ByteArray)⟩ : Cmd))) (.inl ⟨rfl, rfl⟩) ?_
       refine At.z 2 ?_
       exact AW.ret (rf (k1 (K_impl_CmdOk _ c) (show (cmdEq (⟨0, 0, c.node, c.size, c.digest⟩ : Cmd) (⟨0, 0, 0, 0, (⟨#[]⟩ : ByteArray)⟩ : Cmd)) = (cmdOk c) from by (try simp only [inR_iff, inR_not] at *); rw [Bool.eq_iff_iff]; simp only [cmdOk, cmdEq, noBytes]; (repeat' split) <;> (try simp [inR_iff]) <;> grind) (KF.n [])))
     refine At.sB 47 (inR c.release 1 1000) false (sayB (Bool.eq_false_iff.2 h12)) ?_
     replace h12 := Bool.eq_false_iff.2 h12
     refine At.z 5 ?_
     exact AW.ret (rf (k1 (K_impl_CmdOk _ c) (show (false) = (cmdOk c) from by (try simp only [inR_iff, inR_not] at *); rw [Bool.eq_iff_iff]; simp only [cmdOk, cmdEq, noBytes]; (repeat' split) <;> (try simp [inR_iff]) <;> grind) (KF.n [])))
   refine AW.q 1 ?_
   exact AW.ret (rf (k1 (K_impl_CmdOk _ c) (show (false) = (cmdOk c) from by (try simp only [inR_iff, inR_not] at *); rw [Bool.eq_iff_iff]; simp only [cmdOk, cmdEq, noBytes]; (repeat' split) <;> (try simp [inR_iff]) <;> grind) (KF.n [])))
 refine AW.gq 2 ?_
 refine AW.cE c.kind (5 : Int) (fun h13 => ?_) (fun h13 => ?_)
 · refine AW.skip ?_
   refine AW.r ?_
   refine At.a 2 ?_
   by_cases h14 : (inR c.release 1 1000) = true
   · refine At.sB 47 (inR c.release 1 1000) true (sayB h14) ?_
     refine At.a 2 ?_
     refine At.eqA (t := 31) (u := 31) (d := 50) (op := .eql) (x := .tmp 48) (y := .tmp 49) (X := [.int .i64 0, .int .i64 0, .int .i64 c.node, .int .i64 c.size, .str c.digest]) (Y := [.int .i64 0, .int .i64 0, .int .i64 0, .int .i64 0, .str (⟨#[]⟩ : ByteArray)]) (cmdEq (⟨0, 0, c.node, c.size, c.digest⟩ : Cmd) (⟨0, 0, 0, 0, (⟨#[]⟩ : ByteArray)⟩ : Cmd)) (by kernel_rfl) (by kernel_rfl) (by kernel_rfl) (by kernel_rfl) (by kernel_rfl) (.bool (cmdEq (⟨0, 0, c.node, c.size, c.digest⟩ : Cmd) (⟨0, 0, 0, 0, (⟨#[]⟩ : ByteArray)⟩ : Cmd))) (.inl ⟨rfl, rfl⟩) ?_
     refine At.z 2 ?_
     exact AW.ret (rf (k1 (K_impl_CmdOk _ c) (show (cmdEq (⟨0, 0, c.node, c.size, c.digest⟩ : Cmd) (⟨0, 0, 0, 0, (⟨#[]⟩ : ByteArray)⟩ : Cmd)) = (cmdOk c) from by (try simp only [inR_iff, inR_not] at *); rw [Bool.eq_iff_iff]; simp only [cmdOk, cmdEq, noBytes]; (repeat' split) <;> (try simp [inR_iff]) <;> grind) (KF.n [])))
   refine At.sB 47 (inR c.release 1 1000) false (sayB (Bool.eq_false_iff.2 h14)) ?_
   replace h14 := Bool.eq_false_iff.2 h14
   refine At.z 5 ?_
   exact AW.ret (rf (k1 (K_impl_CmdOk _ c) (show (false) = (cmdOk c) from by (try simp only [inR_iff, inR_not] at *); rw [Bool.eq_iff_iff]; simp only [cmdOk, cmdEq, noBytes]; (repeat' split) <;> (try simp [inR_iff]) <;> grind) (KF.n [])))
 refine AW.q 1 ?_
 exact AW.ret (rf (k1 (K_impl_CmdOk _ c) (show (false) = (cmdOk c) from by (try simp only [inR_iff, inR_not] at *); rw [Bool.eq_iff_iff]; simp only [cmdOk, cmdEq, noBytes]; (repeat' split) <;> (try simp [inR_iff]) <;> grind) (KF.n [])))
theorem impl_lastTerm_spec  (l : List Ent) (hl : l.length ≤ 1048576) : FnSpec Tryz.prog 113 [.sl false 6 (l.map encEnt)] [] (.int .i64 (lastT l)) [] := by
 refine FnSpec.of 13 Tryz.func113 rfl Tryz.ntmps113 (by simp) (AW.weakK ?_)
 refine AW.q 1 ?_
 refine AW.seq ?_
 refine AW.r ?_
 refine At.a 2 ?_
 refine At.sL 4 encEnt l ?_
 refine At.z 1 ?_
 refine AW.cE (l.length : Int) (0 : Int) (fun h1 => ?_) (fun h1 => ?_)
 · refine AW.q 1 ?_
   refine AW.ret ?_
   refine ⟨_, Sub.refl _ _, ?_⟩
   refine KF.conv (fun w => .int .i64 w) (fun w => []) (show (0) = (lastT l) from by obtain rfl := List.length_eq_zero_iff.1 (show l.length = 0 by omega); rfl) ?_
   exact KF.n []
 refine AW.skip ?_
 refine AW.r ?_
 refine At.a 3 ?_
 refine At.sL 8 encEnt l ?_
 refine At.a 1 ?_
 refine At.sI 9 ((l.length : Int) - 1) (by omega) ?_
 refine At.iSl 24 10 (.tmp 6) (.tmp 9) false 6 (l.map encEnt) .i64 ((l.length : Int) - 1) 45 (by omega) (by simp only [List.length_map]; omega) ?_
 refine At.a 1 ?_
 refine Exists.elim (gE l (((l.length : Int) - 1).toNat) (by omega)) fun e1 he1 => ?_
 refine At.lVp 3 12 (.tmp 11) false 6 (l.map encEnt) (((l.length : Int) - 1).toNat) 0 false 1 (encEnt e1) (.int .i64 e1.term) (mapGet he1) ?_
 refine At.z 1 ?_
 refine AW.ret ?_
 refine ⟨_, Sub.refl _ _, ?_⟩
 refine KF.conv (fun w => .int .i64 w) (fun w => []) (show (e1.term) = (lastT l) from by rw [show ((l.length : Int) - 1).toNat = l.length - 1 from by omega] at he1; simp [lastT, he1]) ?_
 exact KF.n []
theorem impl_isWhole_spec  (n : Int) : FnSpec Tryz.prog 150 [.int .i64 n] [] (.bool (inR n 0 1000000000)) [] := by
 refine FnSpec.of 5 Tryz.func150 rfl Tryz.ntmps150 (by simp) (AW.weakK ?_)
 refine AW.q 1 ?_
 refine AW.r ?_
 refine At.a 1 ?_
 refine At.c (impl_within_spec  n 0 1000000000 ) Tryz.call69 true [] [] [] trivial ?_
 refine At.z 1 ?_
 exact AW.ret (rf (KF.n []))
theorem impl_HardOk_spec  (h : Hard) (hl : h.log.length ≤ 1048576) : FnSpec Tryz.prog 70 [.agg [.int .i64 h.term, .int .i64 h.vote, .sl false 6 (h.log.map encEnt)]] [] (.bool (hardOk h)) [] := by
 refine FnSpec.of 46 Tryz.func70 rfl Tryz.ntmps70 (by simp) (AW.weakK ?_)
 refine AW.q 2 ?_
 refine AW.seq ?_
 refine AW.r ?_
 refine At.a 3 ?_
 refine At.sL 7 encEnt h.log ?_
 refine At.z 1 ?_
 refine AW.block ?_
 refine AW.loopW (fun (k : Nat) => Go.Sy.mk [.un, .ptr 101 0 0, .un, .un, .un, .un, .sl false 6 (h.log.map encEnt), .int .i64 (h.log.length : Int), .int .i64 (k : Int)] [(101, .box 26 [.int .i64 h.term, .int .i64 h.vote, .sl false 6 (h.log.map encEnt)])]) (fun (k : Nat) => k ≤ h.log.length ∧ logOk h.term 0 h.log = logOk h.term (lastT (h.log.take k)) (h.log.drop k)) (fun (k : Nat) => h.log.length - k) 0 ⟨by omega, by simp [lastT]⟩ (Sub.o [(101, 101)] [false, true, false, false, false, false, true, true, true]) ?_
 rintro k ⟨hk, hR⟩
 refine AW.q 1 ?_
 refine AW.seq ?_
 refine AW.cD ((k : Int) < (h.log.length : Int)) (fun h1 => ?_) (fun h1 => ?_)
 · refine AW.skip ?_
   refine AW.seq ?_
   refine AW.block ?_
   refine AW.r ?_
   refine At.a 1 ?_
   refine At.iSl 24 11 (.tmp 6) (.tmp 8) false 6 (h.log.map encEnt) .i64 (k : Int) 45 (by omega) (by simp only [List.length_map]; omega) ?_
   refine Exists.elim (gE h.log k (by omega)) fun e1 he1 => ?_
   refine At.lVp 45 12 (.tmp 11) false 6 (h.log.map encEnt) k 0 true 6 (encEnt e1) (.agg [.int .i64 e1.term, .int .i64 e1.cmd.kind, .int .i64 e1.cmd.release, .int .i64 e1.cmd.node, .int .i64 e1.cmd.size, .str e1.cmd.digest]) (mapGet he1) ?_
   refine At.z 3 ?_
   refine AW.seq ?_
   refine AW.gD Tryz_mix ?_
   refine At.a 2 ?_
   refine At.c (impl_CmdOk_spec  e1.cmd ) Tryz.call101 true [] [] [] trivial ?_
   refine At.a 2 ?_
   by_cases h2 : (cmdOk e1.cmd) = true
   · refine At.sB 17 (!(cmdOk e1.cmd)) false (sayNF (sayB h2)) ?_
     refine At.a 5 ?_
     refine At.sliceSl (t := 24) (d := 23) (e := 45) (es := 6) (x := .tmp 21) (lx := none) (hx := some (.tmp 22)) (p := false) (xs := (h.log.map encEnt)) (vl := .un) (vh := .int .i64 (k : Int)) 0 k ((h.log.take k).map encEnt) (by kernel_rfl) (by kernel_rfl) (by kernel_rfl) (by kernel_rfl) (.inl ⟨rfl, rfl⟩) (.inr ⟨_, _, rfl, rfl⟩) (by omega) (by simp only [List.length_map]; omega) (by simp [List.map_take, List.map_drop]) ?_
     refine At.c (impl_lastTerm_spec  (h.log.take k) (by simp only [List.length_map, List.length_append, List.length_take, List.length_drop, List.length_replicate, List.length_set, List.length_cons, List.length_nil]; omega)) Tryz.call113 true [] [] [] trivial ?_
     refine At.mm (d := 25) (b := .max) (x := .const (.int .i64 1)) (y := .tmp 24) (ats := #[3, 3]) (q := .i64) (m := 1) (n := lastT (h.log.take k)) (if (lastT (h.log.take k)) > 1 then lastT (h.log.take k) else 1) (by kernel_rfl) (by kernel_rfl) (by kernel_rfl) (by kernel_rfl) (.inr ⟨rfl, rfl⟩) ?_
     refine At.say 25 (.int .i64 (if (lastT (h.log.take k)) > 1 then lastT (h.log.take k) else 1)) (.int .i64 (max 1 (lastT (h.log.take k)))) (by kernel_rfl) (congrArg (V.int .i64) (by omega)) ?_
     refine At.a 2 ?_
     refine At.c (impl_within_spec  e1.term (max 1 (lastT (h.log.take k))) h.term ) Tryz.call69 true [] [] [] trivial ?_
     refine At.zD 2 ?_
     refine AW.cNB (inR e1.term (max 1 (lastT (h.log.take k))) h.term) (fun h3 => ?_) (fun h3 => ?_)
     · refine AW.q 1 ?_
       refine AW.ret ?_
       refine ⟨_, Sub.refl _ _, ?_⟩
       refine KF.conv (fun w => .bool w) (fun w => []) (show (false) = (hardOk h) from by refine hardBad (hR.trans ?_); rw [dropCons he1]; first | exact logOk_bad0 (by assumption) | exact logOk_bad2 (by have := inR_not.1 (by assumption); omega)) ?_
       exact KF.n []
     have h3i := inR_iff.1 h3
     refine AW.skip ?_
     refine AW.g ?_
     refine At.a 1 ?_
     refine At.sI 31 ((k : Int) + 1) (by omega) ?_
     refine At.z 1 ?_
     exact ⟨k + 1, ⟨by omega, by rw [hR, dropCons he1, lastT_next he1]; exact logOk_step (by omega) (by omega) (by simp only [*]) (by omega)⟩, (by omega), Sub.o [(101, 101)] [false, true, false, false, false, false, true, true, true]⟩
   refine At.sB 17 (!(cmdOk e1.cmd)) true (sayNT (sayB (Bool.eq_false_iff.2 h2))) ?_
   replace h2 := Bool.eq_false_iff.2 h2
   refine At.zD 13 ?_
   refine AW.cond true (by kernel_rfl) (fun _ => ?_) (fun h => by cases h)
   refine AW.q 1 ?_
   refine AW.ret ?_
   refine ⟨_, Sub.refl _ _, ?_⟩
   refine KF.conv (fun w => .bool w) (fun w => []) (show (false) = (hardOk h) from by refine hardBad (hR.trans ?_); rw [dropCons he1]; first | exact logOk_bad0 (by assumption) | exact logOk_bad2 (by have := inR_not.1 (by assumption); omega)) ?_
   exact KF.n []
 refine AW.exit ?_
 refine AW.r ?_
 refine At.a 2 ?_
 refine At.c (impl_isWhole_spec  h.term ) Tryz.call150 true [] [] [] trivial ?_
 refine At.a 1 ?_
 by_cases h4 : (inR h.term 0 1000000000) = true
 · refine At.sB 35 (inR h.term 0 1000000000) true (sayB h4) ?_
   have h4i := inR_iff.1 h4
   refine At.a 2 ?_
   refine At.c (impl_within_spec  h.vote 0 5 ) Tryz.call69 true [] [] [] trivial ?_
   refine At.a 2 ?_
   by_cases h5 : (inR h.vote 0 5) = true
   · refine At.sB 40 (inR h.vote 0 5) true (sayB h5) ?_
     have h5i := inR_iff.1 h5
     refine At.a 3 ?_
     refine At.sL 43 encEnt h.log ?_
     refine At.z 3 ?_
     refine AW.ret ?_
     refine ⟨_, Sub.refl _ _, ?_⟩
     refine KF.conv (fun w => .bool w) (fun w => []) (show (decide ((h.log.length : Int) ≤ 80)) = (hardOk h) from by have q : logOk h.term 0 h.log = true := (by rw [hR, List.drop_of_length_le (by omega)]; rfl); grind [hardOk]) ?_
     exact KF.n []
   refine At.sB 40 (inR h.vote 0 5) false (sayB (Bool.eq_false_iff.2 h5)) ?_
   replace h5 := Bool.eq_false_iff.2 h5
   refine At.z 6 ?_
   refine AW.ret ?_
   refine ⟨_, Sub.refl _ _, ?_⟩
   refine KF.conv (fun w => .bool w) (fun w => []) (show (false) = (hardOk h) from by have q : logOk h.term 0 h.log = true := (by rw [hR, List.drop_of_length_le (by omega)]; rfl); grind [hardOk]) ?_
   exact KF.n []
 refine At.sB 35 (inR h.term 0 1000000000) false (sayB (Bool.eq_false_iff.2 h4)) ?_
 replace h4 := Bool.eq_false_iff.2 h4
 refine At.z 11 ?_
 refine AW.ret ?_
 refine ⟨_, Sub.refl _ _, ?_⟩
 refine KF.conv (fun w => .bool w) (fun w => []) (show (false) = (hardOk h) from by have q : logOk h.term 0 h.log = true := (by rw [hR, List.drop_of_length_le (by omega)]; rfl); grind [hardOk]) ?_
 exact KF.n []
theorem impl_nodesAscend_spec  (list : List Int) (of_ : Int) (hl : list.length ≤ 1048576) (ho : 0 ≤ of_ ∧ of_ ≤ 1000) : FnSpec Tryz.prog 71 [.sl false 1 (list.map encI), .int .i64 of_] [] (.bool (asc (of_ - 1) (-1) list)) [] := by
 refine FnSpec.of 33 Tryz.func71 rfl Tryz.ntmps71 (by simp) (AW.weakK ?_)
 refine AW.q 1 ?_
 refine AW.seq ?_
 refine AW.r ?_
 refine At.a 2 ?_
 refine At.sL 8 encI list ?_
 refine At.z 1 ?_
 refine AW.block ?_
 refine AW.loopW (fun (k : Nat) => Go.Sy.mk [.sl false 1 (list.map encI), .int .i64 of_, .un, .un, .un, .un, .un, .sl false 1 (list.map encI), .int .i64 (list.length : Int), .int .i64 (k : Int)] []) (fun (k : Nat) => k ≤ list.length ∧ ∃ p : Int, (k = 0 → p = -1) ∧ (∀ e, 0 < k → list[k - 1]? = some e → e = p) ∧ asc (of_ - 1) (-1) list = asc (of_ - 1) p (list.drop k)) (fun (k : Nat) => list.length - k) 0 ⟨by omega, -1, by omega, by omega, by rw [List.drop_zero]⟩ (Sub.o [] [true, true, false, false, false, false, false, true, true, true]) ?_
 rintro k ⟨hk, p, hp0, hp1, hR⟩
 refine AW.q 1 ?_
 refine AW.seq ?_
 refine AW.cD ((k : Int) < (list.length : Int)) (fun h1 => ?_) (fun h1 => ?_)
 · refine AW.skip ?_
   refine AW.seq ?_
   refine AW.block ?_
   refine AW.r ?_
   refine At.a 1 ?_
   refine At.iSl 27 12 (.tmp 7) (.tmp 9) false 1 (list.map encI) .i64 (k : Int) 3 (by omega) (by simp only [List.length_map]; omega) ?_
   refine Exists.elim (gE list k (by omega)) fun e1 he1 => ?_
   refine At.lVp 3 13 (.tmp 12) false 1 (list.map encI) k 0 false 1 (encI e1) (.int .i64 e1) (mapGet he1) ?_
   refine At.z 2 ?_
   refine AW.r ?_
   refine At.a 3 ?_
   refine At.sI 16 (of_ - 1) (by omega) ?_
   refine At.c (impl_within_spec  e1 0 (of_ - 1) ) Tryz.call69 true [] [] [] trivial ?_
   refine At.a 2 ?_
   by_cases h2 : (inR e1 0 (of_ - 1)) = true
   · refine At.sB 19 (!(inR e1 0 (of_ - 1))) false (sayNF (sayB h2)) ?_
     have h2i := inR_iff.1 h2
     refine At.a 3 ?_
     by_cases h3 : (k : Int) > 0
     · refine At.sB 22 _ _ (sayT h3) ?_
       refine At.a 3 ?_
       refine At.sI 25 ((k : Int) - 1) (by omega) ?_
       refine At.iSl 27 26 (.tmp 23) (.tmp 25) false 1 (list.map encI) .i64 ((k : Int) - 1) 3 (by omega) (by simp only [List.length_map]; omega) ?_
       refine Exists.elim (gE list (((k : Int) - 1).toNat) (by omega)) fun e2 he2 => ?_
       have qe2 := hp1 e2 (by omega) (by rw [show k - 1 = ((k : Int) - 1).toNat from by omega]; exact he2)
       refine At.lVp 3 27 (.tmp 26) false 1 (list.map encI) (((k : Int) - 1).toNat) 0 false 1 (encI e2) (.int .i64 e2) (mapGet he2) ?_
       refine At.z 4 ?_
       refine AW.cD (e2 ≥ e1) (fun h4 => ?_) (fun h4 => ?_)
       · refine AW.q 1 ?_
         refine AW.ret ?_
         refine ⟨_, Sub.refl _ _, ?_⟩
         refine KF.conv (fun w => .bool w) (fun w => []) (show (false) = (asc (of_ - 1) (-1) list) from by rw [hR, dropCons he1]; first | exact asc_bad1 (by assumption) | exact asc_bad2 (by omega)) ?_
         exact KF.n []
       refine AW.skip ?_
       refine AW.g ?_
       refine At.a 1 ?_
       refine At.sI 32 ((k : Int) + 1) (by omega) ?_
       refine At.z 1 ?_
       exact ⟨k + 1, ⟨by omega, e1, by omega, at_k he1, by have i1 := inR_iff.1 (show inR e1 0 (of_ - 1) = true by simpa using h2); rw [hR, dropCons he1]; exact asc_step (by simpa using h2) (by omega)⟩, (by omega), Sub.o [] [true, true, false, false, false, false, false, true, true, true]⟩
     refine At.sB 22 _ _ (sayF h3) ?_
     refine At.z 9 ?_
     refine AW.cond false (by kernel_rfl) (fun h => by cases h) (fun _ => ?_)
     refine AW.skip ?_
     refine AW.g ?_
     refine At.a 1 ?_
     refine At.sI 32 ((k : Int) + 1) (by omega) ?_
     refine At.z 1 ?_
     exact ⟨k + 1, ⟨by omega, e1, by omega, at_k he1, by have i1 := inR_iff.1 (show inR e1 0 (of_ - 1) = true by simpa using h2); rw [hR, dropCons he1]; exact asc_step (by simpa using h2) (by omega)⟩, (by omega), Sub.o [] [true, true, false, false, false, false, false, true, true, true]⟩
   refine At.sB 19 (!(inR e1 0 (of_ - 1))) true (sayNT (sayB (Bool.eq_false_iff.2 h2))) ?_
   replace h2 := Bool.eq_false_iff.2 h2
   refine At.z 12 ?_
   refine AW.cond true (by kernel_rfl) (fun _ => ?_) (fun h => by cases h)
   refine AW.q 1 ?_
   refine AW.ret ?_
   refine ⟨_, Sub.refl _ _, ?_⟩
   refine KF.conv (fun w => .bool w) (fun w => []) (show (false) = (asc (of_ - 1) (-1) list) from by rw [hR, dropCons he1]; first | exact asc_bad1 (by assumption) | exact asc_bad2 (by omega)) ?_
   exact KF.n []
 refine AW.exit ?_
 refine AW.q 1 ?_
 refine AW.ret ?_
 refine ⟨_, Sub.refl _ _, ?_⟩
 refine KF.conv (fun w => .bool w) (fun w => []) (show (true) = (asc (of_ - 1) (-1) list) from by rw [hR, List.drop_of_length_le (by omega)]; rfl) ?_
 exact KF.n []
theorem slices_Index_spec  (s : List Int) (v : Int) (hl : s.length ≤ 1048576) : FnSpec Tryz.prog 151 [.sl false 1 (s.map encI), .int .i64 v] [] (.int .i64 (idxI v 0 s)) [] := by
 refine FnSpec.of 19 Tryz.func151 rfl Tryz.ntmps151 (by simp) (AW.weakK ?_)
 refine AW.q 1 ?_
 refine AW.seq ?_
 refine AW.r ?_
 refine At.a 2 ?_
 refine At.sL 7 encI s ?_
 refine At.z 1 ?_
 refine AW.block ?_
 refine AW.loopW (fun (k : Nat) => Go.Sy.mk [.sl false 1 (s.map encI), .int .i64 v, .un, .un, .un, .un, .un, .int .i64 (s.length : Int), .int .i64 (k : Int)] []) (fun (k : Nat) => k ≤ s.length ∧ idxI v 0 s = idxI v k (s.drop k)) (fun (k : Nat) => s.length - k) 0 ⟨by omega, by rw [List.drop_zero]⟩ (Sub.o [] [true, true, false, false, false, false, false, true, true]) ?_
 rintro k ⟨hk, hR⟩
 refine AW.q 1 ?_
 refine AW.seq ?_
 refine AW.cD ((k : Int) < (s.length : Int)) (fun h1 => ?_) (fun h1 => ?_)
 · refine AW.skip ?_
   refine AW.seq ?_
   refine AW.block ?_
   refine AW.q 2 ?_
   refine AW.r ?_
   refine At.a 3 ?_
   refine At.iSl 27 14 (.tmp 12) (.tmp 13) false 1 (s.map encI) .i64 (k : Int) 3 (by omega) (by simp only [List.length_map]; omega) ?_
   refine Exists.elim (gE s k (by omega)) fun e1 he1 => ?_
   refine At.lVp 3 15 (.tmp 14) false 1 (s.map encI) k 0 false 1 (encI e1) (.int .i64 e1) (mapGet he1) ?_
   refine At.z 1 ?_
   refine AW.cE v e1 (fun h2 => ?_) (fun h2 => ?_)
   · refine AW.q 2 ?_
     refine AW.ret ?_
     refine ⟨_, Sub.refl _ _, ?_⟩
     refine KF.conv (fun w => .int .i64 w) (fun w => []) (show ((k : Int)) = (idxI v 0 s) from by rw [hR, dropCons he1, idxI, if_pos (by assumption)]) ?_
     exact KF.n []
   refine AW.skip ?_
   refine AW.g ?_
   refine At.a 1 ?_
   refine At.sI 18 ((k : Int) + 1) (by omega) ?_
   refine At.z 1 ?_
   exact ⟨k + 1, ⟨by omega, by rw [hR, dropCons he1, idxI, if_neg (by assumption)]⟩, (by omega), Sub.o [] [true, true, false, false, false, false, false, true, true]⟩
 refine AW.exit ?_
 refine AW.q 1 ?_
 refine AW.ret ?_
 refine ⟨_, Sub.refl _ _, ?_⟩
 refine KF.conv (fun w => .int .i64 w) (fun w => []) (show (-1) = (idxI v 0 s) from by rw [hR, List.drop_of_length_le (by omega)]; rfl) ?_
 exact KF.n []
theorem slices_Contains_spec  (s : List Int) (v : Int) (hl : s.length ≤ 1048576) : FnSpec Tryz.prog 72 [.sl false 1 (s.map encI), .int .i64 v] [] (.bool (hasI v s)) [] := by
 refine FnSpec.of 9 Tryz.func72 rfl Tryz.ntmps72 (by simp) (AW.weakK ?_)
 refine AW.q 1 ?_
 refine AW.r ?_
 refine At.a 2 ?_
 refine At.c (slices_Index_spec  s v (by omega)) Tryz.call151 true [] [] [] trivial ?_
 refine At.z 2 ?_
 refine AW.ret ?_
 refine ⟨_, Sub.refl _ _, ?_⟩
 refine KF.conv (fun w => .bool w) (fun w => []) (show (decide ((idxI v 0 s) ≥ 0)) = (hasI v s) from idxI_has v s 0) ?_
 exact KF.n []
theorem impl_numbersIn_spec  (list : List Int) (count : Int) (low : Int) (high : Int) (hl : list.length ≤ 1048576) : FnSpec Tryz.prog 73 [.sl false 1 (list.map encI), .int .i64 count, .int .i64 low, .int .i64 high] [] (.bool (allIn low high list && ((list.length : Int) == count))) [] := by
 refine FnSpec.of 27 Tryz.func73 rfl Tryz.ntmps73 (by simp) (AW.weakK ?_)
 refine AW.q 1 ?_
 refine AW.seq ?_
 refine AW.r ?_
 refine At.a 2 ?_
 refine At.sL 12 encI list ?_
 refine At.z 1 ?_
 refine AW.block ?_
 refine AW.loopW (fun (k : Nat) => Go.Sy.mk [.sl false 1 (list.map encI), .int .i64 count, .int .i64 low, .int .i64 high, .un, .un, .un, .un, .un, .un, .un, .sl false 1 (list.map encI), .int .i64 (list.length : Int), .int .i64 (k : Int)] []) (fun (k : Nat) => k ≤ list.length ∧ allIn low high list = allIn low high (list.drop k)) (fun (k : Nat) => list.length - k) 0 ⟨by omega, by rw [List.drop_zero]⟩ (Sub.o [] [true, true, true, true, false, false, false, false, false, false, false, true, true, true]) ?_
 rintro k ⟨hk, hR⟩
 refine AW.q 1 ?_
 refine AW.seq ?_
 refine AW.cD ((k : Int) < (list.length : Int)) (fun h1 => ?_) (fun h1 => ?_)
 · refine AW.skip ?_
   refine AW.seq ?_
   refine AW.block ?_
   refine AW.r ?_
   refine At.iSl 27 15 (.tmp 11) (.tmp 13) false 1 (list.map encI) .i64 (k : Int) 3 (by omega) (by simp only [List.length_map]; omega) ?_
   refine Exists.elim (gE list k (by omega)) fun e1 he1 => ?_
   refine At.lVp 3 16 (.tmp 15) false 1 (list.map encI) k 0 false 1 (encI e1) (.int .i64 e1) (mapGet he1) ?_
   refine At.z 1 ?_
   refine AW.r ?_
   refine At.a 3 ?_
   refine At.c (impl_within_spec  e1 low high ) Tryz.call69 true [] [] [] trivial ?_
   refine At.z 1 ?_
   refine AW.cNB (inR e1 low high) (fun h2 => ?_) (fun h2 => ?_)
   · refine AW.q 1 ?_
     refine AW.ret ?_
     refine ⟨_, Sub.refl _ _, ?_⟩
     refine KF.conv (fun w => .bool w) (fun w => []) (show (false) = (allIn low high list && ((list.length : Int) == count)) from by rw [hR, dropCons he1, allIn]; simp only [*, Bool.false_and]) ?_
     exact KF.n []
   have h2i := inR_iff.1 h2
   refine AW.skip ?_
   refine AW.g ?_
   refine At.a 1 ?_
   refine At.sI 22 ((k : Int) + 1) (by omega) ?_
   refine At.z 1 ?_
   exact ⟨k + 1, ⟨by omega, by rw [hR, dropCons he1, allIn]; simp only [*, Bool.true_and]⟩, (by omega), Sub.o [] [true, true, true, true, false, false, false, false, false, false, false, true, true, true]⟩
 refine AW.exit ?_
 refine AW.r ?_
 refine At.a 2 ?_
 refine At.sL 24 encI list ?_
 refine At.z 3 ?_
 refine AW.ret ?_
 refine ⟨_, Sub.refl _ _, ?_⟩
 refine KF.conv (fun w => .bool w) (fun w => []) (show ((list.length : Int) == count) = (allIn low high list && ((list.length : Int) == count)) from by rw [hR, List.drop_of_length_le (by omega)]; rfl) ?_
 exact KF.n []
def K_impl_RaftOk (rs : List ResultVar) (r : Raft) (w0_ : Bool) : Exit → Sg → Prop := KF Tryz.prog 0 rs (.bool w0_) []
theorem impl_RaftOk_spec  (r : Raft) (hz : SmallR r) : FnSpec Tryz.prog 19 [(raftA r)] [] (.bool (raftOk r)) [] := by
 obtain ⟨z1, z2, z3, z4⟩ := id hz
 refine FnSpec.of 105 Tryz.func19 rfl Tryz.ntmps19 (by simp) (AW.weakK ?_)
 refine AW.q 2 ?_
 refine AW.r ?_
 refine At.a 4 ?_
 refine At.sL 9 encEnt r.hard.log ?_
 refine At.z 1 ?_
 refine AW.seq ?_
 refine AW.r ?_
 refine At.a 2 ?_
 refine At.c (impl_isOf_spec  r.of_ ) Tryz.call68 true [] [] [] trivial ?_
 refine At.a 2 ?_
 by_cases h1 : (ofOk r.of_) = true
 · refine At.sB 14 (!(ofOk r.of_)) false (sayNF (sayB h1)) ?_
   have h1o := ofOk_iff.1 h1
   refine At.a 5 ?_
   refine At.sI 19 (r.of_ - 1) (by omega) ?_
   refine At.c (impl_within_spec  r.id 0 (r.of_ - 1) ) Tryz.call69 true [] [] [] trivial ?_
   refine At.a 3 ?_
   by_cases h2 : (inR r.id 0 (r.of_ - 1)) = true
   · refine At.sB 23 (!(inR r.id 0 (r.of_ - 1))) false (sayNF (sayB h2)) ?_
     have h2i := inR_iff.1 h2
     refine At.a 2 ?_
     refine At.c (impl_within_spec  r.role 1 3 ) Tryz.call69 true [] [] [] trivial ?_
     refine At.a 3 ?_
     by_cases h3 : (inR r.role 1 3) = true
     · refine At.sB 29 (!(inR r.role 1 3)) false (sayNF (sayB h3)) ?_
       have h3i := inR_iff.1 h3
       refine At.a 2 ?_
       refine At.c (impl_HardOk_spec  r.hard (by omega)) Tryz.call70 true [] [] [] trivial ?_
       refine At.a 3 ?_
       by_cases h4 : (hardOk r.hard) = true
       · refine At.sB 35 (!(hardOk r.hard)) false (sayNF (sayB h4)) ?_
         refine At.a 3 ?_
         refine At.c (impl_within_spec  r.commit 0 (r.hard.log.length : Int) ) Tryz.call69 true [] [] [] trivial ?_
         refine At.z 2 ?_
         refine AW.cNB (inR r.commit 0 (r.hard.log.length : Int)) (fun h5 => ?_) (fun h5 => ?_)
         · refine AW.q 1 ?_
           exact AW.ret (rf (k1 (K_impl_RaftOk _ r) (show (false) = (raftOk r) from by grind [raft_all, raftOk3, allIn_zero]) (KF.n [])))
         have h5i := inR_iff.1 h5
         refine AW.skip ?_
         refine AW.seq ?_
         refine AW.seq ?_
         refine AW.cut [(101, 101)] [false, true, false, true] 65 (!(raftI2 r)) ?_ ?_
         · refine AW.g ?_
           refine At.a 4 ?_
           refine At.c (impl_nodesAscend_spec  r.yes r.of_ (by omega) (by omega)) Tryz.call71 true [] [] [] trivial ?_
           refine At.a 2 ?_
           by_cases h6 : (asc (r.of_ - 1) (-1) r.yes) = true
           · refine At.sB 48 (!(asc (r.of_ - 1) (-1) r.yes)) false (sayNF (sayB h6)) ?_
             refine At.a 4 ?_
             refine At.c (slices_Contains_spec  r.yes r.id (by omega)) Tryz.call72 true [] [] [] trivial ?_
             refine At.a 2 ?_
             by_cases h7 : (hasI r.id r.yes) = true
             · refine At.sB 55 (hasI r.id r.yes) true (sayB h7) ?_
               refine At.a 10 ?_
               refine At.sB 65 true (!(raftI2 r)) (congrArg V.bool (by grind [raftI2])) ?_
               refine At.done rfl ⟨rfl, ?_⟩
               exact Sub.cut [(101, 101)] [false, true, false, true] 65 _ (by kernel_rfl) (by kernel_rfl) (by kernel_rfl) (by kernel_rfl)
             refine At.sB 55 (hasI r.id r.yes) false (sayB (Bool.eq_false_iff.2 h7)) ?_
             replace h7 := Bool.eq_false_iff.2 h7
             refine At.a 3 ?_
             refine At.sL 58 encI r.yes ?_
             refine At.a 2 ?_
             by_cases h8 : (r.yes.length : Int) > 0
             · refine At.sB 60 _ _ (sayT h8) ?_
               refine At.a 5 ?_
               refine At.sB 65 (r.role != 2) (!(raftI2 r)) (congrArg V.bool (by grind [raftI2])) ?_
               refine At.done rfl ⟨rfl, ?_⟩
               exact Sub.cut [(101, 101)] [false, true, false, true] 65 _ (by kernel_rfl) (by kernel_rfl) (by kernel_rfl) (by kernel_rfl)
             refine At.sB 60 _ _ (sayF h8) ?_
             refine At.a 5 ?_
             refine At.sB 65 false (!(raftI2 r)) (congrArg V.bool (by grind [raftI2])) ?_
             refine At.done rfl ⟨rfl, ?_⟩
             exact Sub.cut [(101, 101)] [false, true, false, true] 65 _ (by kernel_rfl) (by kernel_rfl) (by kernel_rfl) (by kernel_rfl)
           refine At.sB 48 (!(asc (r.of_ - 1) (-1) r.yes)) true (sayNT (sayB (Bool.eq_false_iff.2 h6))) ?_
           replace h6 := Bool.eq_false_iff.2 h6
           refine At.a 17 ?_
           refine At.sB 65 true (!(raftI2 r)) (congrArg V.bool (by grind [raftI2])) ?_
           refine At.done rfl ⟨rfl, ?_⟩
           exact Sub.cut [(101, 101)] [false, true, false, true] 65 _ (by kernel_rfl) (by kernel_rfl) (by kernel_rfl) (by kernel_rfl)
         refine AW.cNB (raftI2 r) (fun h9 => ?_) (fun h9 => ?_)
         · refine AW.q 1 ?_
           exact AW.ret (rf (k1 (K_impl_RaftOk _ r) (show (false) = (raftOk r) from by grind [raft_all, raftOk3, allIn_zero]) (KF.n [])))
         refine AW.skip ?_
         refine AW.q 1 ?_
         refine AW.seq ?_
         refine AW.q 3 ?_
         refine AW.cE r.role (3 : Int) (fun h10 => ?_) (fun h10 => ?_)
         · refine AW.gq 3 ?_
           refine AW.seq ?_
           refine AW.cut [(101, 101)] [false, true, false, true, true] 5 (raftI4 r) ?_ ?_
           · refine AW.g ?_
             refine At.a 4 ?_
             by_cases h11 : r.role = 1
             · refine At.sB 74 _ _ (sayET h11) ?_
               refine At.a 15 ?_
               refine At.sB 5 true (raftI4 r) (congrArg V.bool (by grind [raftI4])) ?_
               refine At.done rfl ⟨rfl, ?_⟩
               exact Sub.cut [(101, 101)] [false, true, false, true, true] 5 _ (by kernel_rfl) (by kernel_rfl) (by kernel_rfl) (by kernel_rfl)
             refine At.sB 74 _ _ (sayEF h11) ?_
             refine At.a 5 ?_
             by_cases h12 : r.hard.term ≥ 1
             · refine At.sB 79 _ _ (sayT h12) ?_
               refine At.a 6 ?_
               refine At.sI 85 (r.id + 1) (by omega) ?_
               refine At.a 4 ?_
               refine At.sB 5 (r.hard.vote == (r.id + 1)) (raftI4 r) (congrArg V.bool (by grind [raftI4])) ?_
               refine At.done rfl ⟨rfl, ?_⟩
               exact Sub.cut [(101, 101)] [false, true, false, true, true] 5 _ (by kernel_rfl) (by kernel_rfl) (by kernel_rfl) (by kernel_rfl)
             refine At.sB 79 _ _ (sayF h12) ?_
             refine At.a 10 ?_
             refine At.sB 5 false (raftI4 r) (congrArg V.bool (by grind [raftI4])) ?_
             refine At.done rfl ⟨rfl, ?_⟩
             exact Sub.cut [(101, 101)] [false, true, false, true, true] 5 _ (by kernel_rfl) (by kernel_rfl) (by kernel_rfl) (by kernel_rfl)
           refine AW.r ?_
           refine At.a 2 ?_
           by_cases h13 : (raftI4 r) = true
           · refine At.sB 90 (raftI4 r) true (sayB h13) ?_
             refine At.a 5 ?_
             refine At.sI 95 ((r.hard.log.length : Int) + 1) (by omega) ?_
             refine At.c (impl_numbersIn_spec  r.next r.of_ 1 ((r.hard.log.length : Int) + 1) (by omega)) Tryz.call73 true [] [] [] trivial ?_
             refine At.a 2 ?_
             by_cases h14 : (allIn 1 ((r.hard.log.length : Int) + 1) r.next && ((r.next.length : Int) == r.of_)) = true
             · refine At.sB 98 (allIn 1 ((r.hard.log.length : Int) + 1) r.next && ((r.next.length : Int) == r.of_)) true (sayB h14) ?_
               refine At.a 4 ?_
               refine At.c (impl_numbersIn_spec  r.match_ r.of_ 0 (r.hard.log.length : Int) (by omega)) Tryz.call73 true [] [] [] trivial ?_
               refine At.z 2 ?_
               exact AW.ret (rf (k1 (K_impl_RaftOk _ r) (show (allIn 0 (r.hard.log.length : Int) r.match_ && ((r.match_.length : Int) == r.of_)) = (raftOk r) from by grind [raft_all, raftOk3, allIn_zero]) (KF.n [])))
             refine At.sB 98 (allIn 1 ((r.hard.log.length : Int) + 1) r.next && ((r.next.length : Int) == r.of_)) false (sayB (Bool.eq_false_iff.2 h14)) ?_
             replace h14 := Bool.eq_false_iff.2 h14
             refine At.z 7 ?_
             exact AW.ret (rf (k1 (K_impl_RaftOk _ r) (show (false) = (raftOk r) from by grind [raft_all, raftOk3, allIn_zero]) (KF.n [])))
           refine At.sB 90 (raftI4 r) false (sayB (Bool.eq_false_iff.2 h13)) ?_
           replace h13 := Bool.eq_false_iff.2 h13
           refine At.z 15 ?_
           exact AW.ret (rf (k1 (K_impl_RaftOk _ r) (show (false) = (raftOk r) from by grind [raft_all, raftOk3, allIn_zero]) (KF.n [])))
         refine AW.skip ?_
         refine AW.seq ?_
         refine AW.cut [(101, 101)] [false, true, false, true, true] 5 (raftI4 r) ?_ ?_
         · refine AW.g ?_
           refine At.a 4 ?_
           by_cases h15 : r.role = 1
           · refine At.sB 74 _ _ (sayET h15) ?_
             refine At.a 15 ?_
             refine At.sB 5 true (raftI4 r) (congrArg V.bool (by grind [raftI4])) ?_
             refine At.done rfl ⟨rfl, ?_⟩
             exact Sub.cut [(101, 101)] [false, true, false, true, true] 5 _ (by kernel_rfl) (by kernel_rfl) (by kernel_rfl) (by kernel_rfl)
           refine At.sB 74 _ _ (sayEF h15) ?_
           refine At.a 5 ?_
           by_cases h16 : r.hard.term ≥ 1
           · refine At.sB 79 _ _ (sayT h16) ?_
             refine At.a 6 ?_
             refine At.sI 85 (r.id + 1) (by omega) ?_
             refine At.a 4 ?_
             refine At.sB 5 (r.hard.vote == (r.id + 1)) (raftI4 r) (congrArg V.bool (by grind [raftI4])) ?_
             refine At.done rfl ⟨rfl, ?_⟩
             exact Sub.cut [(101, 101)] [false, true, false, true, true] 5 _ (by kernel_rfl) (by kernel_rfl) (by kernel_rfl) (by kernel_rfl)
           refine At.sB 79 _ _ (sayF h16) ?_
           refine At.a 10 ?_
           refine At.sB 5 false (raftI4 r) (congrArg V.bool (by grind [raftI4])) ?_
           refine At.done rfl ⟨rfl, ?_⟩
           exact Sub.cut [(101, 101)] [false, true, false, true, true] 5 _ (by kernel_rfl) (by kernel_rfl) (by kernel_rfl) (by kernel_rfl)
         refine AW.r ?_
         refine At.a 2 ?_
         by_cases h17 : (raftI4 r) = true
         · refine At.sB 90 (raftI4 r) true (sayB h17) ?_
           refine At.a 5 ?_
           refine At.sI 95 ((r.hard.log.length : Int) + 1) (by omega) ?_
           refine At.c (impl_numbersIn_spec  r.next 0 1 ((r.hard.log.length : Int) + 1) (by omega)) Tryz.call73 true [] [] [] trivial ?_
           refine At.a 2 ?_
           by_cases h18 : (allIn 1 ((r.hard.log.length : Int) + 1) r.next && ((r.next.length : Int) == 0)) = true
           · refine At.sB 98 (allIn 1 ((r.hard.log.length : Int) + 1) r.next && ((r.next.length : Int) == 0)) true (sayB h18) ?_
             refine At.a 4 ?_
             refine At.c (impl_numbersIn_spec  r.match_ 0 0 (r.hard.log.length : Int) (by omega)) Tryz.call73 true [] [] [] trivial ?_
             refine At.z 2 ?_
             exact AW.ret (rf (k1 (K_impl_RaftOk _ r) (show (allIn 0 (r.hard.log.length : Int) r.match_ && ((r.match_.length : Int) == 0)) = (raftOk r) from by grind [raft_all, raftOk3, allIn_zero]) (KF.n [])))
           refine At.sB 98 (allIn 1 ((r.hard.log.length : Int) + 1) r.next && ((r.next.length : Int) == 0)) false (sayB (Bool.eq_false_iff.2 h18)) ?_
           replace h18 := Bool.eq_false_iff.2 h18
           refine At.z 7 ?_
           exact AW.ret (rf (k1 (K_impl_RaftOk _ r) (show (false) = (raftOk r) from by grind [raft_all, raftOk3, allIn_zero]) (KF.n [])))
         refine At.sB 90 (raftI4 r) false (sayB (Bool.eq_false_iff.2 h17)) ?_
         replace h17 := Bool.eq_false_iff.2 h17
         refine At.z 15 ?_
         exact AW.ret (rf (k1 (K_impl_RaftOk _ r) (show (false) = (raftOk r) from by grind [raft_all, raftOk3, allIn_zero]) (KF.n [])))
       refine At.sB 35 (!(hardOk r.hard)) true (sayNT (sayB (Bool.eq_false_iff.2 h4))) ?_
       replace h4 := Bool.eq_false_iff.2 h4
       refine At.z 6 ?_
       refine AW.cond true (by kernel_rfl) (fun _ => ?_) (fun h => by cases h)
       refine AW.q 1 ?_
       exact AW.ret (rf (k1 (K_impl_RaftOk _ r) (show (false) = (raftOk r) from by grind [raft_all, raftOk3, allIn_zero]) (KF.n [])))
     refine At.sB 29 (!(inR r.role 1 3)) true (sayNT (sayB (Bool.eq_false_iff.2 h3))) ?_
     replace h3 := Bool.eq_false_iff.2 h3
     refine At.z 12 ?_
     refine AW.cond true (by kernel_rfl) (fun _ => ?_) (fun h => by cases h)
     refine AW.q 1 ?_
     exact AW.ret (rf (k1 (K_impl_RaftOk _ r) (show (false) = (raftOk r) from by grind [raft_all, raftOk3, allIn_zero]) (KF.n [])))
   refine At.sB 23 (!(inR r.id 0 (r.of_ - 1))) true (sayNT (sayB (Bool.eq_false_iff.2 h2))) ?_
   replace h2 := Bool.eq_false_iff.2 h2
   refine At.z 18 ?_
   refine AW.cond true (by kernel_rfl) (fun _ => ?_) (fun h => by cases h)
   refine AW.q 1 ?_
   exact AW.ret (rf (k1 (K_impl_RaftOk _ r) (show (false) = (raftOk r) from by grind [raft_all, raftOk3, allIn_zero]) (KF.n [])))
 refine At.sB 14 (!(ofOk r.of_)) true (sayNT (sayB (Bool.eq_false_iff.2 h1))) ?_
 replace h1 := Bool.eq_false_iff.2 h1
 refine At.z 27 ?_
 refine AW.cond true (by kernel_rfl) (fun _ => ?_) (fun h => by cases h)
 refine AW.q 1 ?_
 exact AW.ret (rf (k1 (K_impl_RaftOk _ r) (show (false) = (raftOk r) from by grind [raft_all, raftOk3, allIn_zero]) (KF.n [])))
def K_impl_stepper_none (rs : List ResultVar) (s : Stepper) (w0_ : Raft) : Exit → Sg → Prop := KF Tryz.prog 7 rs (.tup [.agg [.int .i64 w0_.id, .int .i64 w0_.of_, .int .i64 w0_.role, .int .i64 w0_.commit, .int .i64 w0_.hard.term, .int .i64 w0_.hard.vote, .ref 7, .ref 8, .ref 9, .ref 10], .ref 11, .ref 12]) [.box 102 [.int .i64 s.r.id, .int .i64 s.r.of_, .int .i64 s.r.role, .int .i64 s.r.commit, .int .i64 s.r.hard.term, .int .i64 s.r.hard.vote, .ref 1, .ref 2, .ref 3, .ref 4, .int .i64 s.was.id, .int .i64 s.was.of_, .int .i64 s.was.role, .int .i64 s.was.commit, .int .i64 s.was.hard.term, .int .i64 s.was.hard.vote, .sl false 6 (s.was.hard.log.map encEnt), .sl false 1 (s.was.yes.map encI), .sl false 1 (s.was.next.map encI), .sl false 1 (s.was.match_.map encI), .ref 5, .ref 6], .arr 45 6 (s.r.hard.log.map encEnt), .arr 3 1 (s.r.yes.map encI), .arr 3 1 (s.r.next.map encI), .arr 3 1 (s.r.match_.map encI), .arr 47 10 (s.recs.map encRec), .arr 51 17 (s.outs.map encOut), .arr 45 6 (w0_.hard.log.map encEnt), .arr 3 1 (w0_.yes.map encI), .arr 3 1 (w0_.next.map encI), .arr 3 1 (w0_.match_.map encI), .arr 47 10 [], .arr 51 17 []]
theorem impl_stepper_none_spec  (s : Stepper) (hz : SmallR s.was) : FnSpec Tryz.prog 88 [.ptr 0 0 0] [.box 102 [.int .i64 s.r.id, .int .i64 s.r.of_, .int .i64 s.r.role, .int .i64 s.r.commit, .int .i64 s.r.hard.term, .int .i64 s.r.hard.vote, .ref 1, .ref 2, .ref 3, .ref 4, .int .i64 s.was.id, .int .i64 s.was.of_, .int .i64 s.was.role, .int .i64 s.was.commit, .int .i64 s.was.hard.term, .int .i64 s.was.hard.vote, .sl false 6 (s.was.hard.log.map encEnt), .sl false 1 (s.was.yes.map encI), .sl false 1 (s.was.next.map encI), .sl false 1 (s.was.match_.map encI), .ref 5, .ref 6], .arr 45 6 (s.r.hard.log.map encEnt), .arr 3 1 (s.r.yes.map encI), .arr 3 1 (s.r.next.map encI), .arr 3 1 (s.r.match_.map encI), .arr 47 10 (s.recs.map encRec), .arr 51 17 (s.outs.map encOut)] (.tup [.agg [.int .i64 ((same s.was).id), .int .i64 ((same s.was).of_), .int .i64 ((same s.was).role), .int .i64 ((same s.was).commit), .int .i64 ((same s.was).hard.term), .int .i64 ((same s.was).hard.vote), .ref 7, .ref 8, .ref 9, .ref 10], .ref 11, .ref 12]) [.box 102 [.int .i64 s.r.id, .int .i64 s.r.of_, .int .i64 s.r.role, .int .i64 s.r.commit, .int .i64 s.r.hard.term, .int .i64 s.r.hard.vote, .ref 1, .ref 2, .ref 3, .ref 4, .int .i64 s.was.id, .int .i64 s.was.of_, .int .i64 s.was.role, .int .i64 s.was.commit, .int .i64 s.was.hard.term, .int .i64 s.was.hard.vote, .sl false 6 (s.was.hard.log.map encEnt), .sl false 1 (s.was.yes.map encI), .sl false 1 (s.was.next.map encI), .sl false 1 (s.was.match_.map encI), .ref 5, .ref 6], .arr 45 6 (s.r.hard.log.map encEnt), .arr 3 1 (s.r.yes.map encI), .arr 3 1 (s.r.next.map encI), .arr 3 1 (s.r.match_.map encI), .arr 47 10 (s.recs.map encRec), .arr 51 17 (s.outs.map encOut), .arr 45 6 (((same s.was).hard.log).map encEnt), .arr 3 1 (((same s.was).yes).map encI), .arr 3 1 (((same s.was).next).map encI), .arr 3 1 (((same s.was).match_).map encI), .arr 47 10 [], .arr 51 17 []] := by
 obtain ⟨z1, z2, z3, z4⟩ := id hz
 refine FnSpec.of 17 Tryz.func88 rfl Tryz.ntmps88 (by simp) (AW.weakK ?_)
 refine AW.q 3 ?_
 refine AW.seq ?_
 refine AW.seq ?_
 refine AW.weak (Sub.nils [⟨true, 102, some 6, 5001, 45, 6⟩, ⟨true, 102, some 7, 5002, 3, 1⟩, ⟨true, 102, some 8, 5003, 3, 1⟩, ⟨true, 102, some 9, 5004, 3, 1⟩] (by kernel_rfl)) ?_
 refine AW.g ?_
 refine At.a 4 ?_
 refine At.c (impl_RaftOk_spec  s.was hz) Tryz.call19 true [] [] [] trivial ?_
 refine At.z 1 ?_
 refine AW.cNB (raftOk s.was) (fun h1 => ?_) (fun h1 => ?_)
 · refine AW.q 4 ?_
   refine AW.ret ?_
   refine ⟨_, Sub.nils [⟨true, 102, some 6, 5005, 45, 6⟩, ⟨true, 102, some 7, 5006, 3, 1⟩, ⟨true, 102, some 8, 5007, 3, 1⟩, ⟨true, 102, some 9, 5008, 3, 1⟩, ⟨false, 3, none, 5009, 47, 10⟩, ⟨false, 4, none, 5010, 51, 17⟩] (by kernel_rfl), ?_⟩
   exact k1 (K_impl_stepper_none _ s) (show ((⟨0, 0, 0, 0, ⟨0, 0, []⟩, [], [], []⟩ : Raft)) = (same s.was) from by simp only [same, h1, if_true] <;> rfl) (KF.n [(0, 0), (1, 1), (2, 2), (3, 3), (4, 4), (5, 5), (6, 6), (5005, 7), (5006, 8), (5007, 9), (5008, 10), (5009, 11), (5010, 12)])
 have h1n := raftOk1_nums (raftOk_1 h1)
 refine AW.skip ?_
 refine AW.r ?_
 refine At.a 4 ?_
 refine At.c (impl_copyRaft_spec  s.was hz) Tryz.call157 true [] [(1320, 0), (1321, 1), (1322, 2), (1323, 3)] [] trivial ?_
 refine At.z 3 ?_
 refine AW.ret ?_
 refine ⟨_, Sub.nils [⟨false, 3, none, 5011, 47, 10⟩, ⟨false, 4, none, 5012, 51, 17⟩] (by kernel_rfl), ?_⟩
 exact k1 (K_impl_stepper_none _ s) (show (s.was) = (same s.was) from by simp only [same, h1, if_true] <;> rfl) (KF.n [(0, 0), (1, 1), (2, 2), (3, 3), (4, 4), (5, 5), (6, 6), (1320, 7), (1321, 8), (1322, 9), (1323, 10), (5011, 11), (5012, 12)])
theorem impl_stepper_none_T_spec  (s : Stepper) (hz : SmallR s.was) (hok : raftOk s.was = true) : FnSpec Tryz.prog 88 [.ptr 0 0 0] [.box 102 [.int .i64 s.r.id, .int .i64 s.r.of_, .int .i64 s.r.role, .int .i64 s.r.commit, .int .i64 s.r.hard.term, .int .i64 s.r.hard.vote, .ref 1, .ref 2, .ref 3, .ref 4, .int .i64 s.was.id, .int .i64 s.was.of_, .int .i64 s.was.role, .int .i64 s.was.commit, .int .i64 s.was.hard.term, .int .i64 s.was.hard.vote, .sl false 6 (s.was.hard.log.map encEnt), .sl false 1 (s.was.yes.map encI), .sl false 1 (s.was.next.map encI), .sl false 1 (s.was.match_.map encI), .ref 5, .ref 6], .arr 45 6 (s.r.hard.log.map encEnt), .arr 3 1 (s.r.yes.map encI), .arr 3 1 (s.r.next.map encI), .arr 3 1 (s.r.match_.map encI), .arr 47 10 (s.recs.map encRec), .arr 51 17 (s.outs.map encOut)] (.tup [.agg [.int .i64 s.was.id, .int .i64 s.was.of_, .int .i64 s.was.role, .int .i64 s.was.commit, .int .i64 s.was.hard.term, .int .i64 s.was.hard.vote, .ref 7, .ref 8, .ref 9, .ref 10], .ref 11, .ref 12]) [.box 102 [.int .i64 s.r.id, .int .i64 s.r.of_, .int .i64 s.r.role, .int .i64 s.r.commit, .int .i64 s.r.hard.term, .int .i64 s.r.hard.vote, .ref 1, .ref 2, .ref 3, .ref 4, .int .i64 s.was.id, .int .i64 s.was.of_, .int .i64 s.was.role, .int .i64 s.was.commit, .int .i64 s.was.hard.term, .int .i64 s.was.hard.vote, .sl false 6 (s.was.hard.log.map encEnt), .sl false 1 (s.was.yes.map encI), .sl false 1 (s.was.next.map encI), .sl false 1 (s.was.match_.map encI), .ref 5, .ref 6], .arr 45 6 (s.r.hard.log.map encEnt), .arr 3 1 (s.r.yes.map encI), .arr 3 1 (s.r.next.map encI), .arr 3 1 (s.r.match_.map encI), .arr 47 10 (s.recs.map encRec), .arr 51 17 (s.outs.map encOut), .arr 45 6 (s.was.hard.log.map encEnt), .arr 3 1 (s.was.yes.map encI), .arr 3 1 (s.was.next.map encI), .arr 3 1 (s.was.match_.map encI), .arr 47 10 [], .arr 51 17 []] := by have := impl_stepper_none_spec s hz; rw [show same s.was = s.was from if_pos hok] at this; exact this
theorem impl_stepper_none_F_spec  (s : Stepper) (hz : SmallR s.was) (hok : ¬ raftOk s.was = true) : FnSpec Tryz.prog 88 [.ptr 0 0 0] [.box 102 [.int .i64 s.r.id, .int .i64 s.r.of_, .int .i64 s.r.role, .int .i64 s.r.commit, .int .i64 s.r.hard.term, .int .i64 s.r.hard.vote, .ref 1, .ref 2, .ref 3, .ref 4, .int .i64 s.was.id, .int .i64 s.was.of_, .int .i64 s.was.role, .int .i64 s.was.commit, .int .i64 s.was.hard.term, .int .i64 s.was.hard.vote, .sl false 6 (s.was.hard.log.map encEnt), .sl false 1 (s.was.yes.map encI), .sl false 1 (s.was.next.map encI), .sl false 1 (s.was.match_.map encI), .ref 5, .ref 6], .arr 45 6 (s.r.hard.log.map encEnt), .arr 3 1 (s.r.yes.map encI), .arr 3 1 (s.r.next.map encI), .arr 3 1 (s.r.match_.map encI), .arr 47 10 (s.recs.map encRec), .arr 51 17 (s.outs.map encOut)] (.tup [.agg [.int .i64 0, .int .i64 0, .int .i64 0, .int .i64 0, .int .i64 0, .int .i64 0, .ref 7, .ref 8, .ref 9, .ref 10], .ref 11, .ref 12]) [.box 102 [.int .i64 s.r.id, .int .i64 s.r.of_, .int .i64 s.r.role, .int .i64 s.r.commit, .int .i64 s.r.hard.term, .int .i64 s.r.hard.vote, .ref 1, .ref 2, .ref 3, .ref 4, .int .i64 s.was.id, .int .i64 s.was.of_, .int .i64 s.was.role, .int .i64 s.was.commit, .int .i64 s.was.hard.term, .int .i64 s.was.hard.vote, .sl false 6 (s.was.hard.log.map encEnt), .sl false 1 (s.was.yes.map encI), .sl false 1 (s.was.next.map encI), .sl false 1 (s.was.match_.map encI), .ref 5, .ref 6], .arr 45 6 (s.r.hard.log.map encEnt), .arr 3 1 (s.r.yes.map encI), .arr 3 1 (s.r.next.map encI), .arr 3 1 (s.r.match_.map encI), .arr 47 10 (s.recs.map encRec), .arr 51 17 (s.outs.map encOut), .arr 45 6 [], .arr 3 1 [], .arr 3 1 [], .arr 3 1 [], .arr 47 10 [], .arr 51 17 []] := by have := impl_stepper_none_spec s hz; rw [show same s.was = zRaft from if_neg hok] at this; exact this
theorem bits_Mul64_spec  (x : Int) (y : Int) (hx : 0 ≤ x ∧ x ≤ 1048576) (hy : 0 ≤ y ∧ y ≤ 1048576) (hp : 0 ≤ x * y ∧ x * y ≤ 4294967295) : FnSpec Tryz.prog 194 [.int .u64 x, .int .u64 y] [] (.tup [.int .u64 0, .int .u64 (x * y)]) [] := by
 refine FnSpec.of 51 Tryz.func194 rfl Tryz.ntmps194 (by simp) (AW.weakK ?_)
 refine AW.q 2 ?_
 refine AW.r ?_
 refine At.a 1 ?_
 refine At.bits (t := 182) (u := 182) (d := 15) (op := .and) (x := .tmp 14) (y := .const (.int .u64 4294967295)) (kd := .u64) (a := x) (b := 4294967295) x (by kernel_rfl) (by kernel_rfl) (by kernel_rfl) (by kernel_rfl) (and32 (by omega) (by omega)) ?_
 refine At.z 1 ?_
 refine AW.r ?_
 refine At.a 1 ?_
 refine At.shift (t := 182) (u := 162) (d := 17) (op := .shr) (x := .tmp 16) (y := .const (.int .u64 32)) (kd := .u64) (kd' := .u64) (a := x) (b := 32) 0 (by kernel_rfl) (by kernel_rfl) (by kernel_rfl) (by kernel_rfl) (by omega) (shr32 (by omega) (by omega)) ?_
 refine At.z 1 ?_
 refine AW.r ?_
 refine At.a 1 ?_
 refine At.bits (t := 182) (u := 182) (d := 19) (op := .and) (x := .tmp 18) (y := .const (.int .u64 4294967295)) (kd := .u64) (a := y) (b := 4294967295) y (by kernel_rfl) (by kernel_rfl) (by kernel_rfl) (by kernel_rfl) (and32 (by omega) (by omega)) ?_
 refine At.z 1 ?_
 refine AW.r ?_
 refine At.a 1 ?_
 refine At.shift (t := 182) (u := 162) (d := 21) (op := .shr) (x := .tmp 20) (y := .const (.int .u64 32)) (kd := .u64) (kd' := .u64) (a := y) (b := 32) 0 (by kernel_rfl) (by kernel_rfl) (by kernel_rfl) (by kernel_rfl) (by omega) (shr32 (by omega) (by omega)) ?_
 refine At.z 1 ?_
 refine AW.r ?_
 refine At.a 3 ?_
 refine At.say 24 (.int .u64 (IntKind.u64.wrap (x * y))) (.int .u64 (x * y)) (by kernel_rfl) (sayU _ (by omega)) ?_
 refine At.z 1 ?_
 refine AW.r ?_
 refine At.a 3 ?_
 refine At.say 27 (.int .u64 (IntKind.u64.wrap (0 * y))) (.int .u64 0) (by kernel_rfl) (sayUs (Int.zero_mul _) (by omega)) ?_
 refine At.a 1 ?_
 refine At.shift (t := 182) (u := 162) (d := 29) (op := .shr) (x := .tmp 28) (y := .const (.int .u64 32)) (kd := .u64) (kd' := .u64) (a := x * y) (b := 32) 0 (by kernel_rfl) (by kernel_rfl) (by kernel_rfl) (by kernel_rfl) (by omega) (shr32 (by omega) (by omega)) ?_
 refine At.a 1 ?_
 refine At.say 30 (.int .u64 (IntKind.u64.wrap (0 + 0))) (.int .u64 0) (by kernel_rfl) (sayU _ (by omega)) ?_
 refine At.z 1 ?_
 refine AW.r ?_
 refine At.a 1 ?_
 refine At.bits (t := 182) (u := 182) (d := 32) (op := .and) (x := .tmp 31) (y := .const (.int .u64 4294967295)) (kd := .u64) (a := 0) (b := 4294967295) 0 (by kernel_rfl) (by kernel_rfl) (by kernel_rfl) (by kernel_rfl) (and32 (by omega) (by omega)) ?_
 refine At.z 1 ?_
 refine AW.r ?_
 refine At.a 1 ?_
 refine At.shift (t := 182) (u := 162) (d := 34) (op := .shr) (x := .tmp 33) (y := .const (.int .u64 32)) (kd := .u64) (kd' := .u64) (a := 0) (b := 32) 0 (by kernel_rfl) (by kernel_rfl) (by kernel_rfl) (by kernel_rfl) (by omega) (shr32 (by omega) (by omega)) ?_
 refine At.z 1 ?_
 refine AW.r ?_
 refine At.a 4 ?_
 refine At.say 38 (.int .u64 (IntKind.u64.wrap (x * 0))) (.int .u64 0) (by kernel_rfl) (sayUs (Int.mul_zero _) (by omega)) ?_
 refine At.a 1 ?_
 refine At.say 39 (.int .u64 (IntKind.u64.wrap (0 + 0))) (.int .u64 0) (by kernel_rfl) (sayU _ (by omega)) ?_
 refine At.z 1 ?_
 refine AW.r ?_
 refine At.a 3 ?_
 refine At.say 42 (.int .u64 (IntKind.u64.wrap (0 * 0))) (.int .u64 0) (by kernel_rfl) (sayU _ (by omega)) ?_
 refine At.a 2 ?_
 refine At.say 44 (.int .u64 (IntKind.u64.wrap (0 + 0))) (.int .u64 0) (by kernel_rfl) (sayU _ (by omega)) ?_
 refine At.a 1 ?_
 refine At.shift (t := 182) (u := 162) (d := 46) (op := .shr) (x := .tmp 45) (y := .const (.int .u64 32)) (kd := .u64) (kd' := .u64) (a := 0) (b := 32) 0 (by kernel_rfl) (by kernel_rfl) (by kernel_rfl) (by kernel_rfl) (by omega) (shr32 (by omega) (by omega)) ?_
 refine At.a 1 ?_
 refine At.say 47 (.int .u64 (IntKind.u64.wrap (0 + 0))) (.int .u64 0) (by kernel_rfl) (sayU _ (by omega)) ?_
 refine At.z 1 ?_
 refine AW.r ?_
 refine At.a 3 ?_
 refine At.say 50 (.int .u64 (IntKind.u64.wrap (x * y))) (.int .u64 (x * y)) (by kernel_rfl) (sayU _ (by omega)) ?_
 refine At.z 1 ?_
 exact AW.ret (rf (KF.n []))
theorem bits_Mul_spec  (x : Int) (y : Int) (hx : 0 ≤ x ∧ x ≤ 1048576) (hy : 0 ≤ y ∧ y ≤ 1048576) (hp : 0 ≤ x * y ∧ x * y ≤ 4294967295) : FnSpec Tryz.prog 177 [.int .u64 x, .int .u64 y] [] (.tup [.int .u64 0, .int .u64 (x * y)]) [] := by
 refine FnSpec.of 30 Tryz.func177 rfl Tryz.ntmps177 (by simp) (AW.weakK ?_)
 refine AW.q 2 ?_
 refine AW.seq ?_
 refine AW.cond false (by kernel_rfl) (fun h => by cases h) (fun _ => ?_)
 refine AW.skip ?_
 refine AW.r ?_
 refine At.a 2 ?_
 refine At.c (bits_Mul64_spec  x y hx hy hp) Tryz.call194 true [] [] [] trivial ?_
 refine At.z 5 ?_
 refine AW.q 4 ?_
 exact AW.ret (rf (KF.n []))
theorem slices_Repeat_spec  (x : List Int) (count : Int) (hx : x.length = 1) (hc : 1 ≤ count ∧ count ≤ 1048576) : FnSpec Tryz.prog 159 [.sl false 1 (x.map encI), .int .i64 count] [] (.ref 0) [.arr 3 1 ((repl x count).map encI)] := by
 have hxi : (x.length : Int) = 1 := by omega
 have hp : (x.length : Int) * count = count := by rw [hxi]; omega
 refine FnSpec.of 48 Tryz.func159 rfl Tryz.ntmps159 (by simp) (AW.weakK ?_)
 refine AW.q 1 ?_
 refine AW.seq ?_
 refine AW.q 2 ?_
 refine AW.condF (decide (count < 0)) (by kernel_rfl) (decide_eq_false (by omega)) ?_
 refine AW.skip ?_
 refine AW.r ?_
 refine At.a 2 ?_
 refine At.sL 14 encI x ?_
 refine At.conv (s := 3) (t := 162) (d := 15) (x := .tmp 14) (kd := .i64) (kd' := .u64) (a := (x.length : Int)) (.int .u64 (x.length : Int)) (by kernel_rfl) (by kernel_rfl) (by kernel_rfl) (by kernel_rfl) (sayU _ (by omega)) ?_
 refine At.a 1 ?_
 refine At.conv (s := 3) (t := 162) (d := 17) (x := .tmp 16) (kd := .i64) (kd' := .u64) (a := count) (.int .u64 count) (by kernel_rfl) (by kernel_rfl) (by kernel_rfl) (by kernel_rfl) (sayU _ (by omega)) ?_
 refine At.c (bits_Mul_spec  (x.length : Int) count (by omega) (by omega) (by rw [hp]; omega)) Tryz.call177 true [] [] [] trivial ?_
 refine At.z 5 ?_
 refine AW.seq ?_
 refine AW.q 6 ?_
 refine AW.condF (decide (((x.length : Int) * count) > 9223372036854775807)) (by kernel_rfl) (decide_eq_false (by omega)) ?_
 refine AW.skip ?_
 refine AW.r ?_
 refine At.a 1 ?_
 refine At.conv (s := 162) (t := 3) (d := 29) (x := .tmp 28) (kd := .u64) (kd' := .i64) (a := (x.length : Int) * count) (.int .i64 ((count.toNat : Nat) : Int)) (by kernel_rfl) (by kernel_rfl) (by kernel_rfl) (by kernel_rfl) (sayAs (hp.trans (by omega)) (by omega)) ?_
 refine At.make (t := 27) (d := 30) (e := 3) (es := 1) (bytes := 8) (x := .tmp 29) (y := .tmp 29) (ka := .i64) (kb := .i64) (zs := [.int .i64 0]) 130 count.toNat ((List.replicate count.toNat 0).map encI) (by kernel_rfl) (by kernel_rfl) (by kernel_rfl) (by kernel_rfl) (by kernel_rfl) (by omega) (by omega) (by rw [List.map_replicate]; rfl) ?_
 refine At.z 1 ?_
 refine AW.r ?_
 refine At.a 2 ?_
 refine At.copy (t := 27) (t2 := 27) (d := 33) (e := 3) (es := 1) (i := 130) (off := 0) (m := ((List.replicate count.toNat 0).map encI).length) (x := .tmp 31) (y := .tmp 32) (S := .ref 130) (T := .sl false 1 (x.map encI)) (xs := ((List.replicate count.toNat 0).map encI)) (ys := (x.map encI)) 1 ((List.replicate 1 (x.headD 0) ++ List.replicate (count.toNat - 1) (0 : Int)).map encI) (by kernel_rfl) (by kernel_rfl) (by kernel_rfl) (by kernel_rfl) (.inl ⟨rfl, rfl, rfl⟩) (by kernel_rfl) ⟨rfl, rfl, (allP_encI _), rfl⟩ (allP_encI _) (by simp only [List.length_map, List.length_replicate, hx]; omega) (repl_start hx (by omega)) ?_
 refine At.z 1 ?_
 refine AW.seq ?_
 refine AW.block ?_
 refine AW.loopW (fun (k : Nat) => Go.Sy.mk [.un, .un, .un, .un, .un, .un, .un, .ref 130, .int .i64 (k : Int)] [(130, .arr 3 1 ((List.replicate k (x.headD 0) ++ List.replicate (count.toNat - k) (0 : Int)).map encI))]) (fun (k : Nat) => 1 ≤ k ∧ k ≤ count.toNat) (fun (k : Nat) => count.toNat - k) 1 ⟨by omega, by omega⟩ (Sub.o [(130, 130)] [false, false, false, false, false, false, false, true, true]) ?_
 rintro k ⟨hk1, hk2⟩
 have hl : (List.replicate k (x.headD 0) ++ List.replicate (count.toNat - k) (0 : Int)).length = count.toNat := (by rw [List.length_append, List.length_replicate, List.length_replicate]; omega)
 refine AW.seq ?_
 refine AW.r ?_
 refine At.a 3 ?_
 refine At.sL 36 encI (List.replicate k (x.headD 0) ++ List.replicate (count.toNat - k) (0 : Int)) ?_
 refine At.z 1 ?_
 refine AW.cD ((k : Int) < ((List.replicate k (x.headD 0) ++ List.replicate (count.toNat - k) (0 : Int)).length : Int)) (fun h1 => ?_) (fun h1 => ?_)
 · refine AW.skip ?_
   refine AW.block ?_
   refine AW.gD Tryz_mix ?_
   refine At.a 3 ?_
   refine At.sliceRef (t := 27) (d := 41) (e := 3) (es := 1) (i := 130) (x := .tmp 39) (lx := some (.tmp 40)) (hx := none) (xs := ((List.replicate k (x.headD 0) ++ List.replicate (count.toNat - k) (0 : Int)).map encI)) (vl := .int .i64 (k : Int)) (vh := .un) k ((List.replicate k (x.headD 0) ++ List.replicate (count.toNat - k) (0 : Int)).length) (by kernel_rfl) (by kernel_rfl) (by kernel_rfl) (by kernel_rfl) (by kernel_rfl) (.inr ⟨_, _, rfl, rfl⟩) (.inl ⟨rfl, (List.length_map _).symm⟩) (by omega) (by simp only [List.length_map]; omega) ?_
   refine At.a 2 ?_
   refine At.sliceRef (t := 27) (d := 44) (e := 3) (es := 1) (i := 130) (x := .tmp 42) (lx := none) (hx := some (.tmp 43)) (xs := ((List.replicate k (x.headD 0) ++ List.replicate (count.toNat - k) (0 : Int)).map encI)) (vl := .un) (vh := .int .i64 (k : Int)) 0 k (by kernel_rfl) (by kernel_rfl) (by kernel_rfl) (by kernel_rfl) (by kernel_rfl) (.inl ⟨rfl, rfl⟩) (.inr ⟨_, _, rfl, rfl⟩) (by omega) (by simp only [List.length_map]; omega) ?_
   refine At.copy (t := 27) (t2 := 27) (d := 45) (e := 3) (es := 1) (i := 130) (off := k) (m := ((List.replicate k (x.headD 0) ++ List.replicate (count.toNat - k) (0 : Int)).length) - k) (x := .tmp 41) (y := .tmp 44) (S := .sub 130 k (((List.replicate k (x.headD 0) ++ List.replicate (count.toNat - k) (0 : Int)).length) - k)) (T := .sub 130 0 (k - 0)) (xs := ((List.replicate k (x.headD 0) ++ List.replicate (count.toNat - k) (0 : Int)).map encI)) (ys := (((List.replicate k (x.headD 0) ++ List.replicate (count.toNat - k) (0 : Int)).map encI).drop 0).take (k - 0)) (min k (count.toNat - k)) ((List.replicate (k + min k (count.toNat - k)) (x.headD 0) ++ List.replicate (count.toNat - (k + min k (count.toNat - k))) (0 : Int)).map encI) (by kernel_rfl) (by kernel_rfl) (by kernel_rfl) (by kernel_rfl) (.inr rfl) (by kernel_rfl) ⟨((List.replicate k (x.headD 0) ++ List.replicate (count.toNat - k) (0 : Int)).map encI), by kernel_rfl, by rw [List.length_map]; (first | omega | (simp only [List.length_append, List.length_replicate]; omega)), rfl, by rw [← List.map_drop, ← List.map_take]; exact (allP_encI _), rfl⟩ (allP_encI _) (by simp only [List.length_map, List.length_append, List.length_replicate, List.length_take, List.length_drop]; omega) (repl_step (by omega)) ?_
   refine At.a 1 ?_
   refine At.sI 46 ((k : Int) + ((min k (count.toNat - k) : Nat) : Int)) (by omega) ?_
   refine At.zD 1 ?_
   exact ⟨k + min k (count.toNat - k), ⟨by omega, by omega⟩, (by omega), Sub.o [(130, 130)] [false, false, false, false, false, false, false, true, true]⟩
 refine AW.exit ?_
 refine AW.q 2 ?_
 refine AW.ret ?_
 refine ⟨_, Sub.refl _ _, ?_⟩
 refine KF.conv (fun w => .ref 0) (fun w => [.arr 3 1 (w.map encI)]) (show (List.replicate k (x.headD 0) ++ List.replicate (count.toNat - k) (0 : Int)) = (repl x count) from by have hk : k = count.toNat := (by omega); rw [hk, Nat.sub_self]; simp [repl]) ?_
 exact KF.n [(130, 0)]
theorem impl_stepper_put_spec  (s : Stepper) (e : Ent) (hl : s.r.hard.log.length ≤ 1048576) (hr : s.recs.length ≤ 1048576) : FnSpec Tryz.prog 102 [.ptr 0 0 0, .agg [.int .i64 e.term, .int .i64 e.cmd.kind, .int .i64 e.cmd.release, .int .i64 e.cmd.node, .int .i64 e.cmd.size, .str e.cmd.digest]] [.box 102 [.int .i64 s.r.id, .int .i64 s.r.of_, .int .i64 s.r.role, .int .i64 s.r.commit, .int .i64 s.r.hard.term, .int .i64 s.r.hard.vote, .ref 1, .ref 2, .ref 3, .ref 4, .int .i64 s.was.id, .int .i64 s.was.of_, .int .i64 s.was.role, .int .i64 s.was.commit, .int .i64 s.was.hard.term, .int .i64 s.was.hard.vote, .sl false 6 (s.was.hard.log.map encEnt), .sl false 1 (s.was.yes.map encI), .sl false 1 (s.was.next.map encI), .sl false 1 (s.was.match_.map encI), .ref 5, .ref 6], .arr 45 6 (s.r.hard.log.map encEnt), .arr 3 1 (s.r.yes.map encI), .arr 3 1 (s.r.next.map encI), .arr 3 1 (s.r.match_.map encI), .arr 47 10 (s.recs.map encRec), .arr 51 17 (s.outs.map encOut)] (.tup []) [.box 102 [.int .i64 s.r.id, .int .i64 s.r.of_, .int .i64 s.r.role, .int .i64 s.r.commit, .int .i64 s.r.hard.term, .int .i64 s.r.hard.vote, .ref 7, .ref 2, .ref 3, .ref 4, .int .i64 s.was.id, .int .i64 s.was.of_, .int .i64 s.was.role, .int .i64 s.was.commit, .int .i64 s.was.hard.term, .int .i64 s.was.hard.vote, .sl false 6 (s.was.hard.log.map encEnt), .sl false 1 (s.was.yes.map encI), .sl false 1 (s.was.next.map encI), .sl false 1 (s.was.match_.map encI), .ref 8, .ref 6], .dead, .arr 3 1 (s.r.yes.map encI), .arr 3 1 (s.r.next.map encI), .arr 3 1 (s.r.match_.map encI), .dead, .arr 51 17 (s.outs.map encOut), .arr 45 6 ((s.r.hard.log ++ [e]).map encEnt), .arr 47 10 ((s.recs ++ [(⟨2, 0, 0, ((s.r.hard.log ++ [e]).length : Int), e⟩ : Rec)]).map encRec)] := by
 refine FnSpec.of 36 Tryz.func102 rfl Tryz.ntmps102 (by simp) (AW.weakK ?_)
 refine AW.q 1 ?_
 refine AW.seq ?_
 refine AW.gD Tryz_mix ?_
 refine At.a 8 ?_
 refine At.ll 12 45 6 112 (45, 6) (([e]).map encEnt) ?_
 refine At.apK 13 45 6 56 113 1 112 encEnt s.r.hard.log ([e]) (by simp only [List.length_map, List.length_append, List.length_take, List.length_drop, List.length_replicate, List.length_set, List.length_cons, List.length_nil]; omega) ?_
 refine At.zD 5 ?_
 refine AW.gD Tryz_mix ?_
 refine At.a 12 ?_
 refine At.sL 29 encEnt (s.r.hard.log ++ ([e])) ?_
 refine At.a 2 ?_
 refine At.ll 32 47 10 132 (45, 6) (([(⟨2, 0, 0, ((s.r.hard.log ++ ([e])).length : Int), e⟩ : Rec)]).map encRec) ?_
 refine At.apK 33 47 10 88 133 5 132 encRec s.recs ([(⟨2, 0, 0, ((s.r.hard.log ++ ([e])).length : Int), e⟩ : Rec)]) (by simp only [List.length_map, List.length_append, List.length_take, List.length_drop, List.length_replicate, List.length_set, List.length_cons, List.length_nil]; omega) ?_
 refine At.zD 3 ?_
 refine ⟨_, Sub.refl _ _, ?_⟩
 refine KF.conv (fun w => .tup []) (fun w => [.box 102 [.int .i64 w.r.id, .int .i64 w.r.of_, .int .i64 w.r.role, .int .i64 w.r.commit, .int .i64 w.r.hard.term, .int .i64 w.r.hard.vote, .ref 7, .ref 2, .ref 3, .ref 4, .int .i64 w.was.id, .int .i64 w.was.of_, .int .i64 w.was.role, .int .i64 w.was.commit, .int .i64 w.was.hard.term, .int .i64 w.was.hard.vote, .sl false 6 (w.was.hard.log.map encEnt), .sl false 1 (w.was.yes.map encI), .sl false 1 (w.was.next.map encI), .sl false 1 (w.was.match_.map encI), .ref 8, .ref 6], .dead, .arr 3 1 (w.r.yes.map encI), .arr 3 1 (w.r.next.map encI), .arr 3 1 (w.r.match_.map encI), .dead, .arr 51 17 (w.outs.map encOut), .arr 45 6 (w.r.hard.log.map encEnt), .arr 47 10 (w.recs.map encRec)]) (show ((⟨⟨s.r.id, s.r.of_, s.r.role, s.r.commit, ⟨s.r.hard.term, s.r.hard.vote, s.r.hard.log ++ ([e])⟩, s.r.yes, s.r.next, s.r.match_⟩, s.was, s.recs ++ ([(⟨2, 0, 0, ((s.r.hard.log ++ ([e])).length : Int), e⟩ : Rec)]), s.outs⟩ : Stepper)) = (({ s with r := ({ s.r with hard := { s.r.hard with log := s.r.hard.log ++ [e] } } : Raft), recs := s.recs ++ [(⟨2, 0, 0, ((s.r.hard.log ++ [e]).length : Int), e⟩ : Rec)] } : Stepper)) from by rfl) ?_
 exact KF.n [(0, 0), (1, 1), (2, 2), (3, 3), (4, 4), (5, 5), (6, 6), (113, 7), (133, 8)]
def K_impl_stepper_had (rs : List ResultVar) (s : Stepper) (w0_ : Stepper) : Exit → Sg → Prop := KF Tryz.prog 7 rs (.tup []) [.box 102 [.int .i64 w0_.r.id, .int .i64 w0_.r.of_, .int .i64 w0_.r.role, .int .i64 w0_.r.commit, .int .i64 w0_.r.hard.term, .int .i64 w0_.r.hard.vote, .ref 1, .ref 2, .ref 3, .ref 4, .int .i64 w0_.was.id, .int .i64 w0_.was.of_, .int .i64 w0_.was.role, .int .i64 w0_.was.commit, .int .i64 w0_.was.hard.term, .int .i64 w0_.was.hard.vote, .sl false 6 (w0_.was.hard.log.map encEnt), .sl false 1 (w0_.was.yes.map encI), .sl false 1 (w0_.was.next.map encI), .sl false 1 (w0_.was.match_.map encI), .ref 5, .ref 6], .arr 45 6 (w0_.r.hard.log.map encEnt), .arr 3 1 (w0_.r.yes.map encI), .arr 3 1 (w0_.r.next.map encI), .arr 3 1 (w0_.r.match_.map encI), .arr 47 10 (w0_.recs.map encRec), .arr 51 17 (w0_.outs.map encOut)]
theorem impl_stepper_had_spec  (s : Stepper) (hi : 0 ≤ s.r.id ∧ s.r.id < s.r.match_.length) : FnSpec Tryz.prog 103 [.ptr 0 0 0] [.box 102 [.int .i64 s.r.id, .int .i64 s.r.of_, .int .i64 s.r.role, .int .i64 s.r.commit, .int .i64 s.r.hard.term, .int .i64 s.r.hard.vote, .ref 1, .ref 2, .ref 3, .ref 4, .int .i64 s.was.id, .int .i64 s.was.of_, .int .i64 s.was.role, .int .i64 s.was.commit, .int .i64 s.was.hard.term, .int .i64 s.was.hard.vote, .sl false 6 (s.was.hard.log.map encEnt), .sl false 1 (s.was.yes.map encI), .sl false 1 (s.was.next.map encI), .sl false 1 (s.was.match_.map encI), .ref 5, .ref 6], .arr 45 6 (s.r.hard.log.map encEnt), .arr 3 1 (s.r.yes.map encI), .arr 3 1 (s.r.next.map encI), .arr 3 1 (s.r.match_.map encI), .arr 47 10 (s.recs.map encRec), .arr 51 17 (s.outs.map encOut)] (.tup []) [.box 102 [.int .i64 s.r.id, .int .i64 s.r.of_, .int .i64 s.r.role, .int .i64 (if s.r.of_ = 1 then (s.r.hard.log.length : Int) else s.r.commit), .int .i64 s.r.hard.term, .int .i64 s.r.hard.vote, .ref 1, .ref 2, .ref 3, .ref 4, .int .i64 s.was.id, .int .i64 s.was.of_, .int .i64 s.was.role, .int .i64 s.was.commit, .int .i64 s.was.hard.term, .int .i64 s.was.hard.vote, .sl false 6 (s.was.hard.log.map encEnt), .sl false 1 (s.was.yes.map encI), .sl false 1 (s.was.next.map encI), .sl false 1 (s.was.match_.map encI), .ref 5, .ref 6], .arr 45 6 (s.r.hard.log.map encEnt), .arr 3 1 (s.r.yes.map encI), .arr 3 1 (s.r.next.map encI), .arr 3 1 ((s.r.match_.set (s.r.id).toNat (s.r.hard.log.length : Int)).map encI), .arr 47 10 (s.recs.map encRec), .arr 51 17 (s.outs.map encOut)] := by
 refine FnSpec.of 33 Tryz.func103 rfl Tryz.ntmps103 (by simp) (AW.weakK ?_)
 refine AW.r ?_
 refine At.a 7 ?_
 refine At.sL 9 encEnt s.r.hard.log ?_
 refine At.z 1 ?_
 refine AW.seq ?_
 refine AW.gD Tryz_mix ?_
 refine At.a 11 ?_
 refine At.iRf 27 21 (.tmp 14) (.tmp 19) 4 (s.r.match_.map encI) .i64 s.r.id 3 1 (by omega) (by simp only [List.length_map]; omega) ?_
 refine Exists.elim (gE s.r.match_ ((s.r.id).toNat) (by omega)) fun e1 he1 => ?_
 refine At.sEl 3 4 3 1 ((s.r.id).toNat) 0 (.tmp 21) (.tmp 20) (s.r.match_.map encI) ((s.r.match_.set ((s.r.id).toNat) (s.r.hard.log.length : Int)).map encI) [.int .i64 (s.r.hard.log.length : Int)] (.int .i64 (s.r.hard.log.length : Int)) (encI e1) (encI (s.r.hard.log.length : Int)) (mapGet he1) setV ?_
 refine At.done rfl ⟨by kernel_rfl, ?_⟩
 refine AW.q 6 ?_
 refine AW.cE s.r.of_ (1 : Int) (fun h1 => ?_) (fun h1 => ?_)
 · refine AW.gq 6 ?_
   exact rf (k1 (K_impl_stepper_had _ s) (show ((⟨⟨s.r.id, s.r.of_, s.r.role, (s.r.hard.log.length : Int), ⟨s.r.hard.term, s.r.hard.vote, s.r.hard.log⟩, s.r.yes, s.r.next, s.r.match_.set ((s.r.id).toNat) (s.r.hard.log.length : Int)⟩, s.was, s.recs, s.outs⟩ : Stepper)) = (({ s with r := ({ s.r with match_ := s.r.match_.set (s.r.id).toNat (s.r.hard.log.length : Int), commit := if s.r.of_ = 1 then (s.r.hard.log.length : Int) else s.r.commit } : Raft) } : Stepper)) from by simp [had, h1]) (KF.n [(0, 0), (1, 1), (2, 2), (3, 3), (4, 4), (5, 5), (6, 6)]))
 refine AW.skip ?_
 exact rf (k1 (K_impl_stepper_had _ s) (show ((⟨⟨s.r.id, s.r.of_, s.r.role, s.r.commit, ⟨s.r.hard.term, s.r.hard.vote, s.r.hard.log⟩, s.r.yes, s.r.next, s.r.match_.set ((s.r.id).toNat) (s.r.hard.log.length : Int)⟩, s.was, s.recs, s.outs⟩ : Stepper)) = (({ s with r := ({ s.r with match_ := s.r.match_.set (s.r.id).toNat (s.r.hard.log.length : Int), commit := if s.r.of_ = 1 then (s.r.hard.log.length : Int) else s.r.commit } : Raft) } : Stepper)) from by simp [had, h1]) (KF.n [(0, 0), (1, 1), (2, 2), (3, 3), (4, 4), (5, 5), (6, 6)]))
theorem impl_stepper_message_spec  (s : Stepper) (kind : Int) : FnSpec Tryz.prog 114 [.ptr 0 0 0, .int .i64 kind] [.box 102 [.int .i64 s.r.id, .int .i64 s.r.of_, .int .i64 s.r.role, .int .i64 s.r.commit, .int .i64 s.r.hard.term, .int .i64 s.r.hard.vote, .ref 1, .ref 2, .ref 3, .ref 4, .int .i64 s.was.id, .int .i64 s.was.of_, .int .i64 s.was.role, .int .i64 s.was.commit, .int .i64 s.was.hard.term, .int .i64 s.was.hard.vote, .sl false 6 (s.was.hard.log.map encEnt), .sl false 1 (s.was.yes.map encI), .sl false 1 (s.was.next.map encI), .sl false 1 (s.was.match_.map encI), .ref 5, .ref 6], .arr 45 6 (s.r.hard.log.map encEnt), .arr 3 1 (s.r.yes.map encI), .arr 3 1 (s.r.next.map encI), .arr 3 1 (s.r.match_.map encI), .arr 47 10 (s.recs.map encRec), .arr 51 17 (s.outs.map encOut)] (.agg [.int .i64 kind, .int .i64 s.r.id, .int .i64 s.r.hard.term, .int .i64 0, .int .i64 0, .int .i64 0, .bool false, .int .i64 0, .int .i64 0, .str (⟨#[]⟩), .int .i64 0, .int .i64 0, .int .i64 0, .int .i64 0, .str (⟨#[]⟩), .ref 7]) [.box 102 [.int .i64 s.r.id, .int .i64 s.r.of_, .int .i64 s.r.role, .int .i64 s.r.commit, .int .i64 s.r.hard.term, .int .i64 s.r.hard.vote, .ref 1, .ref 2, .ref 3, .ref 4, .int .i64 s.was.id, .int .i64 s.was.of_, .int .i64 s.was.role, .int .i64 s.was.commit, .int .i64 s.was.hard.term, .int .i64 s.was.hard.vote, .sl false 6 (s.was.hard.log.map encEnt), .sl false 1 (s.was.yes.map encI), .sl false 1 (s.was.next.map encI), .sl false 1 (s.was.match_.map encI), .ref 5, .ref 6], .arr 45 6 (s.r.hard.log.map encEnt), .arr 3 1 (s.r.yes.map encI), .arr 3 1 (s.r.next.map encI), .arr 3 1 (s.r.match_.map encI), .arr 47 10 (s.recs.map encRec), .arr 51 17 (s.outs.map encOut), .arr 45 6 []] := by
 refine FnSpec.of 18 Tryz.func114 rfl Tryz.ntmps114 (by simp) (AW.weakK ?_)
 refine AW.q 1 ?_
 refine AW.seq ?_
 refine AW.weak (Sub.nils [⟨true, 104, some 15, 5001, 45, 6⟩] (by kernel_rfl)) ?_
 refine AW.gD Tryz_mix ?_
 refine At.zD 14 ?_
 refine AW.ret ?_
 refine ⟨_, Sub.nils [⟨true, 104, some 15, 5002, 45, 6⟩] (by kernel_rfl), ?_⟩
 refine KF.conv (fun w => .agg [.int .i64 w.kind, .int .i64 w.from_, .int .i64 w.term, .int .i64 w.at_, .int .i64 w.atTerm, .int .i64 w.commit, .bool w.yes, .int .i64 w.release, .int .i64 w.part, .str w.bytes, .int .i64 w.cmd.kind, .int .i64 w.cmd.release, .int .i64 w.cmd.node, .int .i64 w.cmd.size, .str w.cmd.digest, .ref 7]) (fun w => [.box 102 [.int .i64 s.r.id, .int .i64 s.r.of_, .int .i64 s.r.role, .int .i64 s.r.commit, .int .i64 s.r.hard.term, .int .i64 s.r.hard.vote, .ref 1, .ref 2, .ref 3, .ref 4, .int .i64 s.was.id, .int .i64 s.was.of_, .int .i64 s.was.role, .int .i64 s.was.commit, .int .i64 s.was.hard.term, .int .i64 s.was.hard.vote, .sl false 6 (s.was.hard.log.map encEnt), .sl false 1 (s.was.yes.map encI), .sl false 1 (s.was.next.map encI), .sl false 1 (s.was.match_.map encI), .ref 5, .ref 6], .arr 45 6 (s.r.hard.log.map encEnt), .arr 3 1 (s.r.yes.map encI), .arr 3 1 (s.r.next.map encI), .arr 3 1 (s.r.match_.map encI), .arr 47 10 (s.recs.map encRec), .arr 51 17 (s.outs.map encOut), .arr 45 6 (w.entries.map encEnt)]) (show ((⟨kind, s.r.id, s.r.hard.term, 0, 0, 0, false, 0, 0, (⟨#[]⟩ : ByteArray), ⟨0, 0, 0, 0, (⟨#[]⟩ : ByteArray)⟩, []⟩ : Msg)) = ((⟨kind, s.r.id, s.r.hard.term, 0, 0, 0, false, 0, 0, ⟨#[]⟩, ⟨0, 0, 0, 0, ⟨#[]⟩⟩, []⟩ : Msg)) from rfl) ?_
 exact KF.n [(0, 0), (1, 1), (2, 2), (3, 3), (4, 4), (5, 5), (6, 6), (5002, 7)]
theorem impl_termAt_spec  (l : List Ent) (at_ : Int) (hl : l.length ≤ 1048576) (ha : 0 ≤ at_ ∧ at_ ≤ l.length) : FnSpec Tryz.prog 158 [.sl false 6 (l.map encEnt), .int .i64 at_] [] (.int .i64 (termAt l at_)) [] := by
 refine FnSpec.of 13 Tryz.func158 rfl Tryz.ntmps158 (by simp) (AW.weakK ?_)
 refine AW.q 1 ?_
 refine AW.seq ?_
 refine AW.q 2 ?_
 refine AW.cE at_ (0 : Int) (fun h1 => ?_) (fun h1 => ?_)
 · refine AW.q 1 ?_
   refine AW.ret ?_
   refine ⟨_, Sub.refl _ _, ?_⟩
   refine KF.conv (fun w => .int .i64 w) (fun w => []) (show (0) = (termAt l at_) from by unfold termAt; first | (rw [if_pos (by omega)]; done) | (rw [if_neg (by omega), he1]; rfl)) ?_
   exact KF.n []
 refine AW.skip ?_
 refine AW.r ?_
 refine At.a 3 ?_
 refine At.sI 9 (at_ - 1) (by omega) ?_
 refine At.iSl 24 10 (.tmp 7) (.tmp 9) false 6 (l.map encEnt) .i64 (at_ - 1) 45 (by omega) (by simp only [List.length_map]; omega) ?_
 refine At.a 1 ?_
 refine Exists.elim (gE l ((at_ - 1).toNat) (by omega)) fun e1 he1 => ?_
 refine At.lVp 3 12 (.tmp 11) false 6 (l.map encEnt) ((at_ - 1).toNat) 0 false 1 (encEnt e1) (.int .i64 e1.term) (mapGet he1) ?_
 refine At.z 1 ?_
 refine AW.ret ?_
 refine ⟨_, Sub.refl _ _, ?_⟩
 refine KF.conv (fun w => .int .i64 w) (fun w => []) (show (e1.term) = (termAt l at_) from by unfold termAt; first | (rw [if_pos (by omega)]; done) | (rw [if_neg (by omega), he1]; rfl)) ?_
 exact KF.n []
end Go.Proofs.YtlmadhahghiedaaGreat
