/- The contracts of the functions that FnRecsTell reaches (each: what it answers, said over values), printed by a program of this session (wip/sy/g/gen.py). -/
import Derived.Test.YtocjgmdfocaamaaGreatFFnRecsTell3
set_option linter.unusedVariables false
set_option linter.unusedSimpArgs false
set_option maxRecDepth 100000
set_option maxHeartbeats 4000000
namespace Go.Proofs.YtocjgmdfocaamaaGreat
open Go Go.Sy Go.Proofs
theorem spec_l10Made_spec (c : Cur) (r : Raft) (kind : Int) (hp : 0 ≤ c.pos ∧ c.pos ≤ c.data.length ∧ c.data.length ≤ 1048576) (hr : NodeNums r) : ∃ rho_ : Int × Int × Msg, (0 ≤ rho_.1 ∧ rho_.1 ≤ c.data.length ∧ rho_.2.2.entries.length ≤ 100) ∧ FnSpec Tryz.prog 20 [.ptr 0 0 0, .agg (rC r (.ref 1) (.ref 2) (.ref 3) (.ref 4)), nI kind] [.box 71 [.sl false 1 (c.data.map encU8), nI c.pos, nI c.seed], .arr 45 6 (r.hard.log.map encEnt), .arr 3 1 (r.yes.map encI), .arr 3 1 (r.next.map encI), .arr 3 1 (r.match_.map encI)] (.agg (mC rho_.2.2 (.ref 5))) [.box 71 [.sl false 1 (c.data.map encU8), nI rho_.1, nI rho_.2.1], .arr 45 6 (r.hard.log.map encEnt), .arr 3 1 (r.yes.map encI), .arr 3 1 (r.next.map encI), .arr 3 1 (r.match_.map encI), .arr 45 6 (rho_.2.2.entries.map encEnt)]:= by
 obtain ⟨n1, n2, n3, n4, z1, z2, z3, z4⟩ := id hr
 have n5 : 1 ≤ r.of_ ∧ r.of_ ≤ 5 := by omega
 clear n1
 refine dv (fun h_ => FnSpec.of 115 Tryz.func20 rfl Tryz.ntmps20 (by simp) (AW.weakK h_)) ?_
 refine dv (AW.q 2 ·) ?_
 refine dv (AW.seq ·) ?_
 refine dv (AW.weak (Sub.nils [⟨true, 106, some 15, 5001, 45, 6⟩] (by kernel_rfl)) ·) ?_
 refine dv (AW.gD Tryz_mix ·) ?_
 refine dv (At.a 4 ·) ?_
 refine dv (At.sI 14 (r.id + 1) (by omega) ·) ?_
 refine dv (At.a 4 ·) ?_
 refine dv (At.sI 18 (r.of_ - 1) (by omega) ·) ?_
 refine dv (At.c (spec_l1Max_spec (r.of_ - 1) 1) Tryz.call19 true [] [] [] trivial ·) ?_
 refine exE (spec_l1Below_spec c (max (r.of_ - 1) 1) (by omega)) fun r1_ qr1_ hr1_ => ?_
 replace qr1_ := bpos qr1_ (by omega)
 try dsimp only at qr1_
 refine dv (At.c (hr1_) Tryz.call45 true [(0, 0)] [] [] trivial ·) ?_
 refine dv (At.a 1 ·) ?_
 refine dv (At.sI 21 ((r.id + 1) + r1_.2.2) (by omega) ·) ?_
 refine dv (At.a 2 ·) ?_
 refine dv (At.c (spec_l1Max_spec r.of_ 1) Tryz.call19 true [] [] [] trivial ·) ?_
 refine dv (At.div (t := 3) (u := 3) (d := 25) (op := .rem) (x := .tmp 21) (y := .tmp 24) (kd := .i64) (a := (r.id + 1) + r1_.2.2) (b := max r.of_ 1) (by kernel_rfl) (by kernel_rfl) (by kernel_rfl) (by kernel_rfl) (by omega) (nI (((r.id + 1) + r1_.2.2).tmod (max r.of_ 1))) (.inr ⟨rfl, rfl⟩) ·) ?_
 refine dv (At.say 25 (nI (((r.id + 1) + r1_.2.2).tmod (max r.of_ 1))) (nI (((r.id + 1) + r1_.2.2) % (max r.of_ 1))) (by kernel_rfl) (sayRem (by omega)) ·) ?_
 refine dv (At.a 4 ·) ?_
 refine exE (spec_l1Below_spec ⟨c.data, r1_.1, r1_.2.1⟩ 4 (by dsimp only; omega)) fun r2_ qr2_ hr2_ => ?_
 replace qr2_ := bpos qr2_ (by decide)
 try dsimp only at qr2_
 refine dv (At.c (hr2_) Tryz.call45 true [(0, 0)] [] [] trivial ·) ?_
 refine dv (At.div (t := 3) (u := 3) (d := 31) (op := .quo) (x := .tmp 30) (y := .const (.int .i64 2)) (kd := .i64) (a := r2_.2.2) (b := 2) (by kernel_rfl) (by kernel_rfl) (by kernel_rfl) (by kernel_rfl) (by omega) (nI (IntKind.i64.wrap (r2_.2.2.tdiv 2))) (.inl ⟨rfl, rfl⟩) ·) ?_
 refine dv (At.say 31 (nI (IntKind.i64.wrap (r2_.2.2.tdiv 2))) (nI (r2_.2.2 / 2)) (by kernel_rfl) (sayQuo (by omega) (by omega) (by omega)) ·) ?_
 refine dv (At.a 1 ·) ?_
 refine dv (At.sI 32 (r.hard.term + (r2_.2.2 / 2)) (by omega) ·) ?_
 refine dv (At.zD 3 ·) ?_
 refine dv (AW.seq ·) ?_
 refine dv (AW.weak (Sub.nils [⟨true, 107, some 15, 5002, 45, 6⟩] (by kernel_rfl)) ·) ?_
 refine dv (AW.g ·) ?_
 refine dv (At.a 4 ·) ?_
 refine dv (At.sL 37 encEnt r.hard.log ·) ?_
 refine dv (At.z 1 ·) ?_
 refine dv (AW.seq ·) ?_
 refine dv (AW.q 1 ·) ?_
 refine dv (AW.block ·) ?_
 refine dv (AW.q 2 ·) ?_
 by_cases h1 : kind = 1
 · refine dv (AW.cT (kind == 1) (beq_iff_eq.2 h1) ·) ?_
   refine dv (AW.r ·) ?_
   refine dv (At.a 2 ·) ?_
   refine exE (spec_l1Below_spec ⟨c.data, r2_.1, r2_.2.1⟩ 3 (by dsimp only; omega)) fun r3_ qr3_ hr3_ => ?_
   replace qr3_ := bpos qr3_ (by decide)
   try dsimp only at qr3_
   refine dv (At.c (hr3_) Tryz.call45 true [(0, 0)] [] [] trivial ·) ?_
   refine dv (At.a 1 ·) ?_
   refine dv (At.sI 44 ((r.hard.log.length : Int) + r3_.2.2) (by omega) ·) ?_
   refine dv (At.a 1 ·) ?_
   refine dv (At.sI 45 (((r.hard.log.length : Int) + r3_.2.2) - 1) (by omega) ·) ?_
   refine dv (At.c (spec_l1Max_spec (((r.hard.log.length : Int) + r3_.2.2) - 1) 0) Tryz.call19 true [] [] [] trivial ·) ?_
   refine dv (At.z 2 ·) ?_
   refine dv (AW.g ·) ?_
   refine dv (At.a 3 ·) ?_
   refine dv (At.c (spec_l10Term_spec r.hard (r.hard.log.length : Int) (by omega)) Tryz.call49 false [] [] [(1, 6, (r.hard.log.map encEnt))] ⟨rfl, ⟨45, (r.hard.log.map encEnt), by kernel_rfl, FrzIs.same (allP_encEnt _)⟩, trivial⟩ ·) ?_
   refine dv (At.a 1 ·) ?_
   refine exE (spec_l1Below_spec ⟨c.data, r3_.1, r3_.2.1⟩ 3 (by dsimp only; omega)) fun r4_ qr4_ hr4_ => ?_
   replace qr4_ := bpos qr4_ (by decide)
   try dsimp only at qr4_
   refine dv (At.c (hr4_) Tryz.call45 true [(0, 0)] [] [] trivial ·) ?_
   refine dv (At.div (t := 3) (u := 3) (d := 54) (op := .quo) (x := .tmp 53) (y := .const (.int .i64 2)) (kd := .i64) (a := r4_.2.2) (b := 2) (by kernel_rfl) (by kernel_rfl) (by kernel_rfl) (by kernel_rfl) (by omega) (nI (IntKind.i64.wrap (r4_.2.2.tdiv 2))) (.inl ⟨rfl, rfl⟩) ·) ?_
   refine dv (At.say 54 (nI (IntKind.i64.wrap (r4_.2.2.tdiv 2))) (nI (r4_.2.2 / 2)) (by kernel_rfl) (sayQuo (by omega) (by omega) (by omega)) ·) ?_
   refine dv (At.z 3 ·) ?_
   refine dv (AW.q 2 ·) ?_
   refine dv (AW.ret ·) ?_
   refine dv (⟨_, Sub.refl _ _, ·⟩) ?_
   exact ⟨(r4_.1, r4_.2.1, (⟨kind, ((r.id + 1) + r1_.2.2) % (max r.of_ 1), r.hard.term + (r2_.2.2 / 2), max (((r.hard.log.length : Int) + r3_.2.2) - 1) 0, IntKind.i64.wrap ((termAt r.hard.log (r.hard.log.length : Int)) + (r4_.2.2 / 2)), 0, false, 0, 0, eB, ⟨0, 0, 0, 0, eB⟩, []⟩ : Msg)), (by (try dsimp only); (try simp only [List.length_nil]); omega), KF.n [(0, 0), (1, 1), (2, 2), (3, 3), (4, 4), (5002, 5)]⟩
 refine dv (AW.cF (kind == 1) (beq_eq_false_iff_ne.2 h1) ·) ?_
 refine dv (AW.q 2 ·) ?_
 by_cases h2 : kind = 2
 · refine dv (AW.cT (kind == 2) (beq_iff_eq.2 h2) ·) ?_
   refine dv (AW.g ·) ?_
   refine dv (At.a 1 ·) ?_
   refine exE (spec_l1Once_spec ⟨c.data, r2_.1, r2_.2.1⟩ 4 (by dsimp only; omega)) fun r3_ qr3_ hr3_ => ?_
   try dsimp only at qr3_
   refine dv (At.c (hr3_) Tryz.call18 true [(0, 0)] [] [] trivial ·) ?_
   refine dv (At.z 3 ·) ?_
   refine dv (AW.q 2 ·) ?_
   refine dv (AW.ret ·) ?_
   refine dv (⟨_, Sub.refl _ _, ·⟩) ?_
   exact ⟨(r3_.1, r3_.2.1, (⟨kind, ((r.id + 1) + r1_.2.2) % (max r.of_ 1), r.hard.term + (r2_.2.2 / 2), 0, 0, 0, !r3_.2.2, 0, 0, eB, ⟨0, 0, 0, 0, eB⟩, []⟩ : Msg)), (by (try dsimp only); (try simp only [List.length_nil]); omega), KF.n [(0, 0), (1, 1), (2, 2), (3, 3), (4, 4), (5002, 5)]⟩
 refine dv (AW.cF (kind == 2) (beq_eq_false_iff_ne.2 h2) ·) ?_
 refine dv (AW.q 2 ·) ?_
 by_cases h3 : kind = 3
 · refine dv (AW.cT (kind == 3) (beq_iff_eq.2 h3) ·) ?_
   refine dv (AW.r ·) ?_
   refine dv (At.a 3 ·) ?_
   refine dv (At.sI 67 ((r.hard.log.length : Int) + 2) (by omega) ·) ?_
   refine exE (spec_l1Below_spec ⟨c.data, r2_.1, r2_.2.1⟩ ((r.hard.log.length : Int) + 2) (by dsimp only; omega)) fun r3_ qr3_ hr3_ => ?_
   replace qr3_ := bpos qr3_ (by omega)
   try dsimp only at qr3_
   refine dv (At.c (hr3_) Tryz.call45 true [(0, 0)] [] [] trivial ·) ?_
   refine dv (At.z 2 ·) ?_
   refine dv (AW.r ·) ?_
   refine dv (At.a 4 ·) ?_
   refine dv (At.c (spec_l10Term_spec r.hard r3_.2.2 (by omega)) Tryz.call49 false [] [] [(1, 6, (r.hard.log.map encEnt))] ⟨rfl, ⟨45, (r.hard.log.map encEnt), by kernel_rfl, FrzIs.same (allP_encEnt _)⟩, trivial⟩ ·) ?_
   refine dv (At.z 2 ·) ?_
   refine dv (AW.r ·) ?_
   refine dv (At.a 3 ·) ?_
   refine dv (At.sI 78 ((r.hard.log.length : Int) + 2) (by omega) ·) ?_
   refine exE (spec_l1Below_spec ⟨c.data, r3_.1, r3_.2.1⟩ ((r.hard.log.length : Int) + 2) (by dsimp only; omega)) fun r4_ qr4_ hr4_ => ?_
   replace qr4_ := bpos qr4_ (by omega)
   try dsimp only at qr4_
   refine dv (At.c (hr4_) Tryz.call45 true [(0, 0)] [] [] trivial ·) ?_
   refine dv (At.z 2 ·) ?_
   refine dv (AW.r ·) ?_
   refine dv (At.a 2 ·) ?_
   refine dv (At.c (spec_l1Max_spec (termAt r.hard.log r3_.2.2) 1) Tryz.call19 true [] [] [] trivial ·) ?_
   refine dv (At.z 1 ·) ?_
   refine dv (AW.q 1 ·) ?_
   refine dv (AW.block ·) ?_
   refine DW.loopQ (fun (x : Nat × List Ent × Int × Int × Int) => match x with | (k, l, p2, s2, tt) => Go.Sy.mk [.ptr 0 0 0, .un, .un, .un, .un, .un, .ptr 106 0 0, .ptr 107 0 0, .un, nI tt, nI (k : Int)] [(0, .box 71 [.sl false 1 (c.data.map encU8), nI p2, nI s2]), (1, .arr 45 6 (r.hard.log.map encEnt)), (2, .arr 3 1 (r.yes.map encI)), (3, .arr 3 1 (r.next.map encI)), (4, .arr 3 1 (r.match_.map encI)), (106, .box 33 [nI 0, nI 0, nI 0, nI 0, nI 0, nI 0, .bool false, nI 0, nI 0, .str eB, nI 0, nI 0, nI 0, nI 0, .str eB, .ref 5001]), (107, .box 33 [nI kind, nI (((r.id + 1) + r1_.2.2) % (max r.of_ 1)), nI (r.hard.term + (r2_.2.2 / 2)), nI r3_.2.2, nI (termAt r.hard.log r3_.2.2), nI r4_.2.2, .bool false, nI 0, nI 0, .str eB, nI 0, nI 0, nI 0, nI 0, .str eB, .ref 5002]), (5001, .arr 45 6 []), (5002, .arr 45 6 (l.map encEnt))]) (fun (k, l, p2, s2, tt) => k ≤ 3 ∧ l.length ≤ k ∧ (0 ≤ p2 ∧ p2 ≤ c.data.length)) (fun (k, l, p2, s2, tt) => 3 - k) (0, [], r4_.1, r4_.2.1, (max (termAt r.hard.log r3_.2.2) 1)) (by dsimp only; (try simp only [List.length_nil]); omega) (Sub.o (dg [0, 1, 2, 3, 4, 106, 107, 5001, 5002]) (bs 11 1729)) ?_
   rintro ⟨k, l, p2, s2, tt⟩ hl ih1
   refine dv (AW.seq ·) ?_
   refine dv (AW.r ·) ?_
   refine dv (At.a 2 ·) ?_
   refine exE (spec_l1Below_spec ⟨c.data, p2, s2⟩ 4 (by dsimp only; omega)) fun r5_ qr5_ hr5_ => ?_
   replace qr5_ := bpos qr5_ (by decide)
   try dsimp only at qr5_
   refine dv (At.c (hr5_) Tryz.call45 true [(0, 0)] [] [] trivial ·) ?_
   refine dv (At.z 1 ·) ?_
   by_cases h4 : (k : Int) < r5_.2.2
   · refine dv (AW.dT h4 ·) ?_
     refine dv (AW.skip ·) ?_
     refine dv (AW.seq ·) ?_
     refine dv (AW.block ·) ?_
     refine dv (AW.seq ·) ?_
     refine dv (AW.r ·) ?_
     refine dv (At.a 1 ·) ?_
     refine exE (spec_l1Once_spec ⟨c.data, r5_.1, r5_.2.1⟩ 3 (by dsimp only; omega)) fun r6_ qr6_ hr6_ => ?_
     try dsimp only at qr6_
     refine dv (At.c (hr6_) Tryz.call18 true [(0, 0)] [] [] trivial ·) ?_
     refine dv (At.done rfl ·) ?_
     by_cases h5 : r6_.2.2 = true
     · refine dv (AW.cT (r6_.2.2) h5 ·) ?_
       refine dv (AW.g ·) ?_
       refine dv (At.a 2 ·) ?_
       refine dv (At.c (spec_l1Max_spec (r.hard.term + (r2_.2.2 / 2)) 1) Tryz.call19 true [] [] [] trivial ·) ?_
       refine dv (At.z 1 ·) ?_
       refine dv (AW.gD Tryz_mix ·) ?_
       refine dv (At.a 4 ·) ?_
       refine exE (spec_l5DrawRight_spec ⟨c.data, r6_.1, r6_.2.1⟩ (by dsimp only; omega)) fun r7_ qr7_ hr7_ => ?_
       try dsimp only at qr7_
       refine dv (At.c (hr7_) Tryz.call21 true [(0, 0)] [] [] trivial ·) ?_
       refine dv (At.a 1 ·) ?_
       refine dv (At.ll 101 45 6 201 (45, 6) (([(⟨max (r.hard.term + (r2_.2.2 / 2)) 1, r7_.2.2⟩ : Ent)]).map encEnt) ·) ?_
       refine dv (At.apK 102 45 6 56 202 5002 201 encEnt l ([(⟨max (r.hard.term + (r2_.2.2 / 2)) 1, r7_.2.2⟩ : Ent)]) (by simp only [List.length_map, lens]; omega) ·) ?_
       refine dv (At.zD 2 ·) ?_
       refine dv (AW.g ·) ?_
       refine dv (At.a 2 ·) ?_
       refine dv (At.sI 89 ((k : Int) + 1) (by omega) ·) ?_
       refine dv (At.z 1 ·) ?_
       exact dw (fun _ h_ => AWL.weak (Sub.o [(0, 0), (1, 1), (2, 2), (3, 3), (4, 4), (106, 106), (107, 107), (5001, 5001), (202, 5002)] (bs 11 1729)) h_) (ih1 (k + 1, (l ++ ([(⟨max (r.hard.term + (r2_.2.2 / 2)) 1, r7_.2.2⟩ : Ent)])), r7_.1, r7_.2.1, (max (r.hard.term + (r2_.2.2 / 2)) 1)) (by dsimp only; (try simp only [lens]); omega) (by simp only; omega))
     replace h5 := Bool.eq_false_iff.2 h5
     refine dv (AW.cF (r6_.2.2) h5 ·) ?_
     refine dv (AW.skip ·) ?_
     refine dv (AW.gD Tryz_mix ·) ?_
     refine dv (At.a 4 ·) ?_
     refine exE (spec_l5DrawRight_spec ⟨c.data, r6_.1, r6_.2.1⟩ (by dsimp only; omega)) fun r7_ qr7_ hr7_ => ?_
     try dsimp only at qr7_
     refine dv (At.c (hr7_) Tryz.call21 true [(0, 0)] [] [] trivial ·) ?_
     refine dv (At.a 1 ·) ?_
     refine dv (At.ll 101 45 6 201 (45, 6) (([(⟨tt, r7_.2.2⟩ : Ent)]).map encEnt) ·) ?_
     refine dv (At.apK 102 45 6 56 202 5002 201 encEnt l ([(⟨tt, r7_.2.2⟩ : Ent)]) (by simp only [List.length_map, lens]; omega) ·) ?_
     refine dv (At.zD 2 ·) ?_
     refine dv (AW.g ·) ?_
     refine dv (At.a 2 ·) ?_
     refine dv (At.sI 89 ((k : Int) + 1) (by omega) ·) ?_
     refine dv (At.z 1 ·) ?_
     exact dw (fun _ h_ => AWL.weak (Sub.o [(0, 0), (1, 1), (2, 2), (3, 3), (4, 4), (106, 106), (107, 107), (5001, 5001), (202, 5002)] (bs 11 1729)) h_) (ih1 (k + 1, (l ++ ([(⟨tt, r7_.2.2⟩ : Ent)])), r7_.1, r7_.2.1, tt) (by dsimp only; (try simp only [lens]); omega) (by simp only; omega))
   refine dv (AW.dF h4 ·) ?_
   refine dv (AW.exit ·) ?_
   refine dv (AW.q 2 ·) ?_
   refine dv (AW.ret ·) ?_
   refine dv (⟨_, Sub.refl _ _, ·⟩) ?_
   exact ⟨(r5_.1, r5_.2.1, (⟨kind, ((r.id + 1) + r1_.2.2) % (max r.of_ 1), r.hard.term + (r2_.2.2 / 2), r3_.2.2, termAt r.hard.log r3_.2.2, r4_.2.2, false, 0, 0, eB, ⟨0, 0, 0, 0, eB⟩, l⟩ : Msg)), (by (try dsimp only); (try simp only [List.length_nil]); omega), KF.n [(0, 0), (1, 1), (2, 2), (3, 3), (4, 4), (5002, 5)]⟩
 refine dv (AW.cF (kind == 3) (beq_eq_false_iff_ne.2 h3) ·) ?_
 refine dv (AW.q 2 ·) ?_
 by_cases h6 : kind = 4
 · refine dv (AW.cT (kind == 4) (beq_iff_eq.2 h6) ·) ?_
   refine dv (AW.r ·) ?_
   refine dv (At.a 1 ·) ?_
   refine exE (spec_l1Once_spec ⟨c.data, r2_.1, r2_.2.1⟩ 2 (by dsimp only; omega)) fun r3_ qr3_ hr3_ => ?_
   try dsimp only at qr3_
   refine dv (At.c (hr3_) Tryz.call18 true [(0, 0)] [] [] trivial ·) ?_
   refine dv (At.z 2 ·) ?_
   refine dv (AW.g ·) ?_
   refine dv (At.a 3 ·) ?_
   refine dv (At.sI 111 ((r.hard.log.length : Int) + 2) (by omega) ·) ?_
   refine exE (spec_l1Below_spec ⟨c.data, r3_.1, r3_.2.1⟩ ((r.hard.log.length : Int) + 2) (by dsimp only; omega)) fun r4_ qr4_ hr4_ => ?_
   replace qr4_ := bpos qr4_ (by omega)
   try dsimp only at qr4_
   refine dv (At.c (hr4_) Tryz.call45 true [(0, 0)] [] [] trivial ·) ?_
   refine dv (At.z 2 ·) ?_
   refine dv (AW.q 2 ·) ?_
   refine dv (AW.ret ·) ?_
   refine dv (⟨_, Sub.refl _ _, ·⟩) ?_
   exact ⟨(r4_.1, r4_.2.1, (⟨kind, ((r.id + 1) + r1_.2.2) % (max r.of_ 1), r.hard.term + (r2_.2.2 / 2), r4_.2.2, 0, 0, r3_.2.2, 0, 0, eB, ⟨0, 0, 0, 0, eB⟩, []⟩ : Msg)), (by (try dsimp only); (try simp only [List.length_nil]); omega), KF.n [(0, 0), (1, 1), (2, 2), (3, 3), (4, 4), (5002, 5)]⟩
 refine dv (AW.cF (kind == 4) (beq_eq_false_iff_ne.2 h6) ·) ?_
 refine dv (AW.skip ·) ?_
 refine dv (AW.q 2 ·) ?_
 refine dv (AW.ret ·) ?_
 refine dv (⟨_, Sub.refl _ _, ·⟩) ?_
 exact ⟨(r2_.1, r2_.2.1, (⟨kind, ((r.id + 1) + r1_.2.2) % (max r.of_ 1), r.hard.term + (r2_.2.2 / 2), 0, 0, 0, false, 0, 0, eB, ⟨0, 0, 0, 0, eB⟩, []⟩ : Msg)), (by (try dsimp only); (try simp only [List.length_nil]); omega), KF.n [(0, 0), (1, 1), (2, 2), (3, 3), (4, 4), (5002, 5)]⟩
theorem spec_l5DrawCmd_spec (c : Cur) (hp : 0 ≤ c.pos ∧ c.pos ≤ c.data.length ∧ c.data.length ≤ 1048576) : ∃ rho_ : Int × Int × Cmd, (0 ≤ rho_.1 ∧ rho_.1 ≤ c.data.length ∧ rho_.2.2.digest.size ≤ 33) ∧ FnSpec Tryz.prog 88 [.ptr 0 0 0] [.box 71 [.sl false 1 (c.data.map encU8), nI c.pos, nI c.seed]] (.agg [nI rho_.2.2.kind, nI rho_.2.2.release, nI rho_.2.2.node, nI rho_.2.2.size, .str rho_.2.2.digest]) [.box 71 [.sl false 1 (c.data.map encU8), nI rho_.1, nI rho_.2.1]]:= by
 refine dv (fun h_ => FnSpec.of 38 Tryz.func88 rfl Tryz.ntmps88 (by simp) (AW.weakK h_)) ?_
 refine dv (AW.q 1 <| AW.r <| At.a 1 ·) ?_
 refine exE (spec_l5DrawRight_spec c (by omega)) fun r1_ qr1_ hr1_ => ?_
 try dsimp only at qr1_
 refine dv (At.c (hr1_) Tryz.call21 true [(0, 0)] [] [] trivial <| At.z 2 <| AW.seq <| AW.r <| At.a 1 ·) ?_
 refine exE (spec_l1Below_spec ⟨c.data, r1_.1, r1_.2.1⟩ 25 (by dsimp only; omega)) fun r2_ qr2_ hr2_ => ?_
 replace qr2_ := bpos qr2_ (by decide)
 try dsimp only at qr2_
 refine dv (At.c (hr2_) Tryz.call45 true [(0, 0)] [] [] trivial <| At.done rfl <| AW.block <| AW.q 2 ·) ?_
 by_cases h1 : r2_.2.2 = 0
 · refine dv (AW.cT (r2_.2.2 == 0) (beq_iff_eq.2 h1) <| AW.g <| At.a 1 ·) ?_
   refine exE (spec_l1Below_spec ⟨c.data, r2_.1, r2_.2.1⟩ 7 (by dsimp only; omega)) fun r3_ qr3_ hr3_ => ?_
   replace qr3_ := bpos qr3_ (by decide)
   try dsimp only at qr3_
   refine dv (At.c (hr3_) Tryz.call45 true [(0, 0)] [] [] trivial <| At.z 2 <| AW.q 2 <| AW.ret ·) ?_
   refine dv (⟨_, Sub.refl _ _, ·⟩) ?_
   exact ⟨(r3_.1, r3_.2.1, (⟨r3_.2.2, r1_.2.2.release, r1_.2.2.node, r1_.2.2.size, r1_.2.2.digest⟩ : Cmd)), (by dsimp only; omega), KF.n [(0, 0)]⟩
 refine dv (AW.cF (r2_.2.2 == 0) (beq_eq_false_iff_ne.2 h1) <| AW.q 2 ·) ?_
 by_cases h2 : r2_.2.2 = 1
 · refine dv (AW.cT (r2_.2.2 == 1) (beq_iff_eq.2 h2) <| AW.g <| At.a 1 <| At.ll 16 3 1 116 (45, 6) (([0, 1000, 1001]).map encI) ·) ?_
   refine exE (spec_l1PickInt_spec ⟨c.data, r2_.1, r2_.2.1⟩ ([0, 1000, 1001]) (by dsimp only; omega) (by decide)) fun r3_ qr3_ hr3_ => ?_
   try dsimp only at qr3_
   refine dv (At.c (hr3_) Tryz.call78 true [(0, 0), (116, 1)] [] [] trivial <| At.z 2 <| AW.q 2 <| AW.ret ·) ?_
   refine dv (⟨_, Sub.refl _ _, ·⟩) ?_
   exact ⟨(r3_.1, r3_.2.1, (⟨r1_.2.2.kind, r3_.2.2, r1_.2.2.node, r1_.2.2.size, r1_.2.2.digest⟩ : Cmd)), (by dsimp only; omega), KF.n [(0, 0)]⟩
 refine dv (AW.cF (r2_.2.2 == 1) (beq_eq_false_iff_ne.2 h2) <| AW.q 2 ·) ?_
 by_cases h3 : r2_.2.2 = 2
 · refine dv (AW.cT (r2_.2.2 == 2) (beq_iff_eq.2 h3) <| AW.g <| At.a 1 <| At.ll 22 3 1 122 (45, 6) (([-1, 4, 5]).map encI) ·) ?_
   refine exE (spec_l1PickInt_spec ⟨c.data, r2_.1, r2_.2.1⟩ ([-1, 4, 5]) (by dsimp only; omega) (by decide)) fun r3_ qr3_ hr3_ => ?_
   try dsimp only at qr3_
   refine dv (At.c (hr3_) Tryz.call78 true [(0, 0), (122, 1)] [] [] trivial <| At.z 2 <| AW.q 2 <| AW.ret ·) ?_
   refine dv (⟨_, Sub.refl _ _, ·⟩) ?_
   exact ⟨(r3_.1, r3_.2.1, (⟨r1_.2.2.kind, r1_.2.2.release, r3_.2.2, r1_.2.2.size, r1_.2.2.digest⟩ : Cmd)), (by dsimp only; omega), KF.n [(0, 0)]⟩
 refine dv (AW.cF (r2_.2.2 == 2) (beq_eq_false_iff_ne.2 h3) <| AW.q 2 ·) ?_
 by_cases h4 : r2_.2.2 = 3
 · refine dv (AW.cT (r2_.2.2 == 3) (beq_iff_eq.2 h4) <| AW.g <| At.a 1 <| At.ll 28 3 1 128 (45, 6) (([-1, 1000, 1001]).map encI) ·) ?_
   refine exE (spec_l1PickInt_spec ⟨c.data, r2_.1, r2_.2.1⟩ ([-1, 1000, 1001]) (by dsimp only; omega) (by decide)) fun r3_ qr3_ hr3_ => ?_
   try dsimp only at qr3_
   refine dv (At.c (hr3_) Tryz.call78 true [(0, 0), (128, 1)] [] [] trivial <| At.z 2 <| AW.q 2 <| AW.ret ·) ?_
   refine dv (⟨_, Sub.refl _ _, ·⟩) ?_
   exact ⟨(r3_.1, r3_.2.1, (⟨r1_.2.2.kind, r1_.2.2.release, r1_.2.2.node, r3_.2.2, r1_.2.2.digest⟩ : Cmd)), (by dsimp only; omega), KF.n [(0, 0)]⟩
 refine dv (AW.cF (r2_.2.2 == 3) (beq_eq_false_iff_ne.2 h4) <| AW.q 2 ·) ?_
 by_cases h5 : r2_.2.2 = 4
 · refine dv (AW.cT (r2_.2.2 == 4) (beq_iff_eq.2 h5) <| AW.g <| At.a 2 ·) ?_
   refine dv (At.cat (t := 9) (u := 9) (d := 35) (x := .tmp 34) (y := .const (.string ⟨#[120]⟩)) (a := r1_.2.2.digest) (b := (⟨#[120]⟩ : ByteArray)) (by kernel_rfl) (by kernel_rfl) (by kernel_rfl) (by kernel_rfl) (by have : (⟨#[120]⟩ : ByteArray).size = 1 := rfl; omega) ·) ?_
   refine dv (At.z 2 <| AW.q 2 <| AW.ret ·) ?_
   refine dv (⟨_, Sub.refl _ _, ·⟩) ?_
   exact ⟨(r2_.1, r2_.2.1, (⟨r1_.2.2.kind, r1_.2.2.release, r1_.2.2.node, r1_.2.2.size, r1_.2.2.digest ++ (⟨#[120]⟩ : ByteArray)⟩ : Cmd)), (by dsimp only; rw [ByteArray.size_append]; have : (⟨#[120]⟩ : ByteArray).size = 1 := rfl; omega), KF.n [(0, 0)]⟩
 refine dv (AW.cF (r2_.2.2 == 4) (beq_eq_false_iff_ne.2 h5) <| AW.skip <| AW.q 2 <| AW.ret ·) ?_
 refine dv (⟨_, Sub.refl _ _, ·⟩) ?_
 exact ⟨(r2_.1, r2_.2.1, r1_.2.2), (by dsimp only; omega), KF.n [(0, 0)]⟩
theorem spec_l8DrawMsg_spec (c : Cur) (hp : 0 ≤ c.pos ∧ c.pos ≤ c.data.length ∧ c.data.length ≤ 1048576) : ∃ rho_ : Int × Int × Msg, (0 ≤ rho_.1 ∧ rho_.1 ≤ c.data.length ∧ rho_.2.2.entries.length ≤ 101) ∧ FnSpec Tryz.prog 47 [.ptr 0 0 0] [.box 71 [.sl false 1 (c.data.map encU8), nI c.pos, nI c.seed]] (.agg (mC rho_.2.2 (.ref 1))) [.box 71 [.sl false 1 (c.data.map encU8), nI rho_.1, nI rho_.2.1], .arr 45 6 (rho_.2.2.entries.map encEnt)]:= by
 refine dv (fun h_ => FnSpec.of 55 Tryz.func47 rfl Tryz.ntmps47 (by simp) (AW.weakK h_)) ?_
 refine dv (AW.q 1 <| AW.seq <| AW.weak (Sub.nils [⟨true, 102, some 15, 5001, 45, 6⟩] (by kernel_rfl)) <| AW.g <| At.a 1 ·) ?_
 refine exE (spec_l8DrawRight_spec c (by omega)) fun r1_ qr1_ hr1_ => ?_
 try dsimp only at qr1_
 refine dv (At.c (hr1_) Tryz.call46 true [(0, 0)] [(1100, 1)] [] trivial <| At.z 2 <| AW.seq <| AW.r <| At.a 1 ·) ?_
 refine exE (spec_l1Below_spec ⟨c.data, r1_.1, r1_.2.1⟩ 25 (by dsimp only; omega)) fun r2_ qr2_ hr2_ => ?_
 replace qr2_ := bpos qr2_ (by decide)
 try dsimp only at qr2_
 refine dv (At.c (hr2_) Tryz.call45 true [(0, 0)] [] [] trivial <| At.done rfl <| AW.block <| AW.q 2 ·) ?_
 by_cases h1 : r2_.2.2 = 0
 · refine dv (AW.cT (r2_.2.2 == 0) (beq_iff_eq.2 h1) <| AW.g <| At.a 1 <| At.ll 11 3 1 111 (45, 6) (([0, 8, 1, 5]).map encI) ·) ?_
   refine exE (spec_l1PickInt_spec ⟨c.data, r2_.1, r2_.2.1⟩ ([0, 8, 1, 5]) (by dsimp only; omega) (by decide)) fun r3_ qr3_ hr3_ => ?_
   try dsimp only at qr3_
   refine dv (At.c (hr3_) Tryz.call78 true [(0, 0), (111, 1)] [] [] trivial <| At.z 2 <| AW.q 2 <| AW.ret ·) ?_
   refine dv (⟨_, Sub.refl _ _, ·⟩) ?_
   exact ⟨(r3_.1, r3_.2.1, (⟨r3_.2.2, r1_.2.2.from_, r1_.2.2.term, r1_.2.2.at_, r1_.2.2.atTerm, r1_.2.2.commit, r1_.2.2.yes, r1_.2.2.release, r1_.2.2.part, r1_.2.2.bytes, r1_.2.2.cmd, r1_.2.2.entries⟩ : Msg)), (by (try dsimp only); (try simp only [lens]); omega), KF.n [(0, 0), (1100, 1)]⟩
 refine dv (AW.cF (r2_.2.2 == 0) (beq_eq_false_iff_ne.2 h1) <| AW.q 2 ·) ?_
 by_cases h2 : r2_.2.2 = 1
 · refine dv (AW.cT (r2_.2.2 == 1) (beq_iff_eq.2 h2) <| AW.g <| At.a 1 <| At.ll 17 3 1 117 (45, 6) (([-1, 4, 5]).map encI) ·) ?_
   refine exE (spec_l1PickInt_spec ⟨c.data, r2_.1, r2_.2.1⟩ ([-1, 4, 5]) (by dsimp only; omega) (by decide)) fun r3_ qr3_ hr3_ => ?_
   try dsimp only at qr3_
   refine dv (At.c (hr3_) Tryz.call78 true [(0, 0), (117, 1)] [] [] trivial <| At.z 2 <| AW.q 2 <| AW.ret ·) ?_
   refine dv (⟨_, Sub.refl _ _, ·⟩) ?_
   exact ⟨(r3_.1, r3_.2.1, (⟨r1_.2.2.kind, r3_.2.2, r1_.2.2.term, r1_.2.2.at_, r1_.2.2.atTerm, r1_.2.2.commit, r1_.2.2.yes, r1_.2.2.release, r1_.2.2.part, r1_.2.2.bytes, r1_.2.2.cmd, r1_.2.2.entries⟩ : Msg)), (by (try dsimp only); (try simp only [lens]); omega), KF.n [(0, 0), (1100, 1)]⟩
 refine dv (AW.cF (r2_.2.2 == 1) (beq_eq_false_iff_ne.2 h2) <| AW.q 2 ·) ?_
 by_cases h3 : r2_.2.2 = 2
 · refine dv (AW.cT (r2_.2.2 == 2) (beq_iff_eq.2 h3) <| AW.g <| At.a 1 <| At.ll 23 3 1 123 (45, 6) (([-1, 80, 81]).map encI) ·) ?_
   refine exE (spec_l1PickInt_spec ⟨c.data, r2_.1, r2_.2.1⟩ ([-1, 80, 81]) (by dsimp only; omega) (by decide)) fun r3_ qr3_ hr3_ => ?_
   try dsimp only at qr3_
   refine dv (At.c (hr3_) Tryz.call78 true [(0, 0), (123, 1)] [] [] trivial <| At.z 2 <| AW.q 2 <| AW.ret ·) ?_
   refine dv (⟨_, Sub.refl _ _, ·⟩) ?_
   exact ⟨(r3_.1, r3_.2.1, (⟨r1_.2.2.kind, r1_.2.2.from_, r1_.2.2.term, r3_.2.2, r1_.2.2.atTerm, r1_.2.2.commit, r1_.2.2.yes, r1_.2.2.release, r1_.2.2.part, r1_.2.2.bytes, r1_.2.2.cmd, r1_.2.2.entries⟩ : Msg)), (by (try dsimp only); (try simp only [lens]); omega), KF.n [(0, 0), (1100, 1)]⟩
 refine dv (AW.cF (r2_.2.2 == 2) (beq_eq_false_iff_ne.2 h3) <| AW.q 2 ·) ?_
 by_cases h4 : r2_.2.2 = 3
 · refine dv (AW.cT (r2_.2.2 == 3) (beq_iff_eq.2 h4) <| AW.g <| At.a 1 ·) ?_
   refine exE (spec_l3DrawText_spec ⟨c.data, r2_.1, r2_.2.1⟩ 17 (by dsimp only; omega) (by omega)) fun r3_ qr3_ hr3_ => ?_
   try dsimp only at qr3_
   refine dv (At.c (hr3_) Tryz.call87 true [(0, 0)] [] [] trivial <| At.z 2 <| AW.q 2 <| AW.ret ·) ?_
   refine dv (⟨_, Sub.refl _ _, ·⟩) ?_
   exact ⟨(r3_.1, r3_.2.1, (⟨r1_.2.2.kind, r1_.2.2.from_, r1_.2.2.term, r1_.2.2.at_, r1_.2.2.atTerm, r1_.2.2.commit, r1_.2.2.yes, r1_.2.2.release, r1_.2.2.part, r3_.2.2, r1_.2.2.cmd, r1_.2.2.entries⟩ : Msg)), (by (try dsimp only); (try simp only [lens]); omega), KF.n [(0, 0), (1100, 1)]⟩
 refine dv (AW.cF (r2_.2.2 == 3) (beq_eq_false_iff_ne.2 h4) <| AW.q 2 ·) ?_
 by_cases h5 : r2_.2.2 = 4
 · refine dv (AW.cT (r2_.2.2 == 4) (beq_iff_eq.2 h5) <| AW.gq 5 <| AW.q 2 <| AW.ret ·) ?_
   refine dv (⟨_, Sub.refl _ _, ·⟩) ?_
   exact ⟨(r2_.1, r2_.2.1, (⟨r1_.2.2.kind, r1_.2.2.from_, r1_.2.2.term, r1_.2.2.at_, r1_.2.2.atTerm, r1_.2.2.commit, !r1_.2.2.yes, r1_.2.2.release, r1_.2.2.part, r1_.2.2.bytes, r1_.2.2.cmd, r1_.2.2.entries⟩ : Msg)), (by (try dsimp only); (try simp only [lens]); omega), KF.n [(0, 0), (1100, 1)]⟩
 refine dv (AW.cF (r2_.2.2 == 4) (beq_eq_false_iff_ne.2 h5) <| AW.q 2 ·) ?_
 by_cases h6 : r2_.2.2 = 5
 · refine dv (AW.cT (r2_.2.2 == 5) (beq_iff_eq.2 h6) <| AW.gD Tryz_mix <| At.a 3 ·) ?_
   refine exE (spec_l1Below_spec ⟨c.data, r2_.1, r2_.2.1⟩ 2 (by dsimp only; omega)) fun r3_ qr3_ hr3_ => ?_
   replace qr3_ := bpos qr3_ (by decide)
   try dsimp only at qr3_
   refine dv (At.c (hr3_) Tryz.call45 true [(0, 0)] [] [] trivial <| At.a 1 ·) ?_
   refine exE (spec_l5DrawCmd_spec ⟨c.data, r3_.1, r3_.2.1⟩ (by dsimp only; omega)) fun r4_ qr4_ hr4_ => ?_
   try dsimp only at qr4_
   refine dv (At.c (hr4_) Tryz.call88 true [(0, 0)] [] [] trivial <| At.a 1 <| At.ll 46 45 6 146 (45, 6) (([(⟨r3_.2.2, r4_.2.2⟩ : Ent)]).map encEnt) ·) ?_
   refine dv (At.apK 47 45 6 56 147 1100 146 encEnt r1_.2.2.entries ([(⟨r3_.2.2, r4_.2.2⟩ : Ent)]) (by simp only [List.length_map, lens]; omega) ·) ?_
   refine dv (At.zD 2 <| AW.q 2 <| AW.ret ·) ?_
   refine dv (⟨_, Sub.refl _ _, ·⟩) ?_
   exact ⟨(r4_.1, r4_.2.1, (⟨r1_.2.2.kind, r1_.2.2.from_, r1_.2.2.term, r1_.2.2.at_, r1_.2.2.atTerm, r1_.2.2.commit, r1_.2.2.yes, r1_.2.2.release, r1_.2.2.part, r1_.2.2.bytes, r1_.2.2.cmd, r1_.2.2.entries ++ ([(⟨r3_.2.2, r4_.2.2⟩ : Ent)])⟩ : Msg)), (by (try dsimp only); (try simp only [lens]); omega), KF.n [(0, 0), (147, 1)]⟩
 refine dv (AW.cF (r2_.2.2 == 5) (beq_eq_false_iff_ne.2 h6) <| AW.q 2 ·) ?_
 by_cases h7 : r2_.2.2 = 6
 · refine dv (AW.cT (r2_.2.2 == 6) (beq_iff_eq.2 h7) <| AW.g <| At.a 1 ·) ?_
   refine exE (spec_l5DrawCmd_spec ⟨c.data, r2_.1, r2_.2.1⟩ (by dsimp only; omega)) fun r3_ qr3_ hr3_ => ?_
   try dsimp only at qr3_
   refine dv (At.c (hr3_) Tryz.call88 true [(0, 0)] [] [] trivial <| At.z 2 <| AW.q 2 <| AW.ret ·) ?_
   refine dv (⟨_, Sub.refl _ _, ·⟩) ?_
   exact ⟨(r3_.1, r3_.2.1, (⟨r1_.2.2.kind, r1_.2.2.from_, r1_.2.2.term, r1_.2.2.at_, r1_.2.2.atTerm, r1_.2.2.commit, r1_.2.2.yes, r1_.2.2.release, r1_.2.2.part, r1_.2.2.bytes, r3_.2.2, r1_.2.2.entries⟩ : Msg)), (by (try dsimp only); (try simp only [lens]); omega), KF.n [(0, 0), (1100, 1)]⟩
 refine dv (AW.cF (r2_.2.2 == 6) (beq_eq_false_iff_ne.2 h7) <| AW.skip <| AW.q 2 <| AW.ret ·) ?_
 refine dv (⟨_, Sub.refl _ _, ·⟩) ?_
 exact ⟨(r2_.1, r2_.2.1, r1_.2.2), (by (try dsimp only); (try simp only [lens]); omega), KF.n [(0, 0), (1100, 1)]⟩
theorem spec_l10Spoil_spec (c : Cur) (r : Raft) (hp : 0 ≤ c.pos ∧ c.pos ≤ c.data.length ∧ c.data.length ≤ 1048576) (hr : raftOk r = true) : ∃ rho_ : Int × Int × Raft, (0 ≤ rho_.1 ∧ rho_.1 ≤ c.data.length ∧ SmallR rho_.2.2) ∧ FnSpec Tryz.prog 48 [.ptr 0 0 0, .agg (rC r (.ref 1) (.ref 2) (.ref 3) (.ref 4))] [.box 71 [.sl false 1 (c.data.map encU8), nI c.pos, nI c.seed], .arr 45 6 (r.hard.log.map encEnt), .arr 3 1 (r.yes.map encI), .arr 3 1 (r.next.map encI), .arr 3 1 (r.match_.map encI)] (.agg (rC rho_.2.2 (.ref 5) (.ref 6) (.ref 7) (.ref 8))) [.box 71 [.sl false 1 (c.data.map encU8), nI rho_.1, nI rho_.2.1], .dead, .dead, .dead, .dead, .arr 45 6 (rho_.2.2.hard.log.map encEnt), .arr 3 1 (rho_.2.2.yes.map encI), .arr 3 1 (rho_.2.2.next.map encI), .arr 3 1 (rho_.2.2.match_.map encI)]:= by
 have hnn := NodeIn.nums (n := r.of_) ⟨hr, rfl⟩
 obtain ⟨z1, z2, z3, z4⟩ := hnn.2.2.2.2.2
 have hnm := raftOk1_nums (raftOk_1 hr)
 have hln := raftOk_lens hr
 refine dv (fun h_ => FnSpec.of 60 Tryz.func48 rfl Tryz.ntmps48 (by simp) (AW.weakK h_)) ?_
 refine dv (AW.q 2 <| AW.seq <| AW.seq <| AW.weak (Sub.nils [⟨true, 104, some 6, 5001, 45, 6⟩, ⟨true, 104, some 7, 5002, 3, 1⟩, ⟨true, 104, some 8, 5003, 3, 1⟩, ⟨true, 104, some 9, 5004, 3, 1⟩] (by kernel_rfl)) <| AW.g <| At.a 1 ·) ?_
 refine exE (spec_l1Below_spec c 40 (by omega)) fun r1_ qr1_ hr1_ => ?_
 replace qr1_ := bpos qr1_ (by decide)
 try dsimp only at qr1_
 refine dv (At.c (hr1_) Tryz.call45 true [(0, 0)] [] [] trivial <| At.done rfl <| AW.block <| AW.q 2 ·) ?_
 by_cases h1 : r1_.2.2 = 0
 · refine dv (AW.cT (r1_.2.2 == 0) (beq_iff_eq.2 h1) <| AW.g <| At.a 1 ·) ?_
   refine exE (spec_l1Below_spec ⟨c.data, r1_.1, r1_.2.1⟩ 5 (by dsimp only; omega)) fun r2_ qr2_ hr2_ => ?_
   replace qr2_ := bpos qr2_ (by decide)
   try dsimp only at qr2_
   refine dv (At.c (hr2_) Tryz.call45 true [(0, 0)] [] [] trivial <| At.z 2 <| AW.q 2 <| AW.ret ·) ?_
   refine dv (⟨_, (Sub.trans (Sub.trans (Sub.trans (Sub.trans (Sub.refl _ _) (Sub.mv 1 8001 (by kernel_rfl) (by decide))) (Sub.mv 2 8002 (by kernel_rfl) (by decide))) (Sub.mv 3 8003 (by kernel_rfl) (by decide))) (Sub.mv 4 8004 (by kernel_rfl) (by decide))), ·⟩) ?_
   exact ⟨(r2_.1, r2_.2.1, (⟨r.id, r.of_, r2_.2.2, r.commit, r.hard, r.yes, r.next, r.match_⟩ : Raft)), (by (try dsimp only); refine ⟨by omega, by omega, ?_⟩; unfold SmallR; (try dsimp only); (try simp only [lens]); omega), KF.n [(0, 0), (1, 1), (2, 2), (3, 3), (4, 4), (8001, 5), (8002, 6), (8003, 7), (8004, 8)]⟩
 refine dv (AW.cF (r1_.2.2 == 0) (beq_eq_false_iff_ne.2 h1) <| AW.q 2 ·) ?_
 by_cases h2 : r1_.2.2 = 1
 · refine dv (AW.cT (r1_.2.2 == 1) (beq_iff_eq.2 h2) <| AW.gD Tryz_mix <| At.a 3 ·) ?_
   refine exE (spec_l1Below_spec ⟨c.data, r1_.1, r1_.2.1⟩ 3 (by dsimp only; omega)) fun r2_ qr2_ hr2_ => ?_
   replace qr2_ := bpos qr2_ (by decide)
   try dsimp only at qr2_
   refine dv (At.c (hr2_) Tryz.call45 true [(0, 0)] [] [] trivial <| At.a 1 ·) ?_
   refine dv (At.sI 18 (r.commit + r2_.2.2) (by omega) ·) ?_
   refine dv (At.a 1 ·) ?_
   refine dv (At.sI 19 ((r.commit + r2_.2.2) - 1) (by omega) ·) ?_
   refine dv (At.zD 2 <| AW.q 2 <| AW.ret ·) ?_
   refine dv (⟨_, (Sub.trans (Sub.trans (Sub.trans (Sub.trans (Sub.refl _ _) (Sub.mv 1 8001 (by kernel_rfl) (by decide))) (Sub.mv 2 8002 (by kernel_rfl) (by decide))) (Sub.mv 3 8003 (by kernel_rfl) (by decide))) (Sub.mv 4 8004 (by kernel_rfl) (by decide))), ·⟩) ?_
   exact ⟨(r2_.1, r2_.2.1, (⟨r.id, r.of_, r.role, (r.commit + r2_.2.2) - 1, r.hard, r.yes, r.next, r.match_⟩ : Raft)), (by (try dsimp only); refine ⟨by omega, by omega, ?_⟩; unfold SmallR; (try dsimp only); (try simp only [lens]); omega), KF.n [(0, 0), (1, 1), (2, 2), (3, 3), (4, 4), (8001, 5), (8002, 6), (8003, 7), (8004, 8)]⟩
 refine dv (AW.cF (r1_.2.2 == 1) (beq_eq_false_iff_ne.2 h2) <| AW.q 2 ·) ?_
 by_cases h3 : r1_.2.2 = 2
 · refine dv (AW.cT (r1_.2.2 == 2) (beq_iff_eq.2 h3) <| AW.gD Tryz_mix <| At.a 4 ·) ?_
   refine exE (spec_l1Below_spec ⟨c.data, r1_.1, r1_.2.1⟩ 3 (by dsimp only; omega)) fun r2_ qr2_ hr2_ => ?_
   replace qr2_ := bpos qr2_ (by decide)
   try dsimp only at qr2_
   refine dv (At.c (hr2_) Tryz.call45 true [(0, 0)] [] [] trivial <| At.a 1 ·) ?_
   refine dv (At.sI 28 (r.hard.term + r2_.2.2) (by omega) ·) ?_
   refine dv (At.a 1 ·) ?_
   refine dv (At.sI 29 ((r.hard.term + r2_.2.2) - 1) (by omega) ·) ?_
   refine dv (At.zD 3 <| AW.q 2 <| AW.ret ·) ?_
   refine dv (⟨_, (Sub.trans (Sub.trans (Sub.trans (Sub.trans (Sub.refl _ _) (Sub.mv 1 8001 (by kernel_rfl) (by decide))) (Sub.mv 2 8002 (by kernel_rfl) (by decide))) (Sub.mv 3 8003 (by kernel_rfl) (by decide))) (Sub.mv 4 8004 (by kernel_rfl) (by decide))), ·⟩) ?_
   exact ⟨(r2_.1, r2_.2.1, (⟨r.id, r.of_, r.role, r.commit, ⟨(r.hard.term + r2_.2.2) - 1, r.hard.vote, r.hard.log⟩, r.yes, r.next, r.match_⟩ : Raft)), (by (try dsimp only); refine ⟨by omega, by omega, ?_⟩; unfold SmallR; (try dsimp only); (try simp only [lens]); omega), KF.n [(0, 0), (1, 1), (2, 2), (3, 3), (4, 4), (8001, 5), (8002, 6), (8003, 7), (8004, 8)]⟩
 refine dv (AW.cF (r1_.2.2 == 2) (beq_eq_false_iff_ne.2 h3) <| AW.q 2 ·) ?_
 by_cases h4 : r1_.2.2 = 3
 · refine dv (AW.cT (r1_.2.2 == 3) (beq_iff_eq.2 h4) <| AW.g <| At.a 1 ·) ?_
   refine exE (spec_l1Below_spec ⟨c.data, r1_.1, r1_.2.1⟩ 7 (by dsimp only; omega)) fun r2_ qr2_ hr2_ => ?_
   replace qr2_ := bpos qr2_ (by decide)
   try dsimp only at qr2_
   refine dv (At.c (hr2_) Tryz.call45 true [(0, 0)] [] [] trivial <| At.z 3 <| AW.q 2 <| AW.ret ·) ?_
   refine dv (⟨_, (Sub.trans (Sub.trans (Sub.trans (Sub.trans (Sub.refl _ _) (Sub.mv 1 8001 (by kernel_rfl) (by decide))) (Sub.mv 2 8002 (by kernel_rfl) (by decide))) (Sub.mv 3 8003 (by kernel_rfl) (by decide))) (Sub.mv 4 8004 (by kernel_rfl) (by decide))), ·⟩) ?_
   exact ⟨(r2_.1, r2_.2.1, (⟨r.id, r.of_, r.role, r.commit, ⟨r.hard.term, r2_.2.2, r.hard.log⟩, r.yes, r.next, r.match_⟩ : Raft)), (by (try dsimp only); refine ⟨by omega, by omega, ?_⟩; unfold SmallR; (try dsimp only); (try simp only [lens]); omega), KF.n [(0, 0), (1, 1), (2, 2), (3, 3), (4, 4), (8001, 5), (8002, 6), (8003, 7), (8004, 8)]⟩
 refine dv (AW.cF (r1_.2.2 == 3) (beq_eq_false_iff_ne.2 h4) <| AW.q 2 ·) ?_
 by_cases h5 : r1_.2.2 = 4
 · refine dv (AW.cT (r1_.2.2 == 4) (beq_iff_eq.2 h5) <| AW.gD Tryz_mix <| At.a 3 ·) ?_
   refine exE (spec_l1Below_spec ⟨c.data, r1_.1, r1_.2.1⟩ 5 (by dsimp only; omega)) fun r2_ qr2_ hr2_ => ?_
   replace qr2_ := bpos qr2_ (by decide)
   try dsimp only at qr2_
   refine dv (At.c (hr2_) Tryz.call45 true [(0, 0)] [] [] trivial <| At.ll 44 3 1 144 (45, 6) (([r2_.2.2]).map encI) ·) ?_
   refine dv (At.apK 45 3 1 8 145 2 144 encI r.yes ([r2_.2.2]) (by simp only [List.length_map, lens]; omega) ·) ?_
   refine dv (At.zD 2 <| AW.q 2 <| AW.ret ·) ?_
   refine dv (⟨_, (Sub.trans (Sub.trans (Sub.trans (Sub.refl _ _) (Sub.mv 1 8001 (by kernel_rfl) (by decide))) (Sub.mv 3 8003 (by kernel_rfl) (by decide))) (Sub.mv 4 8004 (by kernel_rfl) (by decide))), ·⟩) ?_
   exact ⟨(r2_.1, r2_.2.1, (⟨r.id, r.of_, r.role, r.commit, r.hard, r.yes ++ ([r2_.2.2]), r.next, r.match_⟩ : Raft)), (by (try dsimp only); refine ⟨by omega, by omega, ?_⟩; unfold SmallR; (try dsimp only); (try simp only [lens]); omega), KF.n [(0, 0), (1, 1), (2, 2), (3, 3), (4, 4), (8001, 5), (145, 6), (8003, 7), (8004, 8)]⟩
 refine dv (AW.cF (r1_.2.2 == 4) (beq_eq_false_iff_ne.2 h5) <| AW.q 2 ·) ?_
 by_cases h6 : r1_.2.2 = 5
 · refine dv (AW.cT (r1_.2.2 == 5) (beq_iff_eq.2 h6) <| AW.g <| At.a 2 <| At.ll 51 3 1 151 (45, 6) (([1]).map encI) ·) ?_
   refine dv (At.apK 52 3 1 8 152 3 151 encI r.next ([1]) (by simp only [List.length_map, lens]; omega) ·) ?_
   refine dv (At.z 2 <| AW.q 2 <| AW.ret ·) ?_
   refine dv (⟨_, (Sub.trans (Sub.trans (Sub.trans (Sub.refl _ _) (Sub.mv 1 8001 (by kernel_rfl) (by decide))) (Sub.mv 2 8002 (by kernel_rfl) (by decide))) (Sub.mv 4 8004 (by kernel_rfl) (by decide))), ·⟩) ?_
   exact ⟨(r1_.1, r1_.2.1, (⟨r.id, r.of_, r.role, r.commit, r.hard, r.yes, r.next ++ ([1]), r.match_⟩ : Raft)), (by (try dsimp only); refine ⟨by omega, by omega, ?_⟩; unfold SmallR; (try dsimp only); (try simp only [lens]); omega), KF.n [(0, 0), (1, 1), (2, 2), (3, 3), (4, 4), (8001, 5), (8002, 6), (152, 7), (8004, 8)]⟩
 refine dv (AW.cF (r1_.2.2 == 5) (beq_eq_false_iff_ne.2 h6) <| AW.q 2 ·) ?_
 by_cases h7 : r1_.2.2 = 6
 · refine dv (AW.cT (r1_.2.2 == 6) (beq_iff_eq.2 h7) <| AW.g <| At.a 1 ·) ?_
   refine exE (spec_l1Below_spec ⟨c.data, r1_.1, r1_.2.1⟩ 6 (by dsimp only; omega)) fun r2_ qr2_ hr2_ => ?_
   replace qr2_ := bpos qr2_ (by decide)
   try dsimp only at qr2_
   refine dv (At.c (hr2_) Tryz.call45 true [(0, 0)] [] [] trivial <| At.z 2 <| AW.q 2 <| AW.ret ·) ?_
   refine dv (⟨_, (Sub.trans (Sub.trans (Sub.trans (Sub.trans (Sub.refl _ _) (Sub.mv 1 8001 (by kernel_rfl) (by decide))) (Sub.mv 2 8002 (by kernel_rfl) (by decide))) (Sub.mv 3 8003 (by kernel_rfl) (by decide))) (Sub.mv 4 8004 (by kernel_rfl) (by decide))), ·⟩) ?_
   exact ⟨(r2_.1, r2_.2.1, (⟨r2_.2.2, r.of_, r.role, r.commit, r.hard, r.yes, r.next, r.match_⟩ : Raft)), (by (try dsimp only); refine ⟨by omega, by omega, ?_⟩; unfold SmallR; (try dsimp only); (try simp only [lens]); omega), KF.n [(0, 0), (1, 1), (2, 2), (3, 3), (4, 4), (8001, 5), (8002, 6), (8003, 7), (8004, 8)]⟩
 refine dv (AW.cF (r1_.2.2 == 6) (beq_eq_false_iff_ne.2 h7) <| AW.skip <| AW.q 2 <| AW.ret ·) ?_
 refine dv (⟨_, (Sub.trans (Sub.trans (Sub.trans (Sub.trans (Sub.refl _ _) (Sub.mv 1 8001 (by kernel_rfl) (by decide))) (Sub.mv 2 8002 (by kernel_rfl) (by decide))) (Sub.mv 3 8003 (by kernel_rfl) (by decide))) (Sub.mv 4 8004 (by kernel_rfl) (by decide))), ·⟩) ?_
 exact ⟨(r1_.1, r1_.2.1, r), (by (try dsimp only); refine ⟨by omega, by omega, ?_⟩; unfold SmallR; (try dsimp only); (try simp only [lens]); omega), KF.n [(0, 0), (1, 1), (2, 2), (3, 3), (4, 4), (8001, 5), (8002, 6), (8003, 7), (8004, 8)]⟩
theorem spec_l10DrawPair_spec (code : List UInt8) (kind : Int) (hc : code.length ≤ 1048576) : ∃ rho_ : Raft × Msg, (SmallR rho_.1 ∧ rho_.2.entries.length ≤ 1000) ∧ FnSpec Tryz.prog 17 [.sl false 1 (code.map encU8), nI kind] [] (.tup [.agg (rC rho_.1 (.ref 0) (.ref 1) (.ref 2) (.ref 3)), .agg (mC rho_.2 (.sl true 6 (rho_.2.entries.map encEnt)))]) [.arr 45 6 (rho_.1.hard.log.map encEnt), .arr 3 1 (rho_.1.yes.map encI), .arr 3 1 (rho_.1.next.map encI), .arr 3 1 (rho_.1.match_.map encI)]:= by
 refine dv (fun h_ => FnSpec.of 83 Tryz.func17 rfl Tryz.ntmps17 (by simp) (AW.weakK h_)) ?_
 refine dv (AW.q 2 <| AW.seq <| AW.weak (Sub.nils [⟨true, 104, some 6, 5001, 45, 6⟩, ⟨true, 104, some 7, 5002, 3, 1⟩, ⟨true, 104, some 8, 5003, 3, 1⟩, ⟨true, 104, some 9, 5004, 3, 1⟩, ⟨true, 105, some 15, 5005, 45, 6⟩] (by kernel_rfl)) <| AW.g <| At.a 1 ·) ?_
 refine exE (spec_l1New_spec code (by omega)) fun r1_ qr1_ hr1_ => ?_
 try dsimp only at qr1_
 refine dv (At.c (hr1_) Tryz.call16 true [] [(1300, 0)] [] trivial <| At.z 1 <| AW.r <| At.a 2 ·) ?_
 refine dv (At.c (spec_l1Long_spec code 40 90 (by omega) (by omega)) Tryz.call44 true [] [] [] trivial ·) ?_
 refine exE (spec_l10DrawNet_spec ⟨code, 0, r1_⟩ (min (40 + (code.length : Int) / 4) 90) (by dsimp only; omega) (by omega)) fun r2_ qr2_ hr2_ => ?_
 try dsimp only at qr2_
 refine dv (At.c (hr2_) Tryz.call43 true [(1300, 0)] [(1400, 1), (1401, 2)] [] trivial ·) ?_
 obtain ⟨n, hn1, hn2, hns, hml1, hml⟩ := qr2_.2.2
 refine dv (At.z 5 <| AW.r <| At.a 3 <| At.sL 25 encRaft r2_.2.2.1 ·) ?_
 refine exE (spec_l1Below_spec ⟨code, r2_.1, r2_.2.1⟩ (r2_.2.2.1.length : Int) (by dsimp only; omega)) fun r3_ qr3_ hr3_ => ?_
 try simp only [Int.reduceLT, Int.reduceLE, true_implies, false_implies, and_true] at qr3_
 refine dv (At.c (hr3_) Tryz.call45 true [(1300, 0)] [] [] trivial <| At.z 1 <| AW.r <| At.a 1 ·) ?_
 refine exE (spec_l8DrawRight_spec ⟨code, r3_.1, r3_.2.1⟩ (by dsimp only; omega)) fun r4_ qr4_ hr4_ => ?_
 try dsimp only at qr4_
 refine dv (At.c (hr4_) Tryz.call46 true [(1300, 0)] [(1560, 1)] [] trivial <| At.z 2 <| AW.seq <| AW.weak (Sub.frz 1560 45 6 (r4_.2.2.entries.map encEnt) (by kernel_rfl) flatEnts) <| AW.gq 1 <| AW.seq <| AW.q 1 <| AW.block ·) ?_
 refine DW.loopQ (fun (x : Nat × Msg × Int × Bool × Int × Int) => match x with | (i, q, to, fd, p, s) => Go.Sy.mk [.un, nI kind, .un, .un, .ptr 104 0 0, .ptr 105 0 0, .ptr 1300 0 0, .ref 1400, .ref 1401, nI to, .ptr 110 0 0, .bool fd, nI (i : Int)] [(104, .box 29 [nI 0, nI 0, nI 0, nI 0, nI 0, nI 0, .ref 5001, .ref 5002, .ref 5003, .ref 5004]), (105, .box 33 [nI 0, nI 0, nI 0, nI 0, nI 0, nI 0, .bool false, nI 0, nI 0, .str eB, nI 0, nI 0, nI 0, nI 0, .str eB, .ref 5005]), (110, .box 33 (mC q (.sl true 6 (q.entries.map encEnt)))), (1300, .box 71 [.sl false 1 (code.map encU8), nI p, nI s]), (1400, .arr 29 10 (r2_.2.2.1.map encRaft)), (1401, .arr 51 17 (r2_.2.2.2.map encOutT)), (5001, .arr 45 6 []), (5002, .arr 3 1 []), (5003, .arr 3 1 []), (5004, .arr 3 1 []), (5005, .arr 45 6 [])]) (fun (i, q, to, fd, p, s) => i ≤ (r2_.2.2.2).length ∧ q.entries.length ≤ 1000 ∧ (0 ≤ to ∧ to < n) ∧ (0 ≤ p ∧ p ≤ code.length)) (fun (i, q, to, fd, p, s) => (r2_.2.2.2).length - i) (0, r4_.2.2, r3_.2.2, false, r4_.1, r4_.2.1) (by dsimp only; omega) (Sub.o (dg [104, 105, 110, 1300, 1400, 1401, 5001, 5002, 5003, 5004, 5005]) (bs 13 8178)) ?_
 rintro ⟨i, q, to, fd, p, s⟩ hq ih1
 refine dv (AW.seq <| AW.r <| At.a 3 <| At.sL 31 encOutT r2_.2.2.2 <| At.z 1 ·) ?_
 by_cases h1 : (i : Int) < (r2_.2.2.2.length : Int)
 · refine dv (AW.dT h1 <| AW.skip <| AW.seq <| AW.block <| AW.r <| At.a 2 ·) ?_
   refine dv (At.iRf 38 37 (.tmp 35) (.tmp 36) 1401 (r2_.2.2.2.map encOutT) .i64 (i : Int) 51 17 (by omega) (by simp only [List.length_map]; omega) ·) ?_
   refine dv (At.a 2 ·) ?_
   refine Exists.elim (gE r2_.2.2.2 i (by omega)) fun e1 he1 => ?_
   have hxe1 := hml _ (List.mem_of_getElem? he1)
   refine dv (At.lEl 3 40 (.tmp 39) 1401 51 17 (r2_.2.2.2.map encOutT) i 1 false 1 (encOutT e1) (nI e1.msg.kind) (mapGet he1) <| At.a 3 ·) ?_
   by_cases h2 : e1.msg.kind = kind
   · refine dv (At.sB 43 _ _ (sayET h2) <| At.a 3 ·) ?_
     by_cases h3 : fd = true
     · refine dv (At.sB 46 (!fd) false (sayNF (sayB h3)) <| At.a 1 ·) ?_
       refine exE (spec_l1Once_spec ⟨code, p, s⟩ 2 (by dsimp only; omega)) fun r5_ qr5_ hr5_ => ?_
       try dsimp only at qr5_
       refine dv (At.c (hr5_) Tryz.call18 true [(1300, 0)] [] [] trivial <| At.z 2 ·) ?_
       by_cases h4 : r5_.2.2 = true
       · refine dv (AW.cT (r5_.2.2) h4 <| AW.r <| At.a 2 ·) ?_
         refine dv (At.iRf 38 53 (.tmp 51) (.tmp 52) 1401 (r2_.2.2.2.map encOutT) .i64 (i : Int) 51 17 (by omega) (by simp only [List.length_map]; omega) ·) ?_
         refine dv (At.a 1 <| At.lEl 33 55 (.tmp 54) 1401 51 17 (r2_.2.2.2.map encOutT) i 1 true 16 (encOutT e1) (.agg (mC e1.msg (.sl true 6 (e1.msg.entries.map encEnt)))) (mapGet he1) <| At.z 1 <| AW.r <| At.a 2 ·) ?_
         refine dv (At.iRf 38 58 (.tmp 56) (.tmp 57) 1401 (r2_.2.2.2.map encOutT) .i64 (i : Int) 51 17 (by omega) (by simp only [List.length_map]; omega) ·) ?_
         refine dv (At.a 1 <| At.lEl 3 60 (.tmp 59) 1401 51 17 (r2_.2.2.2.map encOutT) i 0 false 1 (encOutT e1) (nI e1.to) (mapGet he1) <| At.z 1 <| AW.gq 1 <| AW.g <| At.a 2 ·) ?_
         refine dv (At.sI 34 ((i : Int) + 1) (by omega) ·) ?_
         refine dv (At.z 1 ·) ?_
         exact dw (fun _ h_ => AWL.weak (Sub.o (dg [104, 105, 110, 1300, 1400, 1401, 5001, 5002, 5003, 5004, 5005]) (bs 13 8178)) h_) (ih1 (i + 1, e1.msg, e1.to, true, r5_.1, r5_.2.1) (by dsimp only; omega) (by simp only; omega))
       replace h4 := Bool.eq_false_iff.2 h4
       refine dv (AW.cF (r5_.2.2) h4 <| AW.skip <| AW.g <| At.a 2 ·) ?_
       refine dv (At.sI 34 ((i : Int) + 1) (by omega) ·) ?_
       refine dv (At.z 1 ·) ?_
       exact dw (fun _ h_ => AWL.weak (Sub.o (dg [104, 105, 110, 1300, 1400, 1401, 5001, 5002, 5003, 5004, 5005]) (bs 13 8178)) h_) (ih1 (i + 1, q, to, fd, r5_.1, r5_.2.1) (by dsimp only; omega) (by simp only; omega))
     refine dv (At.sB 46 (!fd) true (sayNT (sayB (Bool.eq_false_iff.2 h3))) ·) ?_
     replace h3 := Bool.eq_false_iff.2 h3
     refine dv (At.z 4 ·) ?_
     refine dv (fun h_ => AW.cond true (by kernel_rfl) (fun _ => h_) (fun h => by cases h)) ?_
     refine dv (AW.r <| At.a 2 ·) ?_
     refine dv (At.iRf 38 53 (.tmp 51) (.tmp 52) 1401 (r2_.2.2.2.map encOutT) .i64 (i : Int) 51 17 (by omega) (by simp only [List.length_map]; omega) ·) ?_
     refine dv (At.a 1 <| At.lEl 33 55 (.tmp 54) 1401 51 17 (r2_.2.2.2.map encOutT) i 1 true 16 (encOutT e1) (.agg (mC e1.msg (.sl true 6 (e1.msg.entries.map encEnt)))) (mapGet he1) <| At.z 1 <| AW.r <| At.a 2 ·) ?_
     refine dv (At.iRf 38 58 (.tmp 56) (.tmp 57) 1401 (r2_.2.2.2.map encOutT) .i64 (i : Int) 51 17 (by omega) (by simp only [List.length_map]; omega) ·) ?_
     refine dv (At.a 1 <| At.lEl 3 60 (.tmp 59) 1401 51 17 (r2_.2.2.2.map encOutT) i 0 false 1 (encOutT e1) (nI e1.to) (mapGet he1) <| At.z 1 <| AW.gq 1 <| AW.g <| At.a 2 ·) ?_
     refine dv (At.sI 34 ((i : Int) + 1) (by omega) ·) ?_
     refine dv (At.z 1 ·) ?_
     exact dw (fun _ h_ => AWL.weak (Sub.o (dg [104, 105, 110, 1300, 1400, 1401, 5001, 5002, 5003, 5004, 5005]) (bs 13 8178)) h_) (ih1 (i + 1, e1.msg, e1.to, true, p, s) (by dsimp only; omega) (by simp only; omega))
   refine dv (At.sB 43 _ _ (sayEF h2) <| At.z 7 ·) ?_
   refine dv (fun h_ => AW.cond false (by kernel_rfl) (fun h => by cases h) (fun _ => h_)) ?_
   refine dv (AW.skip <| AW.g <| At.a 2 ·) ?_
   refine dv (At.sI 34 ((i : Int) + 1) (by omega) ·) ?_
   refine dv (At.z 1 ·) ?_
   exact dw (fun _ h_ => AWL.weak (Sub.o (dg [104, 105, 110, 1300, 1400, 1401, 5001, 5002, 5003, 5004, 5005]) (bs 13 8178)) h_) (ih1 (i + 1, q, to, fd, p, s) (by dsimp only; omega) (by simp only; omega))
 refine dv (AW.dF h1 <| AW.exit <| AW.seq ·) ?_
 refine Exists.elim (gE r2_.2.2.1 ((to).toNat) (by omega)) fun e2 he2 => ?_
 have hye2 := hns _ (List.mem_of_getElem? he2)
 have hnne2 := hye2.nums
 have hsme2 := hnne2.2.2.2.2.2
 have hoke2 := hye2.1
 refine dv (AW.weak (Sub.openL 1400 ((to).toNat) 29 10 (r2_.2.2.1.map encRaft) (encRaft e2) (fr 6 5006 4) (by kernel_rfl) (mapGet he2) (by kernel_rfl)) <| AW.g <| At.a 2 ·) ?_
 refine dv (At.idxH 72 63 (.tmp 61) (.tmp 62) 1400 ((r2_.2.2.1.map encRaft).set ((to).toNat) (.agg (rC e2 .un .un .un .un))) ((to).toNat) [(9, 5009), (8, 5008), (7, 5007), (6, 5006)] .i64 (to) 29 10 (by omega) (by rw [List.length_set, List.length_map]; omega) ·) ?_
 refine dv (At.ldH 29 64 (.tmp 63) 1400 29 10 ((r2_.2.2.1.map encRaft).set ((to).toNat) (.agg (rC e2 .un .un .un .un))) ((to).toNat) [(9, 5009), (8, 5008), (7, 5007), (6, 5006)] 0 true 10 (.agg (rC e2 .un .un .un .un)) (.agg (rC e2 (.ref 5006) (.ref 5007) (.ref 5008) (.ref 5009))) (setGet (mapGet he2)) <| At.z 2 <| AW.seq <| AW.r <| At.a 3 ·) ?_
 by_cases h5 : fd = true
 · refine dv (At.sB 67 (!fd) false (sayNF (sayB h5)) <| At.a 1 ·) ?_
   refine exE (spec_l1Once_spec ⟨code, p, s⟩ 3 (by dsimp only; omega)) fun r5_ qr5_ hr5_ => ?_
   try dsimp only at qr5_
   refine dv (At.c (hr5_) Tryz.call18 true [(1300, 0)] [] [] trivial <| At.z 1 ·) ?_
   by_cases h6 : r5_.2.2 = true
   · refine dv (AW.cT (r5_.2.2) h6 <| AW.g <| At.a 3 ·) ?_
     refine exE (spec_l10Made_spec ⟨code, r5_.1, r5_.2.1⟩ e2 kind (by dsimp only; omega) (ok_nums (by assumption))) fun r6_ qr6_ hr6_ => ?_
     try dsimp only at qr6_
     refine dv (At.c (hr6_) Tryz.call20 true [(1300, 0), (5006, 1), (5007, 2), (5008, 3), (5009, 4)] [(2480, 5)] [] trivial <| At.z 1 <| AW.seq <| AW.seq <| AW.weak (Sub.frz 2480 45 6 (r6_.2.2.entries.map encEnt) (by kernel_rfl) flatEnts) <| AW.g <| At.a 1 ·) ?_
     refine exE (spec_l1Once_spec ⟨code, r6_.1, r6_.2.1⟩ 25 (by dsimp only; omega)) fun r7_ qr7_ hr7_ => ?_
     try dsimp only at qr7_
     refine dv (At.c (hr7_) Tryz.call18 true [(1300, 0)] [] [] trivial <| At.done rfl ·) ?_
     by_cases h7 : r7_.2.2 = true
     · refine dv (AW.cT (r7_.2.2) h7 <| AW.g <| At.a 1 ·) ?_
       refine exE (spec_l8DrawMsg_spec ⟨code, r7_.1, r7_.2.1⟩ (by dsimp only; omega)) fun r8_ qr8_ hr8_ => ?_
       try dsimp only at qr8_
       refine dv (At.c (hr8_) Tryz.call47 true [(1300, 0)] [(2560, 1)] [] trivial <| At.z 1 <| AW.seq <| AW.weak (Sub.frz 2560 45 6 (r8_.2.2.entries.map encEnt) (by kernel_rfl) flatEnts) <| AW.gD Tryz_mix <| At.a 2 ·) ?_
       refine exE (spec_l10Spoil_spec ⟨code, r8_.1, r8_.2.1⟩ e2 (by dsimp only; omega) (by assumption)) fun r9_ qr9_ hr9_ => ?_
       try dsimp only at qr9_
       refine dv (At.c (hr9_) Tryz.call48 true [(1300, 0), (5006, 1), (5007, 2), (5008, 3), (5009, 4)] (fr 2620 5 4) [] trivial ·) ?_
       have hsp := qr9_.2.2
       refine dv (At.zD 3 <| AW.ret ·) ?_
       refine dv (⟨_, Sub.refl _ _, ·⟩) ?_
       exact ⟨(r9_.2.2, r8_.2.2), ⟨hsp, by (try dsimp only); omega⟩, KF.n (fr 2620 0 4)⟩
     replace h7 := Bool.eq_false_iff.2 h7
     refine dv (AW.cF (r7_.2.2) h7 <| AW.skip <| AW.seq <| AW.gD Tryz_mix <| At.a 2 ·) ?_
     refine exE (spec_l10Spoil_spec ⟨code, r7_.1, r7_.2.1⟩ e2 (by dsimp only; omega) (by assumption)) fun r8_ qr8_ hr8_ => ?_
     try dsimp only at qr8_
     refine dv (At.c (hr8_) Tryz.call48 true [(1300, 0), (5006, 1), (5007, 2), (5008, 3), (5009, 4)] (fr 2620 5 4) [] trivial ·) ?_
     have hsp := qr8_.2.2
     refine dv (At.zD 3 <| AW.ret ·) ?_
     refine dv (⟨_, Sub.refl _ _, ·⟩) ?_
     exact ⟨(r8_.2.2, r6_.2.2), ⟨hsp, by (try dsimp only); omega⟩, KF.n (fr 2620 0 4)⟩
   replace h6 := Bool.eq_false_iff.2 h6
   refine dv (AW.cF (r5_.2.2) h6 <| AW.skip <| AW.seq <| AW.r <| At.a 1 ·) ?_
   refine exE (spec_l1Once_spec ⟨code, r5_.1, r5_.2.1⟩ 25 (by dsimp only; omega)) fun r6_ qr6_ hr6_ => ?_
   try dsimp only at qr6_
   refine dv (At.c (hr6_) Tryz.call18 true [(1300, 0)] [] [] trivial <| At.done rfl ·) ?_
   by_cases h8 : r6_.2.2 = true
   · refine dv (AW.cT (r6_.2.2) h8 <| AW.g <| At.a 1 ·) ?_
     refine exE (spec_l8DrawMsg_spec ⟨code, r6_.1, r6_.2.1⟩ (by dsimp only; omega)) fun r7_ qr7_ hr7_ => ?_
     try dsimp only at qr7_
     refine dv (At.c (hr7_) Tryz.call47 true [(1300, 0)] [(2560, 1)] [] trivial <| At.z 1 <| AW.seq <| AW.weak (Sub.frz 2560 45 6 (r7_.2.2.entries.map encEnt) (by kernel_rfl) flatEnts) <| AW.gD Tryz_mix <| At.a 2 ·) ?_
     refine exE (spec_l10Spoil_spec ⟨code, r7_.1, r7_.2.1⟩ e2 (by dsimp only; omega) (by assumption)) fun r8_ qr8_ hr8_ => ?_
     try dsimp only at qr8_
     refine dv (At.c (hr8_) Tryz.call48 true [(1300, 0), (5006, 1), (5007, 2), (5008, 3), (5009, 4)] (fr 2620 5 4) [] trivial ·) ?_
     have hsp := qr8_.2.2
     refine dv (At.zD 3 <| AW.ret ·) ?_
     refine dv (⟨_, Sub.refl _ _, ·⟩) ?_
     exact ⟨(r8_.2.2, r7_.2.2), ⟨hsp, by (try dsimp only); omega⟩, KF.n (fr 2620 0 4)⟩
   replace h8 := Bool.eq_false_iff.2 h8
   refine dv (AW.cF (r6_.2.2) h8 <| AW.skip <| AW.seq <| AW.gD Tryz_mix <| At.a 2 ·) ?_
   refine exE (spec_l10Spoil_spec ⟨code, r6_.1, r6_.2.1⟩ e2 (by dsimp only; omega) (by assumption)) fun r7_ qr7_ hr7_ => ?_
   try dsimp only at qr7_
   refine dv (At.c (hr7_) Tryz.call48 true [(1300, 0), (5006, 1), (5007, 2), (5008, 3), (5009, 4)] (fr 2620 5 4) [] trivial ·) ?_
   have hsp := qr7_.2.2
   refine dv (At.zD 3 <| AW.ret ·) ?_
   refine dv (⟨_, Sub.refl _ _, ·⟩) ?_
   exact ⟨(r7_.2.2, q), ⟨hsp, by (try dsimp only); omega⟩, KF.n (fr 2620 0 4)⟩
 refine dv (At.sB 67 (!fd) true (sayNT (sayB (Bool.eq_false_iff.2 h5))) ·) ?_
 replace h5 := Bool.eq_false_iff.2 h5
 refine dv (At.z 3 ·) ?_
 refine dv (fun h_ => AW.cond true (by kernel_rfl) (fun _ => h_) (fun h => by cases h)) ?_
 refine dv (AW.g <| At.a 3 ·) ?_
 refine exE (spec_l10Made_spec ⟨code, p, s⟩ e2 kind (by dsimp only; omega) (ok_nums (by assumption))) fun r5_ qr5_ hr5_ => ?_
 try dsimp only at qr5_
 refine dv (At.c (hr5_) Tryz.call20 true [(1300, 0), (5006, 1), (5007, 2), (5008, 3), (5009, 4)] [(2480, 5)] [] trivial <| At.z 1 <| AW.seq <| AW.seq <| AW.weak (Sub.frz 2480 45 6 (r5_.2.2.entries.map encEnt) (by kernel_rfl) flatEnts) <| AW.g <| At.a 1 ·) ?_
 refine exE (spec_l1Once_spec ⟨code, r5_.1, r5_.2.1⟩ 25 (by dsimp only; omega)) fun r6_ qr6_ hr6_ => ?_
 try dsimp only at qr6_
 refine dv (At.c (hr6_) Tryz.call18 true [(1300, 0)] [] [] trivial <| At.done rfl ·) ?_
 by_cases h9 : r6_.2.2 = true
 · refine dv (AW.cT (r6_.2.2) h9 <| AW.g <| At.a 1 ·) ?_
   refine exE (spec_l8DrawMsg_spec ⟨code, r6_.1, r6_.2.1⟩ (by dsimp only; omega)) fun r7_ qr7_ hr7_ => ?_
   try dsimp only at qr7_
   refine dv (At.c (hr7_) Tryz.call47 true [(1300, 0)] [(2560, 1)] [] trivial <| At.z 1 <| AW.seq <| AW.weak (Sub.frz 2560 45 6 (r7_.2.2.entries.map encEnt) (by kernel_rfl) flatEnts) <| AW.gD Tryz_mix <| At.a 2 ·) ?_
   refine exE (spec_l10Spoil_spec ⟨code, r7_.1, r7_.2.1⟩ e2 (by dsimp only; omega) (by assumption)) fun r8_ qr8_ hr8_ => ?_
   try dsimp only at qr8_
   refine dv (At.c (hr8_) Tryz.call48 true [(1300, 0), (5006, 1), (5007, 2), (5008, 3), (5009, 4)] (fr 2620 5 4) [] trivial ·) ?_
   have hsp := qr8_.2.2
   refine dv (At.zD 3 <| AW.ret ·) ?_
   refine dv (⟨_, Sub.refl _ _, ·⟩) ?_
   exact ⟨(r8_.2.2, r7_.2.2), ⟨hsp, by (try dsimp only); omega⟩, KF.n (fr 2620 0 4)⟩
 replace h9 := Bool.eq_false_iff.2 h9
 refine dv (AW.cF (r6_.2.2) h9 <| AW.skip <| AW.seq <| AW.gD Tryz_mix <| At.a 2 ·) ?_
 refine exE (spec_l10Spoil_spec ⟨code, r6_.1, r6_.2.1⟩ e2 (by dsimp only; omega) (by assumption)) fun r7_ qr7_ hr7_ => ?_
 try dsimp only at qr7_
 refine dv (At.c (hr7_) Tryz.call48 true [(1300, 0), (5006, 1), (5007, 2), (5008, 3), (5009, 4)] (fr 2620 5 4) [] trivial ·) ?_
 have hsp := qr7_.2.2
 refine dv (At.zD 3 <| AW.ret ·) ?_
 refine dv (⟨_, Sub.refl _ _, ·⟩) ?_
 exact ⟨(r7_.2.2, r5_.2.2), ⟨hsp, by (try dsimp only); omega⟩, KF.n (fr 2620 0 4)⟩
theorem spec_DrawOnSend_spec (code : List UInt8) (hc : code.length ≤ 1048576) : ∃ rho_ : Raft × Msg, (SmallR rho_.1 ∧ rho_.2.entries.length ≤ 1000) ∧ FnSpec Tryz.prog 5 [.sl false 1 (code.map encU8)] [] (.tup [.agg (rC rho_.1 (.sl true 6 (rho_.1.hard.log.map encEnt)) (.sl true 1 (rho_.1.yes.map encI)) (.sl true 1 (rho_.1.next.map encI)) (.sl true 1 (rho_.1.match_.map encI))), .agg (mC rho_.2 (.sl true 6 (rho_.2.entries.map encEnt)))]) []:= by
 refine dv (fun h_ => FnSpec.of 83 Tryz.func5 rfl Tryz.ntmps5 (by simp) (AW.weakK h_)) ?_
 refine dv (AW.q 2 <| AW.seq <| AW.weak (Sub.nils [⟨true, 102, some 6, 5001, 45, 6⟩, ⟨true, 102, some 7, 5002, 3, 1⟩, ⟨true, 102, some 8, 5003, 3, 1⟩, ⟨true, 102, some 9, 5004, 3, 1⟩, ⟨true, 103, some 15, 5005, 45, 6⟩] (by kernel_rfl)) <| AW.g <| At.a 1 ·) ?_
 refine exE (spec_l1New_spec code hc) fun r1_ qr1_ hr1_ => ?_
 try dsimp only at qr1_
 refine dv (At.c (hr1_) Tryz.call16 true [] [(1160, 0)] [] trivial <| At.z 1 <| AW.r <| At.a 1 ·) ?_
 refine exE (spec_l10DrawPair_spec code 3 hc) fun r2_ qr2_ hr2_ => ?_
 try dsimp only at qr2_
 refine dv (At.c (hr2_) Tryz.call17 true [] (fr 1220 0 4) [] trivial <| At.z 7 <| AW.seq <| AW.r <| At.a 1 ·) ?_
 refine exE (spec_l1Once_spec ⟨code, 0, r1_⟩ 20 (by dsimp only; omega)) fun r3_ qr3_ hr3_ => ?_
 try dsimp only at qr3_
 refine dv (At.c (hr3_) Tryz.call18 true [(1160, 0)] [] [] trivial <| At.a 1 ·) ?_
 by_cases h1 : r3_.2.2 = true
 · refine dv (At.sB 16 r3_.2.2 true (sayB h1) <| At.a 1 <| At.c (spec_RaftOk_spec r2_.1 qr2_.1) Tryz.call11 false [] [] [(1220, 6, (r2_.1.hard.log.map encEnt)), (1221, 1, (r2_.1.yes.map encI)), (1222, 1, (r2_.1.next.map encI)), (1223, 1, (r2_.1.match_.map encI))] ⟨rfl, ⟨45, (r2_.1.hard.log.map encEnt), by kernel_rfl, FrzIs.same (allP_encEnt _)⟩, rfl, ⟨3, (r2_.1.yes.map encI), by kernel_rfl, FrzIs.same (allP_encI _)⟩, rfl, ⟨3, (r2_.1.next.map encI), by kernel_rfl, FrzIs.same (allP_encI _)⟩, rfl, ⟨3, (r2_.1.match_.map encI), by kernel_rfl, FrzIs.same (allP_encI _)⟩, trivial⟩ <| At.a 2 ·) ?_
   by_cases h2 : (raftOk r2_.1) = true
   · refine dv (At.sB 20 (raftOk r2_.1) true (sayB h2) ·) ?_
     have h2n := raftOk1_nums (raftOk_1 h2)
     obtain ⟨n1, n2, n3, n4, z1, z2, z3, z4⟩ := ok_nums h2
     refine dv (At.z 4 ·) ?_
     by_cases h3 : r2_.1.role = 1
     · refine dv (AW.cT (r2_.1.role == 1) (beq_iff_eq.2 h3) <| AW.r <| At.a 3 <| At.c (spec_l1Max_spec r2_.1.hard.term 1) Tryz.call19 true [] [] [] trivial <| At.z 3 <| AW.seq <| AW.block ·) ?_
       refine DW.loopQ (fun (l : List Ent) => Go.Sy.mk [.un, .un, .ptr 102 0 0, .ptr 103 0 0, .ptr 1160 0 0, .ptr 105 0 0, .ptr 106 0 0] [(102, .box 29 [nI 0, nI 0, nI 0, nI 0, nI 0, nI 0, .ref 5001, .ref 5002, .ref 5003, .ref 5004]), (103, .box 33 [nI 0, nI 0, nI 0, nI 0, nI 0, nI 0, .bool false, nI 0, nI 0, .str eB, nI 0, nI 0, nI 0, nI 0, .str eB, .ref 5005]), (105, .box 29 [nI r2_.1.id, nI r2_.1.of_, nI r2_.1.role, nI r2_.1.commit, nI (max r2_.1.hard.term 1), nI r2_.1.hard.vote, .ref 1220, .ref 1221, .ref 1222, .ref 1223]), (106, .box 33 (mC r2_.2 (.sl true 6 (r2_.2.entries.map encEnt)))), (1160, .box 71 [.sl false 1 (code.map encU8), nI r3_.1, nI r3_.2.1]), (1220, .arr 45 6 (l.map encEnt)), (1221, .arr 3 1 (r2_.1.yes.map encI)), (1222, .arr 3 1 (r2_.1.next.map encI)), (1223, .arr 3 1 (r2_.1.match_.map encI)), (5001, .arr 45 6 []), (5002, .arr 3 1 []), (5003, .arr 3 1 []), (5004, .arr 3 1 []), (5005, .arr 45 6 [])]) (fun (l : List Ent) => l.length ≤ 80) (fun (l : List Ent) => 78 - l.length) r2_.1.hard.log (by omega) (Sub.o (dg [102, 103, 105, 106, 1160, 1220, 1221, 1222, 1223, 5001, 5002, 5003, 5004, 5005]) (bs 7 124)) ?_
       rintro l hl ih1
       refine dv (AW.seq <| AW.r <| At.a 4 <| At.sL 34 encEnt l <| At.z 1 ·) ?_
       by_cases h4 : (l.length : Int) < 78
       · refine dv (AW.dT h4 <| AW.skip <| AW.block <| AW.g <| At.a 8 <| At.ll 44 45 6 144 (45, 6) (([(⟨max r2_.1.hard.term 1, ⟨1, 0, 0, 0, eB⟩⟩ : Ent)]).map encEnt) ·) ?_
         refine dv (At.apK 45 45 6 56 145 1220 144 encEnt l ([(⟨max r2_.1.hard.term 1, ⟨1, 0, 0, 0, eB⟩⟩ : Ent)]) (by simp only [List.length_map, lens]; omega) ·) ?_
         refine dv (At.z 3 ·) ?_
         exact dw (fun _ h_ => AWL.weak (Sub.o [(102, 102), (103, 103), (105, 105), (106, 106), (1160, 1160), (145, 1220), (1221, 1221), (1222, 1222), (1223, 1223), (5001, 5001), (5002, 5002), (5003, 5003), (5004, 5004), (5005, 5005)] (bs 7 124)) h_) (ih1 (l ++ ([(⟨max r2_.1.hard.term 1, ⟨1, 0, 0, 0, eB⟩⟩ : Ent)])) (by simp only [lens]; omega) (by simp only [lens]; omega))
       refine dv (AW.dF h4 <| AW.exit <| AW.r <| At.a 2 ·) ?_
       refine exE (spec_l10Made_spec ⟨code, r3_.1, r3_.2.1⟩ ⟨r2_.1.id, r2_.1.of_, r2_.1.role, r2_.1.commit, ⟨max r2_.1.hard.term 1, r2_.1.hard.vote, l⟩, r2_.1.yes, r2_.1.next, r2_.1.match_⟩ 3 (by dsimp only; omega) (by unfold NodeNums SmallR; dsimp only; omega)) fun r4_ qr4_ hr4_ => ?_
       try dsimp only at qr4_
       refine dv (At.c (hr4_) Tryz.call20 true [(1160, 0), (1220, 1), (1221, 2), (1222, 3), (1223, 4)] [(2000, 5)] [] trivial <| At.z 1 <| AW.r <| At.a 4 <| At.sL 54 encEnt l <| At.z 2 <| AW.q 5 <| AW.q 5 <| AW.gD Tryz_mix <| At.a 3 ·) ?_
       refine exE (spec_l5DrawRight_spec ⟨code, r4_.1, r4_.2.1⟩ (by dsimp only; omega)) fun r5_ qr5_ hr5_ => ?_
       try dsimp only at qr5_
       refine dv (At.c (hr5_) Tryz.call21 true [(1160, 0)] [] [] trivial <| At.a 4 ·) ?_
       refine exE (spec_l5DrawRight_spec ⟨code, r5_.1, r5_.2.1⟩ (by dsimp only; omega)) fun r6_ qr6_ hr6_ => ?_
       try dsimp only at qr6_
       refine dv (At.c (hr6_) Tryz.call21 true [(1160, 0)] [] [] trivial <| At.a 4 ·) ?_
       refine exE (spec_l5DrawRight_spec ⟨code, r6_.1, r6_.2.1⟩ (by dsimp only; omega)) fun r7_ qr7_ hr7_ => ?_
       try dsimp only at qr7_
       refine dv (At.c (hr7_) Tryz.call21 true [(1160, 0)] [] [] trivial <| At.a 1 <| At.ll 79 45 6 179 (45, 6) (([(⟨max r2_.1.hard.term 1, r5_.2.2⟩ : Ent), (⟨max r2_.1.hard.term 1, r6_.2.2⟩ : Ent), (⟨max r2_.1.hard.term 1, r7_.2.2⟩ : Ent)]).map encEnt) <| At.zD 2 <| AW.seq <| AW.gD Tryz_mix <| At.zD 4 <| AW.ret ·) ?_
       refine dv (⟨_, (Sub.trans (Sub.trans (Sub.trans (Sub.trans (Sub.trans (Sub.refl _ _) (Sub.frz 1220 45 6 (l.map encEnt) (by kernel_rfl) flatEnts)) (Sub.frz 1221 3 1 (r2_.1.yes.map encI) (by kernel_rfl) flatInts)) (Sub.frz 1222 3 1 (r2_.1.next.map encI) (by kernel_rfl) flatInts)) (Sub.frz 1223 3 1 (r2_.1.match_.map encI) (by kernel_rfl) flatInts)) (Sub.frz 179 45 6 (([(⟨max r2_.1.hard.term 1, r5_.2.2⟩ : Ent), (⟨max r2_.1.hard.term 1, r6_.2.2⟩ : Ent), (⟨max r2_.1.hard.term 1, r7_.2.2⟩ : Ent)]).map encEnt) (by kernel_rfl) flatEnts)), ·⟩) ?_
       exact ⟨((⟨r2_.1.id, r2_.1.of_, r2_.1.role, r2_.1.commit, ⟨max r2_.1.hard.term 1, r2_.1.hard.vote, l⟩, r2_.1.yes, r2_.1.next, r2_.1.match_⟩ : Raft), (⟨r4_.2.2.kind, r4_.2.2.from_, max r2_.1.hard.term 1, (l.length : Int), max r2_.1.hard.term 1, r4_.2.2.commit, r4_.2.2.yes, r4_.2.2.release, r4_.2.2.part, r4_.2.2.bytes, r4_.2.2.cmd, [(⟨max r2_.1.hard.term 1, r5_.2.2⟩ : Ent), (⟨max r2_.1.hard.term 1, r6_.2.2⟩ : Ent), (⟨max r2_.1.hard.term 1, r7_.2.2⟩ : Ent)]⟩ : Msg)), (by unfold SmallR; (try dsimp only); (try simp only [List.length_cons, List.length_nil]); omega), KF.n []⟩
     refine dv (AW.cF (r2_.1.role == 1) (beq_eq_false_iff_ne.2 h3) <| AW.skip <| AW.seq <| AW.gD Tryz_mix <| At.zD 4 <| AW.ret ·) ?_
     refine dv (⟨_, (Sub.trans (Sub.trans (Sub.trans (Sub.trans (Sub.refl _ _) (Sub.frz 1220 45 6 (r2_.1.hard.log.map encEnt) (by kernel_rfl) flatEnts)) (Sub.frz 1221 3 1 (r2_.1.yes.map encI) (by kernel_rfl) flatInts)) (Sub.frz 1222 3 1 (r2_.1.next.map encI) (by kernel_rfl) flatInts)) (Sub.frz 1223 3 1 (r2_.1.match_.map encI) (by kernel_rfl) flatInts)), ·⟩) ?_
     exact ⟨(r2_.1, r2_.2), (by exact qr2_), KF.n []⟩
   refine dv (At.sB 20 (raftOk r2_.1) false (sayB (Bool.eq_false_iff.2 h2)) ·) ?_
   replace h2 := Bool.eq_false_iff.2 h2
   refine dv (At.z 4 ·) ?_
   refine dv (fun h_ => AW.cond false (by kernel_rfl) (fun h => by cases h) (fun _ => h_)) ?_
   refine dv (AW.skip <| AW.seq <| AW.gD Tryz_mix <| At.zD 4 <| AW.ret ·) ?_
   refine dv (⟨_, (Sub.trans (Sub.trans (Sub.trans (Sub.trans (Sub.refl _ _) (Sub.frz 1220 45 6 (r2_.1.hard.log.map encEnt) (by kernel_rfl) flatEnts)) (Sub.frz 1221 3 1 (r2_.1.yes.map encI) (by kernel_rfl) flatInts)) (Sub.frz 1222 3 1 (r2_.1.next.map encI) (by kernel_rfl) flatInts)) (Sub.frz 1223 3 1 (r2_.1.match_.map encI) (by kernel_rfl) flatInts)), ·⟩) ?_
   exact ⟨(r2_.1, r2_.2), (by exact qr2_), KF.n []⟩
 refine dv (At.sB 16 r3_.2.2 false (sayB (Bool.eq_false_iff.2 h1)) ·) ?_
 replace h1 := Bool.eq_false_iff.2 h1
 refine dv (At.z 8 ·) ?_
 refine dv (fun h_ => AW.cond false (by kernel_rfl) (fun h => by cases h) (fun _ => h_)) ?_
 refine dv (AW.skip <| AW.seq <| AW.gD Tryz_mix <| At.zD 4 <| AW.ret ·) ?_
 refine dv (⟨_, (Sub.trans (Sub.trans (Sub.trans (Sub.trans (Sub.refl _ _) (Sub.frz 1220 45 6 (r2_.1.hard.log.map encEnt) (by kernel_rfl) flatEnts)) (Sub.frz 1221 3 1 (r2_.1.yes.map encI) (by kernel_rfl) flatInts)) (Sub.frz 1222 3 1 (r2_.1.next.map encI) (by kernel_rfl) flatInts)) (Sub.frz 1223 3 1 (r2_.1.match_.map encI) (by kernel_rfl) flatInts)), ·⟩) ?_
 exact ⟨(r2_.1, r2_.2), (by exact qr2_), KF.n []⟩
theorem laws_at_spec (code : List UInt8) (i : Int) (hc : code.length ≤ 1048576) (hi : 0 ≤ i ∧ i ≤ 1000) : ∃ rho_ : Int, (0 ≤ rho_ ∧ rho_ ≤ 255) ∧ FnSpec Tryz.prog 6 [.sl false 1 (code.map encU8), nI i] [] (nI rho_) []:= by
 refine dv (fun h_ => FnSpec.of 20 Tryz.func6 rfl Tryz.ntmps6 (by simp) (AW.weakK h_)) ?_
 refine dv (AW.q 1 <| AW.seq <| AW.r <| At.a 3 <| At.sL 7 encU8 code <| At.z 1 ·) ?_
 by_cases h1 : i < (code.length : Int)
 · refine dv (AW.dT h1 <| AW.r <| At.a 2 ·) ?_
   refine dv (At.iSl 22 11 (.tmp 9) (.tmp 10) false 1 (code.map encU8) .i64 i 5 (by omega) (by simp only [List.length_map]; omega) ·) ?_
   refine Exists.elim (gE code ((i).toNat) (by omega)) fun e1 he1 => ?_
   have hbe1 := UInt8.toNat_lt e1
   refine dv (At.lVp 5 12 (.tmp 11) false 1 (code.map encU8) ((i).toNat) 0 false 1 (encU8 e1) (.int .u8 (e1.toNat : Int)) (mapGet he1) ·) ?_
   refine dv (At.conv (s := 5) (t := 3) (d := 13) (x := .tmp 12) (kd := .u8) (kd' := .i64) (a := (e1.toNat : Int)) (nI (e1.toNat : Int)) (by kernel_rfl) (by kernel_rfl) (by kernel_rfl) (by kernel_rfl) (sayI _ (by have := UInt8.toNat_lt e1; omega)) ·) ?_
   refine dv (At.z 1 <| AW.ret ·) ?_
   refine dv (⟨_, Sub.refl _ _, ·⟩) ?_
   exact ⟨((e1.toNat : Int)), (by (try dsimp only); omega), KF.n []⟩
 refine dv (AW.dF h1 <| AW.skip <| AW.r <| At.a 2 ·) ?_
 refine dv (At.sI 15 (i * 7) (by omega) ·) ?_
 refine dv (At.a 2 <| At.sL 17 encU8 code <| At.a 1 ·) ?_
 refine dv (At.sI 18 ((i * 7) + (code.length : Int)) (by omega) ·) ?_
 refine dv (At.div (t := 3) (u := 3) (d := 19) (op := .rem) (x := .tmp 18) (y := .const (.int .i64 256)) (kd := .i64) (a := (i * 7) + (code.length : Int)) (b := 256) (by kernel_rfl) (by kernel_rfl) (by kernel_rfl) (by kernel_rfl) (by omega) (nI (((i * 7) + (code.length : Int)).tmod 256)) (.inr ⟨rfl, rfl⟩) ·) ?_
 refine dv (At.say 19 (nI (((i * 7) + (code.length : Int)).tmod 256)) (nI (((i * 7) + (code.length : Int)) % 256)) (by kernel_rfl) (sayRem (by omega)) ·) ?_
 refine dv (At.z 1 <| AW.ret ·) ?_
 refine dv (⟨_, Sub.refl _ _, ·⟩) ?_
 exact ⟨(((i * 7) + (code.length : Int)) % 256), (by (try dsimp only); omega), KF.n []⟩
theorem spec_DrawOnAsk_spec (code : List UInt8) (hc : code.length ≤ 1048576) : ∃ rho_ : Raft × Msg, (SmallR rho_.1 ∧ rho_.2.entries.length ≤ 1000) ∧ FnSpec Tryz.prog 7 [.sl false 1 (code.map encU8)] [] (.tup [.agg (rC rho_.1 (.sl true 6 (rho_.1.hard.log.map encEnt)) (.sl true 1 (rho_.1.yes.map encI)) (.sl true 1 (rho_.1.next.map encI)) (.sl true 1 (rho_.1.match_.map encI))), .agg (mC rho_.2 (.sl true 6 (rho_.2.entries.map encEnt)))]) []:= by
 refine dv (fun h_ => FnSpec.of 13 Tryz.func7 rfl Tryz.ntmps7 (by simp) (AW.weakK h_)) ?_
 refine dv (AW.q 2 <| AW.seq <| AW.weak (Sub.nils [⟨true, 102, some 6, 5001, 45, 6⟩, ⟨true, 102, some 7, 5002, 3, 1⟩, ⟨true, 102, some 8, 5003, 3, 1⟩, ⟨true, 102, some 9, 5004, 3, 1⟩, ⟨true, 103, some 15, 5005, 45, 6⟩] (by kernel_rfl)) <| AW.g <| At.a 1 ·) ?_
 refine exE (spec_l10DrawPair_spec code 1 hc) fun r1_ qr1_ hr1_ => ?_
 refine dv (At.c (hr1_) Tryz.call17 true [] (fr 1160 0 4) [] trivial <| At.z 7 <| AW.seq <| AW.gD Tryz_mix <| At.zD 4 <| AW.ret ·) ?_
 refine dv (⟨_, (Sub.trans (Sub.trans (Sub.trans (Sub.trans (Sub.refl _ _) (Sub.frz 1160 45 6 (r1_.1.hard.log.map encEnt) (by kernel_rfl) flatEnts)) (Sub.frz 1161 3 1 (r1_.1.yes.map encI) (by kernel_rfl) flatInts)) (Sub.frz 1162 3 1 (r1_.1.next.map encI) (by kernel_rfl) flatInts)) (Sub.frz 1163 3 1 (r1_.1.match_.map encI) (by kernel_rfl) flatInts)), ·⟩) ?_
 exact ⟨(r1_.1, r1_.2), qr1_, KF.n []⟩
theorem spec_DrawOnYes_spec (code : List UInt8) (hc : code.length ≤ 1048576) : ∃ rho_ : Raft × Msg, (SmallR rho_.1 ∧ rho_.2.entries.length ≤ 1000) ∧ FnSpec Tryz.prog 8 [.sl false 1 (code.map encU8)] [] (.tup [.agg (rC rho_.1 (.sl true 6 (rho_.1.hard.log.map encEnt)) (.sl true 1 (rho_.1.yes.map encI)) (.sl true 1 (rho_.1.next.map encI)) (.sl true 1 (rho_.1.match_.map encI))), .agg (mC rho_.2 (.sl true 6 (rho_.2.entries.map encEnt)))]) []:= by
 refine dv (fun h_ => FnSpec.of 13 Tryz.func8 rfl Tryz.ntmps8 (by simp) (AW.weakK h_)) ?_
 refine dv (AW.q 2 <| AW.seq <| AW.weak (Sub.nils [⟨true, 102, some 6, 5001, 45, 6⟩, ⟨true, 102, some 7, 5002, 3, 1⟩, ⟨true, 102, some 8, 5003, 3, 1⟩, ⟨true, 102, some 9, 5004, 3, 1⟩, ⟨true, 103, some 15, 5005, 45, 6⟩] (by kernel_rfl)) <| AW.g <| At.a 1 ·) ?_
 refine exE (spec_l10DrawPair_spec code 2 hc) fun r1_ qr1_ hr1_ => ?_
 refine dv (At.c (hr1_) Tryz.call17 true [] (fr 1160 0 4) [] trivial <| At.z 7 <| AW.seq <| AW.gD Tryz_mix <| At.zD 4 <| AW.ret ·) ?_
 refine dv (⟨_, (Sub.trans (Sub.trans (Sub.trans (Sub.trans (Sub.refl _ _) (Sub.frz 1160 45 6 (r1_.1.hard.log.map encEnt) (by kernel_rfl) flatEnts)) (Sub.frz 1161 3 1 (r1_.1.yes.map encI) (by kernel_rfl) flatInts)) (Sub.frz 1162 3 1 (r1_.1.next.map encI) (by kernel_rfl) flatInts)) (Sub.frz 1163 3 1 (r1_.1.match_.map encI) (by kernel_rfl) flatInts)), ·⟩) ?_
 exact ⟨(r1_.1, r1_.2), qr1_, KF.n []⟩
theorem spec_DrawOnGot_spec (code : List UInt8) (hc : code.length ≤ 1048576) : ∃ rho_ : Raft × Msg, (SmallR rho_.1 ∧ rho_.2.entries.length ≤ 1000) ∧ FnSpec Tryz.prog 9 [.sl false 1 (code.map encU8)] [] (.tup [.agg (rC rho_.1 (.sl true 6 (rho_.1.hard.log.map encEnt)) (.sl true 1 (rho_.1.yes.map encI)) (.sl true 1 (rho_.1.next.map encI)) (.sl true 1 (rho_.1.match_.map encI))), .agg (mC rho_.2 (.sl true 6 (rho_.2.entries.map encEnt)))]) []:= by
 refine dv (fun h_ => FnSpec.of 13 Tryz.func9 rfl Tryz.ntmps9 (by simp) (AW.weakK h_)) ?_
 refine dv (AW.q 2 <| AW.seq <| AW.weak (Sub.nils [⟨true, 102, some 6, 5001, 45, 6⟩, ⟨true, 102, some 7, 5002, 3, 1⟩, ⟨true, 102, some 8, 5003, 3, 1⟩, ⟨true, 102, some 9, 5004, 3, 1⟩, ⟨true, 103, some 15, 5005, 45, 6⟩] (by kernel_rfl)) <| AW.g <| At.a 1 ·) ?_
 refine exE (spec_l10DrawPair_spec code 4 hc) fun r1_ qr1_ hr1_ => ?_
 refine dv (At.c (hr1_) Tryz.call17 true [] (fr 1160 0 4) [] trivial <| At.z 7 <| AW.seq <| AW.gD Tryz_mix <| At.zD 4 <| AW.ret ·) ?_
 refine dv (⟨_, (Sub.trans (Sub.trans (Sub.trans (Sub.trans (Sub.refl _ _) (Sub.frz 1160 45 6 (r1_.1.hard.log.map encEnt) (by kernel_rfl) flatEnts)) (Sub.frz 1161 3 1 (r1_.1.yes.map encI) (by kernel_rfl) flatInts)) (Sub.frz 1162 3 1 (r1_.1.next.map encI) (by kernel_rfl) flatInts)) (Sub.frz 1163 3 1 (r1_.1.match_.map encI) (by kernel_rfl) flatInts)), ·⟩) ?_
 exact ⟨(r1_.1, r1_.2), qr1_, KF.n []⟩
theorem impl_copyLog_spec (l : List Ent) (hl : l.length ≤ 1048576) : FnSpec Tryz.prog 98 [.sl false 6 (l.map encEnt)] [] (.ref 0) [.arr 45 6 (l.map encEnt)]:= by
 refine FnSpec.of 6 Tryz.func98 rfl Tryz.ntmps98 (by simp) (AW.weakK ?_)
 exact AW.q 1 <| AW.r <| At.l0 24 3 45 6 56 103 <| At.a 1 <| At.append (t := 24) (d := 5) (e := 45) (es := 6) (bytes := 56) (s := .tmp 3) (x := .tmp 4) (S := .ref 103) (T := .sl false 6 (l.map encEnt)) (xs := []) (ys := (l.map encEnt)) 105 [103] [] (l.map encEnt) (by kernel_rfl) (by kernel_rfl) (by kernel_rfl) (by kernel_rfl) ⟨by kernel_rfl, rfl⟩ ⟨rfl, rfl, (allP_encEnt _), rfl⟩ (by kernel_rfl) (by kernel_rfl) (by simp) (by simp only [List.length_map, lens]; omega) (by simp only [List.length_map, lens]; omega) <| At.z 1 <| AW.ret (rf (KF.n [(105, 0)]))
theorem impl_copyHard_spec (h : Hard) (hl : h.log.length ≤ 1048576) : FnSpec Tryz.prog 113 [.agg [nI h.term, nI h.vote, .sl false 6 (h.log.map encEnt)]] [] (.agg [nI h.term, nI h.vote, .ref 0]) [.arr 45 6 (h.log.map encEnt)]:= by
 refine FnSpec.of 8 Tryz.func113 rfl Tryz.ntmps113 (by simp) (AW.weakK ?_)
 exact AW.q 2 <| AW.seq <| AW.weak (Sub.nils [⟨true, 102, some 2, 5001, 45, 6⟩] (by kernel_rfl)) <| AW.g <| At.a 2 <| At.c (impl_copyLog_spec h.log (by omega)) Tryz.call98 true [] [(1100, 0)] [] trivial <| At.z 2 <| AW.q 2 <| AW.ret (rf (KF.n [(1100, 0)]))
theorem impl_copyInts_spec (l : List Int) (hl : l.length ≤ 1048576) : FnSpec Tryz.prog 114 [.sl false 1 (l.map encI)] [] (.ref 0) [.arr 3 1 (l.map encI)]:= by
 refine FnSpec.of 6 Tryz.func114 rfl Tryz.ntmps114 (by simp) (AW.weakK ?_)
 exact AW.q 1 <| AW.r <| At.l0 27 3 3 1 8 103 <| At.a 1 <| At.append (t := 27) (d := 5) (e := 3) (es := 1) (bytes := 8) (s := .tmp 3) (x := .tmp 4) (S := .ref 103) (T := .sl false 1 (l.map encI)) (xs := []) (ys := (l.map encI)) 105 [103] [] (l.map encI) (by kernel_rfl) (by kernel_rfl) (by kernel_rfl) (by kernel_rfl) ⟨by kernel_rfl, rfl⟩ ⟨rfl, rfl, (allP_encI _), rfl⟩ (by kernel_rfl) (by kernel_rfl) (by simp) (by simp only [List.length_map, lens]; omega) (by simp only [List.length_map, lens]; omega) <| At.z 1 <| AW.ret (rf (KF.n [(105, 0)]))
theorem impl_copyRaft_spec (r : Raft) (hz : SmallR r) : FnSpec Tryz.prog 90 [(raftA r)] [] (.agg (rC r (.ref 0) (.ref 1) (.ref 2) (.ref 3))) [.arr 45 6 (r.hard.log.map encEnt), .arr 3 1 (r.yes.map encI), .arr 3 1 (r.next.map encI), .arr 3 1 (r.match_.map encI)]:= by
 obtain ⟨z1, z2, z3, z4⟩ := id hz
 refine FnSpec.of 20 Tryz.func90 rfl Tryz.ntmps90 (by simp) (AW.weakK ?_)
 exact AW.q 2 <| AW.seq <| AW.weak (Sub.nils [⟨true, 102, some 6, 5001, 45, 6⟩, ⟨true, 102, some 7, 5002, 3, 1⟩, ⟨true, 102, some 8, 5003, 3, 1⟩, ⟨true, 102, some 9, 5004, 3, 1⟩] (by kernel_rfl)) <| AW.g <| At.a 2 <| At.c (impl_copyHard_spec r.hard (by omega)) Tryz.call113 true [] [(1100, 0)] [] trivial <| At.z 2 <| AW.seq <| AW.gD Tryz_mix <| At.a 2 <| At.c (impl_copyInts_spec r.yes (by omega)) Tryz.call114 true [] [(1180, 0)] [] trivial <| At.a 2 <| At.c (impl_copyInts_spec r.next (by omega)) Tryz.call114 true [] [(1240, 0)] [] trivial <| At.a 2 <| At.c (impl_copyInts_spec r.match_ (by omega)) Tryz.call114 true [] [(1300, 0)] [] trivial <| At.zD 6 <| AW.q 2 <| AW.ret (rf (KF.n [(1100, 0), (1180, 1), (1240, 2), (1300, 3)]))
theorem impl_stepOf_spec (r : Raft) (hz : SmallR r) : FnSpec Tryz.prog 51 [(raftA r)] [] (.ptr 0 0 0) [.box 86 (rC r (.ref 1) (.ref 2) (.ref 3) (.ref 4) ++ rV r ++ [.ref 5, .ref 6]), .arr 45 6 (r.hard.log.map encEnt), .arr 3 1 (r.yes.map encI), .arr 3 1 (r.next.map encI), .arr 3 1 (r.match_.map encI), .arr 47 10 [], .arr 51 17 []]:= by
 obtain ⟨z1, z2, z3, z4⟩ := id hz
 refine FnSpec.of 8 Tryz.func51 rfl Tryz.ntmps51 (by simp) (AW.weakK ?_)
 refine AW.q 2 <| AW.seq <| AW.gD Tryz_mix <| At.a 1 <| At.c (impl_copyRaft_spec r (by omega)) Tryz.call90 true [] (fr 1080 0 4) [] trivial <| At.zD 4 <| AW.ret ?_
 refine ⟨_, Sub.nils [⟨true, 107, some 20, 5001, 47, 10⟩, ⟨true, 107, some 21, 5002, 51, 17⟩] (by kernel_rfl), ?_⟩
 exact KF.n [(107, 0), (1080, 1), (1081, 2), (1082, 3), (1083, 4), (5001, 5), (5002, 6)]
theorem impl_isOf_spec (of : Int) : FnSpec Tryz.prog 32 [nI of] [] (.bool (ofOk of)) []:= by
 refine FnSpec.of 13 Tryz.func32 rfl Tryz.ntmps32 (by simp) (AW.weakK ?_)
 refine AW.q 1 <| AW.r <| At.a 3 ?_
 by_cases h1 : of = 1
 · refine At.sB 5 _ _ (sayET h1) <| At.z 8 <| AW.ret ?_
   refine ⟨_, Sub.refl _ _, ?_⟩
   refine KF.conv (fun w => .bool w) (fun w => []) (show (true) = (ofOk of) from by simp_all [ofOk]) ?_
   exact KF.n []
 refine At.sB 5 _ _ (sayEF h1) <| At.a 4 ?_
 by_cases h2 : of = 3
 · refine At.sB 9 _ _ (sayET h2) <| At.z 4 <| AW.ret ?_
   refine ⟨_, Sub.refl _ _, ?_⟩
   refine KF.conv (fun w => .bool w) (fun w => []) (show (true) = (ofOk of) from by simp_all [ofOk]) ?_
   exact KF.n []
 refine At.sB 9 _ _ (sayEF h2) <| At.z 4 <| AW.ret ?_
 refine ⟨_, Sub.refl _ _, ?_⟩
 refine KF.conv (fun w => .bool w) (fun w => []) (show (of == 5) = (ofOk of) from by simp_all [ofOk]) ?_
 exact KF.n []
theorem impl_within_spec (n : Int) (low : Int) (high : Int) : FnSpec Tryz.prog 33 [nI n, nI low, nI high] [] (.bool (inR n low high)) []:= by
 refine FnSpec.of 15 Tryz.func33 rfl Tryz.ntmps33 (by simp) (AW.weakK ?_)
 refine AW.q 1 <| AW.r <| At.a 4 ?_
 by_cases h1 : n ≥ low
 · refine At.sB 10 _ _ (sayT h1) <| At.z 5 <| AW.ret ?_
   refine ⟨_, Sub.refl _ _, ?_⟩
   refine KF.conv (fun w => .bool w) (fun w => []) (show (decide (n ≤ high)) = (inR n low high) from by simp [inR, *]) ?_
   exact KF.n []
 refine At.sB 10 _ _ (sayF h1) <| At.z 5 <| AW.ret ?_
 refine ⟨_, Sub.refl _ _, ?_⟩
 refine KF.conv (fun w => .bool w) (fun w => []) (show (false) = (inR n low high) from by simp [inR, *]) ?_
 exact KF.n []
theorem impl_isRelease_spec (n : Int) : FnSpec Tryz.prog 74 [nI n] [] (.bool (inR n 1 1000)) []:= by
 refine FnSpec.of 5 Tryz.func74 rfl Tryz.ntmps74 (by simp) (AW.weakK ?_)
 exact AW.q 1 <| AW.r <| At.a 1 <| At.c (impl_within_spec n 1 1000) Tryz.call33 true [] [] [] trivial <| At.z 1 <| AW.ret (rf (KF.n []))
theorem impl_isSize_spec (n : Int) : FnSpec Tryz.prog 75 [nI n] [] (.bool (inR n 0 1000)) []:= by
 refine FnSpec.of 5 Tryz.func75 rfl Tryz.ntmps75 (by simp) (AW.weakK ?_)
 exact AW.q 1 <| AW.r <| At.a 1 <| At.c (impl_within_spec n 0 1000) Tryz.call33 true [] [] [] trivial <| At.z 1 <| AW.ret (rf (KF.n []))
theorem impl_isNode_spec (n : Int) : FnSpec Tryz.prog 73 [nI n] [] (.bool (inR n 0 4)) []:= by
 refine FnSpec.of 5 Tryz.func73 rfl Tryz.ntmps73 (by simp) (AW.weakK ?_)
 exact AW.q 1 <| AW.r <| At.a 1 <| At.c (impl_within_spec n 0 4) Tryz.call33 true [] [] [] trivial <| At.z 1 <| AW.ret (rf (KF.n []))
def K_impl_CmdOk (rs : List ResultVar) (c : Cmd) (w0_ : Bool) : Exit → Sg → Prop := KF Tryz.prog 0 rs (.bool w0_) []
theorem impl_CmdOk_spec (c : Cmd) : FnSpec Tryz.prog 70 [.agg [nI c.kind, nI c.release, nI c.node, nI c.size, .str c.digest]] [] (.bool (cmdOk c)) []:= by
 refine FnSpec.of 52 Tryz.func70 rfl Tryz.ntmps70 (by simp) (AW.weakK ?_)
 refine AW.q 2 <| AW.q 3 <| AW.q 4 <| AW.r <| At.a 2 <| At.c (impl_isRelease_spec c.release) Tryz.call74 true [] [] [] trivial <| At.z 1 <| AW.seq <| AW.q 2 <| AW.block <| AW.q 2 <| AW.cE c.kind (1 : Int) (fun h1 => ?_) (fun h1 => ?_)
 · refine AW.gq 4 <| AW.r <| At.a 2 ?_
   by_cases h2 : c.release = 0
   · exact At.sB 47 _ _ (sayET h2) <| At.a 2 <| At.eqA (t := 31) (u := 31) (d := 50) (op := .eql) (x := .tmp 48) (y := .tmp 49) (X := [nI 0, nI 0, nI c.node, nI c.size, .str c.digest]) (Y := [nI 0, nI 0, nI 0, nI 0, .str eB]) (cmdEq (⟨0, 0, c.node, c.size, c.digest⟩ : Cmd) (⟨0, 0, 0, 0, eB⟩ : Cmd)) (by kernel_rfl) (by kernel_rfl) (by kernel_rfl) (by kernel_rfl) (by kernel_rfl) (.bool (cmdEq (⟨0, 0, c.node, c.size, c.digest⟩ : Cmd) (⟨0, 0, 0, 0, eB⟩ : Cmd))) (.inl ⟨rfl, rfl⟩) <| At.z 2 <| AW.ret (rf (k1 (K_impl_CmdOk _ c) (show (cmdEq (⟨0, 0, c.node, c.size, c.digest⟩ : Cmd) (⟨0, 0, 0, 0, eB⟩ : Cmd)) = _ from by (try simp only [inR_iff, inR_not] at *); rw [Bool.eq_iff_iff]; simp only [cmdOk, cmdEq, noBytes]; (repeat' split) <;> (try simp [inR_iff]) <;> grind) (KF.n [])))
   exact At.sB 47 _ _ (sayEF h2) <| At.z 5 <| AW.ret (rf (k1 (K_impl_CmdOk _ c) (show (false) = _ from by (try simp only [inR_iff, inR_not] at *); rw [Bool.eq_iff_iff]; simp only [cmdOk, cmdEq, noBytes]; (repeat' split) <;> (try simp [inR_iff]) <;> grind) (KF.n [])))
 refine AW.q 2 <| AW.cE c.kind (2 : Int) (fun h3 => ?_) (fun h3 => ?_)
 · refine AW.r <| At.a 2 ?_
   by_cases h4 : (inR c.release 1 1000) = true
   · refine At.sB 21 (inR c.release 1 1000) true (sayB h4) <| At.a 2 <| At.c (impl_isSize_spec c.size) Tryz.call75 true [] [] [] trivial <| At.a 2 ?_
     by_cases h5 : (inR c.size 0 1000) = true
     · refine At.sB 26 (inR c.size 0 1000) true (sayB h5) <| At.z 6 <| AW.gq 4 <| AW.r <| At.a 2 ?_
       by_cases h6 : (c.digest.size : Int) = 32
       · exact At.sB 47 _ _ (sayET h6) <| At.a 2 <| At.eqA (t := 31) (u := 31) (d := 50) (op := .eql) (x := .tmp 48) (y := .tmp 49) (X := [nI 0, nI 0, nI c.node, nI 0, .str eB]) (Y := [nI 0, nI 0, nI 0, nI 0, .str eB]) (cmdEq (⟨0, 0, c.node, 0, eB⟩ : Cmd) (⟨0, 0, 0, 0, eB⟩ : Cmd)) (by kernel_rfl) (by kernel_rfl) (by kernel_rfl) (by kernel_rfl) (by kernel_rfl) (.bool (cmdEq (⟨0, 0, c.node, 0, eB⟩ : Cmd) (⟨0, 0, 0, 0, eB⟩ : Cmd))) (.inl ⟨rfl, rfl⟩) <| At.z 2 <| AW.ret (rf (k1 (K_impl_CmdOk _ c) (show (cmdEq (⟨0, 0, c.node, 0, eB⟩ : Cmd) (⟨0, 0, 0, 0, eB⟩ : Cmd)) = _ from by (try simp only [inR_iff, inR_not] at *); rw [Bool.eq_iff_iff]; simp only [cmdOk, cmdEq, noBytes]; (repeat' split) <;> (try simp [inR_iff]) <;> grind) (KF.n [])))
       exact At.sB 47 _ _ (sayEF h6) <| At.z 5 <| AW.ret (rf (k1 (K_impl_CmdOk _ c) (show (false) = _ from by (try simp only [inR_iff, inR_not] at *); rw [Bool.eq_iff_iff]; simp only [cmdOk, cmdEq, noBytes]; (repeat' split) <;> (try simp [inR_iff]) <;> grind) (KF.n [])))
     refine At.sB 26 (inR c.size 0 1000) false (sayB (Bool.eq_false_iff.2 h5)) ?_
     replace h5 := Bool.eq_false_iff.2 h5
     exact At.z 6 <| AW.gq 4 <| AW.q 7 <| AW.ret (rf (k1 (K_impl_CmdOk _ c) (show (false) = _ from by (try simp only [inR_iff, inR_not] at *); rw [Bool.eq_iff_iff]; simp only [cmdOk, cmdEq, noBytes]; (repeat' split) <;> (try simp [inR_iff]) <;> grind) (KF.n [])))
   refine At.sB 21 (inR c.release 1 1000) false (sayB (Bool.eq_false_iff.2 h4)) ?_
   replace h4 := Bool.eq_false_iff.2 h4
   exact At.z 11 <| AW.gq 4 <| AW.q 7 <| AW.ret (rf (k1 (K_impl_CmdOk _ c) (show (false) = _ from by (try simp only [inR_iff, inR_not] at *); rw [Bool.eq_iff_iff]; simp only [cmdOk, cmdEq, noBytes]; (repeat' split) <;> (try simp [inR_iff]) <;> grind) (KF.n [])))
 refine AW.q 2 <| AW.cE c.kind (3 : Int) (fun h7 => ?_) (fun h7 => ?_)
 · refine AW.r <| At.a 2 ?_
   by_cases h8 : (inR c.release 1 1000) = true
   · refine At.sB 37 (inR c.release 1 1000) true (sayB h8) <| At.a 2 <| At.c (impl_isNode_spec c.node) Tryz.call73 true [] [] [] trivial <| At.z 2 <| AW.gq 2 <| AW.r <| At.a 2 ?_
     by_cases h9 : (inR c.node 0 4) = true
     · exact At.sB 47 (inR c.node 0 4) true (sayB h9) <| At.a 2 <| At.eqA (t := 31) (u := 31) (d := 50) (op := .eql) (x := .tmp 48) (y := .tmp 49) (X := [nI 0, nI 0, nI 0, nI c.size, .str c.digest]) (Y := [nI 0, nI 0, nI 0, nI 0, .str eB]) (cmdEq (⟨0, 0, 0, c.size, c.digest⟩ : Cmd) (⟨0, 0, 0, 0, eB⟩ : Cmd)) (by kernel_rfl) (by kernel_rfl) (by kernel_rfl) (by kernel_rfl) (by kernel_rfl) (.bool (cmdEq (⟨0, 0, 0, c.size, c.digest⟩ : Cmd) (⟨0, 0, 0, 0, eB⟩ : Cmd))) (.inl ⟨rfl, rfl⟩) <| At.z 2 <| AW.ret (rf (k1 (K_impl_CmdOk _ c) (show (cmdEq (⟨0, 0, 0, c.size, c.digest⟩ : Cmd) (⟨0, 0, 0, 0, eB⟩ : Cmd)) = _ from by (try simp only [inR_iff, inR_not] at *); rw [Bool.eq_iff_iff]; simp only [cmdOk, cmdEq, noBytes]; (repeat' split) <;> (try simp [inR_iff]) <;> grind) (KF.n [])))
     refine At.sB 47 (inR c.node 0 4) false (sayB (Bool.eq_false_iff.2 h9)) ?_
     replace h9 := Bool.eq_false_iff.2 h9
     exact At.z 5 <| AW.ret (rf (k1 (K_impl_CmdOk _ c) (show (false) = _ from by (try simp only [inR_iff, inR_not] at *); rw [Bool.eq_iff_iff]; simp only [cmdOk, cmdEq, noBytes]; (repeat' split) <;> (try simp [inR_iff]) <;> grind) (KF.n [])))
   refine At.sB 37 (inR c.release 1 1000) false (sayB (Bool.eq_false_iff.2 h8)) ?_
   replace h8 := Bool.eq_false_iff.2 h8
   exact At.z 5 <| AW.gq 2 <| AW.q 7 <| AW.ret (rf (k1 (K_impl_CmdOk _ c) (show (false) = _ from by (try simp only [inR_iff, inR_not] at *); rw [Bool.eq_iff_iff]; simp only [cmdOk, cmdEq, noBytes]; (repeat' split) <;> (try simp [inR_iff]) <;> grind) (KF.n [])))
 refine AW.seq <| AW.q 2 <| AW.cE c.kind (4 : Int) (fun h10 => ?_) (fun h10 => ?_)
 · refine AW.skip <| AW.cE c.kind (4 : Int) (fun h11 => ?_) (fun h11 => ?_)
   · refine AW.skip <| AW.r <| At.a 2 ?_
     by_cases h12 : (inR c.release 1 1000) = true
     · exact At.sB 47 (inR c.release 1 1000) true (sayB h12) <| At.a 2 <| At.eqA (t := 31) (u := 31) (d := 50) (op := .eql) (x := .tmp 48) (y := .tmp 49) (X := [nI 0, nI 0, nI c.node, nI c.size, .str c.digest]) (Y := [nI 0, nI 0, nI 0, nI 0, .str eB]) (cmdEq (⟨0, 0, c.node, c.size, c.digest⟩ : Cmd) (⟨0, 0, 0, 0, eB⟩ : Cmd)) (by kernel_rfl) (by kernel_rfl) (by kernel_rfl) (by kernel_rfl) (by kernel_rfl) (.bool (cmdEq (⟨0, 0, c.node, c.size, c.digest⟩ : Cmd) (⟨0, 0, 0, 0, eB⟩ : Cmd))) (.inl ⟨rfl, rfl⟩) <| At.z 2 <| AW.ret (rf (k1 (K_impl_CmdOk _ c) (show (cmdEq (⟨0, 0, c.node, c.size, c.digest⟩ : Cmd) (⟨0, 0, 0, 0, eB⟩ : Cmd)) = _ from by (try simp only [inR_iff, inR_not] at *); rw [Bool.eq_iff_iff]; simp only [cmdOk, cmdEq, noBytes]; (repeat' split) <;> (try simp [inR_iff]) <;> grind) (KF.n [])))
     refine At.sB 47 (inR c.release 1 1000) false (sayB (Bool.eq_false_iff.2 h12)) ?_
     replace h12 := Bool.eq_false_iff.2 h12
     exact At.z 5 <| AW.ret (rf (k1 (K_impl_CmdOk _ c) (show (false) = _ from by (try simp only [inR_iff, inR_not] at *); rw [Bool.eq_iff_iff]; simp only [cmdOk, cmdEq, noBytes]; (repeat' split) <;> (try simp [inR_iff]) <;> grind) (KF.n [])))
   exact AW.q 1 <| AW.ret (rf (k1 (K_impl_CmdOk _ c) (show (false) = _ from by (try simp only [inR_iff, inR_not] at *); rw [Bool.eq_iff_iff]; simp only [cmdOk, cmdEq, noBytes]; (repeat' split) <;> (try simp [inR_iff]) <;> grind) (KF.n [])))
 refine AW.gq 2 <| AW.cE c.kind (5 : Int) (fun h13 => ?_) (fun h13 => ?_)
 · refine AW.skip <| AW.r <| At.a 2 ?_
   by_cases h14 : (inR c.release 1 1000) = true
   · exact At.sB 47 (inR c.release 1 1000) true (sayB h14) <| At.a 2 <| At.eqA (t := 31) (u := 31) (d := 50) (op := .eql) (x := .tmp 48) (y := .tmp 49) (X := [nI 0, nI 0, nI c.node, nI c.size, .str c.digest]) (Y := [nI 0, nI 0, nI 0, nI 0, .str eB]) (cmdEq (⟨0, 0, c.node, c.size, c.digest⟩ : Cmd) (⟨0, 0, 0, 0, eB⟩ : Cmd)) (by kernel_rfl) (by kernel_rfl) (by kernel_rfl) (by kernel_rfl) (by kernel_rfl) (.bool (cmdEq (⟨0, 0, c.node, c.size, c.digest⟩ : Cmd) (⟨0, 0, 0, 0, eB⟩ : Cmd))) (.inl ⟨rfl, rfl⟩) <| At.z 2 <| AW.ret (rf (k1 (K_impl_CmdOk _ c) (show (cmdEq (⟨0, 0, c.node, c.size, c.digest⟩ : Cmd) (⟨0, 0, 0, 0, eB⟩ : Cmd)) = _ from by (try simp only [inR_iff, inR_not] at *); rw [Bool.eq_iff_iff]; simp only [cmdOk, cmdEq, noBytes]; (repeat' split) <;> (try simp [inR_iff]) <;> grind) (KF.n [])))
   refine At.sB 47 (inR c.release 1 1000) false (sayB (Bool.eq_false_iff.2 h14)) ?_
   replace h14 := Bool.eq_false_iff.2 h14
   exact At.z 5 <| AW.ret (rf (k1 (K_impl_CmdOk _ c) (show (false) = _ from by (try simp only [inR_iff, inR_not] at *); rw [Bool.eq_iff_iff]; simp only [cmdOk, cmdEq, noBytes]; (repeat' split) <;> (try simp [inR_iff]) <;> grind) (KF.n [])))
 exact AW.q 1 <| AW.ret (rf (k1 (K_impl_CmdOk _ c) (show (false) = _ from by (try simp only [inR_iff, inR_not] at *); rw [Bool.eq_iff_iff]; simp only [cmdOk, cmdEq, noBytes]; (repeat' split) <;> (try simp [inR_iff]) <;> grind) (KF.n [])))
theorem impl_lastTerm_spec (l : List Ent) (hl : l.length ≤ 1048576) : FnSpec Tryz.prog 66 [.sl false 6 (l.map encEnt)] [] (nI (lastT l)) []:= by
 refine FnSpec.of 13 Tryz.func66 rfl Tryz.ntmps66 (by simp) (AW.weakK ?_)
 refine AW.q 1 <| AW.seq <| AW.r <| At.a 2 <| At.sL 4 encEnt l <| At.z 1 <| AW.cE (l.length : Int) (0 : Int) (fun h1 => ?_) (fun h1 => ?_)
 · refine AW.q 1 <| AW.ret ?_
   refine ⟨_, Sub.refl _ _, ?_⟩
   refine KF.conv (fun w => nI w) (fun w => []) (show (0) = (lastT l) from by obtain rfl := List.length_eq_zero_iff.1 (show l.length = 0 by omega); rfl) ?_
   exact KF.n []
 refine AW.skip <| AW.r <| At.a 3 <| At.sL 8 encEnt l <| At.a 1 <| At.sI 9 ((l.length : Int) - 1) (by omega) <| At.iSl 24 10 (.tmp 6) (.tmp 9) false 6 (l.map encEnt) .i64 ((l.length : Int) - 1) 45 (by omega) (by simp only [List.length_map]; omega) <| At.a 1 ?_
 refine Exists.elim (gE l (((l.length : Int) - 1).toNat) (by omega)) fun e1 he1 => ?_
 refine At.lVp 3 12 (.tmp 11) false 6 (l.map encEnt) (((l.length : Int) - 1).toNat) 0 false 1 (encEnt e1) (nI e1.term) (mapGet he1) <| At.z 1 <| AW.ret ?_
 refine ⟨_, Sub.refl _ _, ?_⟩
 refine KF.conv (fun w => nI w) (fun w => []) (show (e1.term) = (lastT l) from by rw [show ((l.length : Int) - 1).toNat = l.length - 1 from by omega] at he1; simp [lastT, he1]) ?_
 exact KF.n []
theorem impl_isWhole_spec (n : Int) : FnSpec Tryz.prog 71 [nI n] [] (.bool (inR n 0 1000000000)) []:= by
 refine FnSpec.of 5 Tryz.func71 rfl Tryz.ntmps71 (by simp) (AW.weakK ?_)
 exact AW.q 1 <| AW.r <| At.a 1 <| At.c (impl_within_spec n 0 1000000000) Tryz.call33 true [] [] [] trivial <| At.z 1 <| AW.ret (rf (KF.n []))
theorem impl_HardOk_spec (h : Hard) (hl : h.log.length ≤ 1048576) : FnSpec Tryz.prog 34 [.agg [nI h.term, nI h.vote, .sl false 6 (h.log.map encEnt)]] [] (.bool (hardOk h)) []:= by
 refine FnSpec.of 46 Tryz.func34 rfl Tryz.ntmps34 (by simp) (AW.weakK ?_)
 refine AW.q 2 <| AW.seq <| AW.r <| At.a 3 <| At.sL 7 encEnt h.log <| At.z 1 <| AW.block <| AW.loopW (fun (k : Nat) => Go.Sy.mk [.un, .ptr 101 0 0, .un, .un, .un, .un, .sl false 6 (h.log.map encEnt), nI (h.log.length : Int), nI (k : Int)] [(101, .box 26 [nI h.term, nI h.vote, .sl false 6 (h.log.map encEnt)])]) (fun k => k ≤ h.log.length ∧ logOk h.term 0 h.log = logOk h.term (lastT (h.log.take k)) (h.log.drop k)) (fun k => h.log.length - k) 0 ⟨by omega, by simp [lastT]⟩ (Sub.o [(101, 101)] (bs 9 450)) ?_
 rintro k ⟨hk, hR⟩
 refine AW.q 1 <| AW.seq <| AW.cD ((k : Int) < (h.log.length : Int)) (fun h1 => ?_) (fun h1 => ?_)
 · refine AW.skip <| AW.seq <| AW.block <| AW.r <| At.a 1 <| At.iSl 24 11 (.tmp 6) (.tmp 8) false 6 (h.log.map encEnt) .i64 (k : Int) 45 (by omega) (by simp only [List.length_map]; omega) ?_
   refine Exists.elim (gE h.log k (by omega)) fun e1 he1 => ?_
   refine At.lVp 45 12 (.tmp 11) false 6 (h.log.map encEnt) k 0 true 6 (encEnt e1) (.agg [nI e1.term, nI e1.cmd.kind, nI e1.cmd.release, nI e1.cmd.node, nI e1.cmd.size, .str e1.cmd.digest]) (mapGet he1) <| At.z 3 <| AW.seq <| AW.gD Tryz_mix <| At.a 2 <| At.c (impl_CmdOk_spec e1.cmd) Tryz.call70 true [] [] [] trivial <| At.a 2 ?_
   by_cases h2 : (cmdOk e1.cmd) = true
   · refine At.sB 17 (!(cmdOk e1.cmd)) false (sayNF (sayB h2)) <| At.a 5 <| At.sliceSl (t := 24) (d := 23) (e := 45) (es := 6) (x := .tmp 21) (lx := none) (hx := some (.tmp 22)) (p := false) (xs := (h.log.map encEnt)) (vl := .un) (vh := nI (k : Int)) 0 k ((h.log.take k).map encEnt) (by kernel_rfl) (by kernel_rfl) (by kernel_rfl) (by kernel_rfl) (.inl ⟨rfl, rfl⟩) (.inr ⟨_, _, rfl, rfl⟩) (by omega) (by simp only [List.length_map]; omega) (by simp [List.map_take, List.map_drop]) <| At.c (impl_lastTerm_spec (h.log.take k) (by simp only [List.length_map, lens]; omega)) Tryz.call66 true [] [] [] trivial <| At.mm (d := 25) (b := .max) (x := .const (.int .i64 1)) (y := .tmp 24) (ats := #[3, 3]) (q := .i64) (m := 1) (n := lastT (h.log.take k)) (if (lastT (h.log.take k)) > 1 then lastT (h.log.take k) else 1) (by kernel_rfl) (by kernel_rfl) (by kernel_rfl) (by kernel_rfl) (.inr ⟨rfl, rfl⟩) <| At.say 25 (nI (if (lastT (h.log.take k)) > 1 then lastT (h.log.take k) else 1)) (nI (max 1 (lastT (h.log.take k)))) (by kernel_rfl) (congrArg (V.int .i64) (by omega)) <| At.a 2 <| At.c (impl_within_spec e1.term (max 1 (lastT (h.log.take k))) h.term) Tryz.call33 true [] [] [] trivial <| At.zD 2 <| AW.cNB (inR e1.term (max 1 (lastT (h.log.take k))) h.term) (fun h3 => ?_) (fun h3 => ?_)
     · refine AW.q 1 <| AW.ret ?_
       refine ⟨_, Sub.refl _ _, ?_⟩
       refine KF.conv (fun w => .bool w) (fun w => []) (show (false) = (hardOk h) from by refine hardBad (hR.trans ?_); rw [dropCons he1]; exact logOk_bad2 (by have := inR_not.1 (by assumption); omega)) ?_
       exact KF.n []
     have h3i := inR_iff.1 h3
     refine AW.skip <| AW.g <| At.a 1 <| At.sI 31 ((k : Int) + 1) (by omega) <| At.z 1 ?_
     exact ⟨k + 1, ⟨by omega, by rw [hR, dropCons he1, lastT_next he1]; exact logOk_step (by omega) (by omega) (by simp only [*]) (by omega)⟩, (by omega), Sub.o [(101, 101)] (bs 9 450)⟩
   refine At.sB 17 (!(cmdOk e1.cmd)) true (sayNT (sayB (Bool.eq_false_iff.2 h2))) ?_
   replace h2 := Bool.eq_false_iff.2 h2
   refine At.zD 13 <| AW.cond true (by kernel_rfl) (fun _ => ?_) (fun h => by cases h)
   refine AW.q 1 <| AW.ret ?_
   refine ⟨_, Sub.refl _ _, ?_⟩
   refine KF.conv (fun w => .bool w) (fun w => []) (show (false) = (hardOk h) from by refine hardBad (hR.trans ?_); rw [dropCons he1]; exact logOk_bad0 (by assumption)) ?_
   exact KF.n []
 refine AW.exit <| AW.r <| At.a 2 <| At.c (impl_isWhole_spec h.term) Tryz.call71 true [] [] [] trivial <| At.a 1 ?_
 by_cases h4 : (inR h.term 0 1000000000) = true
 · refine At.sB 35 (inR h.term 0 1000000000) true (sayB h4) ?_
   have h4i := inR_iff.1 h4
   refine At.a 2 <| At.c (impl_within_spec h.vote 0 5) Tryz.call33 true [] [] [] trivial <| At.a 2 ?_
   by_cases h5 : (inR h.vote 0 5) = true
   · refine At.sB 40 (inR h.vote 0 5) true (sayB h5) ?_
     have h5i := inR_iff.1 h5
     refine At.a 3 <| At.sL 43 encEnt h.log <| At.z 3 <| AW.ret ?_
     refine ⟨_, Sub.refl _ _, ?_⟩
     refine KF.conv (fun w => .bool w) (fun w => []) (show (decide ((h.log.length : Int) ≤ 80)) = (hardOk h) from by have q : logOk h.term 0 h.log = true := (by rw [hR, List.drop_of_length_le (by omega)]; rfl); grind [hardOk]) ?_
     exact KF.n []
   refine At.sB 40 (inR h.vote 0 5) false (sayB (Bool.eq_false_iff.2 h5)) ?_
   replace h5 := Bool.eq_false_iff.2 h5
   refine At.z 6 <| AW.ret ?_
   refine ⟨_, Sub.refl _ _, ?_⟩
   refine KF.conv (fun w => .bool w) (fun w => []) (show (false) = (hardOk h) from by have q : logOk h.term 0 h.log = true := (by rw [hR, List.drop_of_length_le (by omega)]; rfl); grind [hardOk]) ?_
   exact KF.n []
 refine At.sB 35 (inR h.term 0 1000000000) false (sayB (Bool.eq_false_iff.2 h4)) ?_
 replace h4 := Bool.eq_false_iff.2 h4
 refine At.z 11 <| AW.ret ?_
 refine ⟨_, Sub.refl _ _, ?_⟩
 refine KF.conv (fun w => .bool w) (fun w => []) (show (false) = (hardOk h) from by have q : logOk h.term 0 h.log = true := (by rw [hR, List.drop_of_length_le (by omega)]; rfl); grind [hardOk]) ?_
 exact KF.n []
theorem impl_nodesAscend_spec (list : List Int) (of_ : Int) (hl : list.length ≤ 1048576) (ho : 0 ≤ of_ ∧ of_ ≤ 1000) : FnSpec Tryz.prog 35 [.sl false 1 (list.map encI), nI of_] [] (.bool (asc (of_ - 1) (-1) list)) []:= by
 refine FnSpec.of 33 Tryz.func35 rfl Tryz.ntmps35 (by simp) (AW.weakK ?_)
 refine AW.q 1 <| AW.seq <| AW.r <| At.a 2 <| At.sL 8 encI list <| At.z 1 <| AW.block <| AW.loopW (fun (k : Nat) => Go.Sy.mk [.sl false 1 (list.map encI), nI of_, .un, .un, .un, .un, .un, .sl false 1 (list.map encI), nI (list.length : Int), nI (k : Int)] []) (fun k => k ≤ list.length ∧ ∃ p : Int, (k = 0 → p = -1) ∧ (∀ e, 0 < k → list[k - 1]? = some e → e = p) ∧ asc (of_ - 1) (-1) list = asc (of_ - 1) p (list.drop k)) (fun k => list.length - k) 0 ⟨by omega, -1, by omega, by omega, by rw [List.drop_zero]⟩ (Sub.o [] (bs 10 899)) ?_
 rintro k ⟨hk, p, hp0, hp1, hR⟩
 refine AW.q 1 <| AW.seq <| AW.cD ((k : Int) < (list.length : Int)) (fun h1 => ?_) (fun h1 => ?_)
 · refine AW.skip <| AW.seq <| AW.block <| AW.r <| At.a 1 <| At.iSl 27 12 (.tmp 7) (.tmp 9) false 1 (list.map encI) .i64 (k : Int) 3 (by omega) (by simp only [List.length_map]; omega) ?_
   refine Exists.elim (gE list k (by omega)) fun e1 he1 => ?_
   refine At.lVp 3 13 (.tmp 12) false 1 (list.map encI) k 0 false 1 (encI e1) (nI e1) (mapGet he1) <| At.z 2 <| AW.r <| At.a 3 <| At.sI 16 (of_ - 1) (by omega) <| At.c (impl_within_spec e1 0 (of_ - 1)) Tryz.call33 true [] [] [] trivial <| At.a 2 ?_
   by_cases h2 : (inR e1 0 (of_ - 1)) = true
   · refine At.sB 19 (!(inR e1 0 (of_ - 1))) false (sayNF (sayB h2)) ?_
     have h2i := inR_iff.1 h2
     refine At.a 3 ?_
     by_cases h3 : (k : Int) > 0
     · refine At.sB 22 _ _ (sayT h3) <| At.a 3 <| At.sI 25 ((k : Int) - 1) (by omega) <| At.iSl 27 26 (.tmp 23) (.tmp 25) false 1 (list.map encI) .i64 ((k : Int) - 1) 3 (by omega) (by simp only [List.length_map]; omega) ?_
       refine Exists.elim (gE list (((k : Int) - 1).toNat) (by omega)) fun e2 he2 => ?_
       have qe2 := hp1 e2 (by omega) (by rw [show k - 1 = ((k : Int) - 1).toNat from by omega]; exact he2)
       refine At.lVp 3 27 (.tmp 26) false 1 (list.map encI) (((k : Int) - 1).toNat) 0 false 1 (encI e2) (nI e2) (mapGet he2) <| At.z 4 <| AW.cD (e2 ≥ e1) (fun h4 => ?_) (fun h4 => ?_)
       · refine AW.q 1 <| AW.ret ?_
         refine ⟨_, Sub.refl _ _, ?_⟩
         refine KF.conv (fun w => .bool w) (fun w => []) (show (false) = (asc (of_ - 1) (-1) list) from by rw [hR, dropCons he1]; exact asc_bad2 (by omega)) ?_
         exact KF.n []
       refine AW.skip <| AW.g <| At.a 1 <| At.sI 32 ((k : Int) + 1) (by omega) <| At.z 1 ?_
       exact ⟨k + 1, ⟨by omega, e1, by omega, at_k he1, by have i1 := inR_iff.1 (show inR e1 0 (of_ - 1) = true by simpa using h2); rw [hR, dropCons he1]; exact asc_step (by simpa using h2) (by omega)⟩, (by omega), Sub.o [] (bs 10 899)⟩
     refine At.sB 22 _ _ (sayF h3) <| At.z 9 <| AW.cond false (by kernel_rfl) (fun h => by cases h) (fun _ => ?_)
     refine AW.skip <| AW.g <| At.a 1 <| At.sI 32 ((k : Int) + 1) (by omega) <| At.z 1 ?_
     exact ⟨k + 1, ⟨by omega, e1, by omega, at_k he1, by have i1 := inR_iff.1 (show inR e1 0 (of_ - 1) = true by simpa using h2); rw [hR, dropCons he1]; exact asc_step (by simpa using h2) (by omega)⟩, (by omega), Sub.o [] (bs 10 899)⟩
   refine At.sB 19 (!(inR e1 0 (of_ - 1))) true (sayNT (sayB (Bool.eq_false_iff.2 h2))) ?_
   replace h2 := Bool.eq_false_iff.2 h2
   refine At.z 12 <| AW.cond true (by kernel_rfl) (fun _ => ?_) (fun h => by cases h)
   refine AW.q 1 <| AW.ret ?_
   refine ⟨_, Sub.refl _ _, ?_⟩
   refine KF.conv (fun w => .bool w) (fun w => []) (show (false) = (asc (of_ - 1) (-1) list) from by rw [hR, dropCons he1]; exact asc_bad1 (by assumption)) ?_
   exact KF.n []
 refine AW.exit <| AW.q 1 <| AW.ret ?_
 refine ⟨_, Sub.refl _ _, ?_⟩
 refine KF.conv (fun w => .bool w) (fun w => []) (show (true) = (asc (of_ - 1) (-1) list) from by rw [hR, List.drop_of_length_le (by omega)]; rfl) ?_
 exact KF.n []
theorem slices_Index_spec (s : List Int) (v : Int) (hl : s.length ≤ 1048576) : FnSpec Tryz.prog 72 [.sl false 1 (s.map encI), nI v] [] (nI (idxI v 0 s)) []:= by
 refine FnSpec.of 19 Tryz.func72 rfl Tryz.ntmps72 (by simp) (AW.weakK ?_)
 refine AW.q 1 <| AW.seq <| AW.r <| At.a 2 <| At.sL 7 encI s <| At.z 1 <| AW.block <| AW.loopW (fun (k : Nat) => Go.Sy.mk [.sl false 1 (s.map encI), nI v, .un, .un, .un, .un, .un, nI (s.length : Int), nI (k : Int)] []) (fun k => k ≤ s.length ∧ idxI v 0 s = idxI v k (s.drop k)) (fun k => s.length - k) 0 ⟨by omega, by rw [List.drop_zero]⟩ (Sub.o [] (bs 9 387)) ?_
 rintro k ⟨hk, hR⟩
 refine AW.q 1 <| AW.seq <| AW.cD ((k : Int) < (s.length : Int)) (fun h1 => ?_) (fun h1 => ?_)
 · refine AW.skip <| AW.seq <| AW.block <| AW.q 2 <| AW.r <| At.a 3 <| At.iSl 27 14 (.tmp 12) (.tmp 13) false 1 (s.map encI) .i64 (k : Int) 3 (by omega) (by simp only [List.length_map]; omega) ?_
   refine Exists.elim (gE s k (by omega)) fun e1 he1 => ?_
   refine At.lVp 3 15 (.tmp 14) false 1 (s.map encI) k 0 false 1 (encI e1) (nI e1) (mapGet he1) <| At.z 1 <| AW.cE v e1 (fun h2 => ?_) (fun h2 => ?_)
   · refine AW.q 2 <| AW.ret ?_
     refine ⟨_, Sub.refl _ _, ?_⟩
     refine KF.conv (fun w => nI w) (fun w => []) (show ((k : Int)) = (idxI v 0 s) from by rw [hR, dropCons he1, idxI, if_pos (by assumption)]) ?_
     exact KF.n []
   refine AW.skip <| AW.g <| At.a 1 <| At.sI 18 ((k : Int) + 1) (by omega) <| At.z 1 ?_
   exact ⟨k + 1, ⟨by omega, by rw [hR, dropCons he1, idxI, if_neg (by assumption)]⟩, (by omega), Sub.o [] (bs 9 387)⟩
 refine AW.exit <| AW.q 1 <| AW.ret ?_
 refine ⟨_, Sub.refl _ _, ?_⟩
 refine KF.conv (fun w => nI w) (fun w => []) (show (-1) = (idxI v 0 s) from by rw [hR, List.drop_of_length_le (by omega)]; rfl) ?_
 exact KF.n []
theorem slices_Contains_spec (s : List Int) (v : Int) (hl : s.length ≤ 1048576) : FnSpec Tryz.prog 36 [.sl false 1 (s.map encI), nI v] [] (.bool (hasI v s)) []:= by
 refine FnSpec.of 9 Tryz.func36 rfl Tryz.ntmps36 (by simp) (AW.weakK ?_)
 refine AW.q 1 <| AW.r <| At.a 2 <| At.c (slices_Index_spec s v (by omega)) Tryz.call72 true [] [] [] trivial <| At.z 2 <| AW.ret ?_
 refine ⟨_, Sub.refl _ _, ?_⟩
 refine KF.conv (fun w => .bool w) (fun w => []) (show (decide ((idxI v 0 s) ≥ 0)) = (hasI v s) from idxI_has v s 0) ?_
 exact KF.n []
theorem impl_numbersIn_spec (list : List Int) (count : Int) (low : Int) (high : Int) (hl : list.length ≤ 1048576) : FnSpec Tryz.prog 37 [.sl false 1 (list.map encI), nI count, nI low, nI high] [] (.bool (allIn low high list && ((list.length : Int) == count))) []:= by
 refine FnSpec.of 27 Tryz.func37 rfl Tryz.ntmps37 (by simp) (AW.weakK ?_)
 refine AW.q 1 <| AW.seq <| AW.r <| At.a 2 <| At.sL 12 encI list <| At.z 1 <| AW.block <| AW.loopW (fun (k : Nat) => Go.Sy.mk [.sl false 1 (list.map encI), nI count, nI low, nI high, .un, .un, .un, .un, .un, .un, .un, .sl false 1 (list.map encI), nI (list.length : Int), nI (k : Int)] []) (fun k => k ≤ list.length ∧ allIn low high list = allIn low high (list.drop k)) (fun k => list.length - k) 0 ⟨by omega, by rw [List.drop_zero]⟩ (Sub.o [] (bs 14 14351)) ?_
 rintro k ⟨hk, hR⟩
 refine AW.q 1 <| AW.seq <| AW.cD ((k : Int) < (list.length : Int)) (fun h1 => ?_) (fun h1 => ?_)
 · refine AW.skip <| AW.seq <| AW.block <| AW.r <| At.iSl 27 15 (.tmp 11) (.tmp 13) false 1 (list.map encI) .i64 (k : Int) 3 (by omega) (by simp only [List.length_map]; omega) ?_
   refine Exists.elim (gE list k (by omega)) fun e1 he1 => ?_
   refine At.lVp 3 16 (.tmp 15) false 1 (list.map encI) k 0 false 1 (encI e1) (nI e1) (mapGet he1) <| At.z 1 <| AW.r <| At.a 3 <| At.c (impl_within_spec e1 low high) Tryz.call33 true [] [] [] trivial <| At.z 1 <| AW.cNB (inR e1 low high) (fun h2 => ?_) (fun h2 => ?_)
   · refine AW.q 1 <| AW.ret ?_
     refine ⟨_, Sub.refl _ _, ?_⟩
     refine KF.conv (fun w => .bool w) (fun w => []) (show (false) = (allIn low high list && ((list.length : Int) == count)) from by rw [hR, dropCons he1, allIn]; simp only [*, Bool.false_and]) ?_
     exact KF.n []
   have h2i := inR_iff.1 h2
   refine AW.skip <| AW.g <| At.a 1 <| At.sI 22 ((k : Int) + 1) (by omega) <| At.z 1 ?_
   exact ⟨k + 1, ⟨by omega, by rw [hR, dropCons he1, allIn]; simp only [*, Bool.true_and]⟩, (by omega), Sub.o [] (bs 14 14351)⟩
 refine AW.exit <| AW.r <| At.a 2 <| At.sL 24 encI list <| At.z 3 <| AW.ret ?_
 refine ⟨_, Sub.refl _ _, ?_⟩
 refine KF.conv (fun w => .bool w) (fun w => []) (show ((list.length : Int) == count) = (allIn low high list && ((list.length : Int) == count)) from by rw [hR, List.drop_of_length_le (by omega)]; rfl) ?_
 exact KF.n []
def K_impl_RaftOk (rs : List ResultVar) (r : Raft) (w0_ : Bool) : Exit → Sg → Prop := KF Tryz.prog 0 rs (.bool w0_) []
theorem impl_RaftOk_spec (r : Raft) (hz : SmallR r) : FnSpec Tryz.prog 12 [(raftA r)] [] (.bool (raftOk r)) []:= by
 obtain ⟨z1, z2, z3, z4⟩ := id hz
 refine FnSpec.of 105 Tryz.func12 rfl Tryz.ntmps12 (by simp) (AW.weakK ?_)
 refine AW.q 2 <| AW.r <| At.a 4 <| At.sL 9 encEnt r.hard.log <| At.z 1 <| AW.seq <| AW.r <| At.a 2 <| At.c (impl_isOf_spec r.of_) Tryz.call32 true [] [] [] trivial <| At.a 2 ?_
 by_cases h1 : (ofOk r.of_) = true
 · refine At.sB 14 (!(ofOk r.of_)) false (sayNF (sayB h1)) ?_
   have h1o := ofOk_iff.1 h1
   refine At.a 5 <| At.sI 19 (r.of_ - 1) (by omega) <| At.c (impl_within_spec r.id 0 (r.of_ - 1)) Tryz.call33 true [] [] [] trivial <| At.a 3 ?_
   by_cases h2 : (inR r.id 0 (r.of_ - 1)) = true
   · refine At.sB 23 (!(inR r.id 0 (r.of_ - 1))) false (sayNF (sayB h2)) ?_
     have h2i := inR_iff.1 h2
     refine At.a 2 <| At.c (impl_within_spec r.role 1 3) Tryz.call33 true [] [] [] trivial <| At.a 3 ?_
     by_cases h3 : (inR r.role 1 3) = true
     · refine At.sB 29 (!(inR r.role 1 3)) false (sayNF (sayB h3)) ?_
       have h3i := inR_iff.1 h3
       refine At.a 2 <| At.c (impl_HardOk_spec r.hard (by omega)) Tryz.call34 true [] [] [] trivial <| At.a 3 ?_
       by_cases h4 : (hardOk r.hard) = true
       · refine At.sB 35 (!(hardOk r.hard)) false (sayNF (sayB h4)) <| At.a 3 <| At.c (impl_within_spec r.commit 0 (r.hard.log.length : Int)) Tryz.call33 true [] [] [] trivial <| At.z 2 <| AW.cNB (inR r.commit 0 (r.hard.log.length : Int)) (fun h5 => ?_) (fun h5 => ?_)
         · exact AW.q 1 <| AW.ret (rf (k1 (K_impl_RaftOk _ r) (show (false) = _ from by grind [raft_all, raftOk3, allIn_zero]) (KF.n [])))
         have h5i := inR_iff.1 h5
         refine AW.skip <| AW.seq <| AW.seq <| AW.cut [(101, 101)] (bs 4 10) 65 (!(raftI2 r)) ?_ ?_
         · refine AW.g <| At.a 4 <| At.c (impl_nodesAscend_spec r.yes r.of_ (by omega) (by omega)) Tryz.call35 true [] [] [] trivial <| At.a 2 ?_
           by_cases h6 : (asc (r.of_ - 1) (-1) r.yes) = true
           · refine At.sB 48 (!(asc (r.of_ - 1) (-1) r.yes)) false (sayNF (sayB h6)) <| At.a 4 <| At.c (slices_Contains_spec r.yes r.id (by omega)) Tryz.call36 true [] [] [] trivial <| At.a 2 ?_
             by_cases h7 : (hasI r.id r.yes) = true
             · refine At.sB 55 (hasI r.id r.yes) true (sayB h7) <| At.a 10 <| At.sB 65 true (!(raftI2 r)) (congrArg V.bool (by grind [raftI2])) <| At.done rfl ⟨rfl, ?_⟩
               exact Sub.ct [(101, 101)] (bs 4 10) 65 _
             refine At.sB 55 (hasI r.id r.yes) false (sayB (Bool.eq_false_iff.2 h7)) ?_
             replace h7 := Bool.eq_false_iff.2 h7
             refine At.a 3 <| At.sL 58 encI r.yes <| At.a 2 ?_
             by_cases h8 : (r.yes.length : Int) > 0
             · refine At.sB 60 _ _ (sayT h8) <| At.a 5 <| At.sB 65 (r.role != 2) (!(raftI2 r)) (congrArg V.bool (by grind [raftI2])) <| At.done rfl ⟨rfl, ?_⟩
               exact Sub.ct [(101, 101)] (bs 4 10) 65 _
             refine At.sB 60 _ _ (sayF h8) <| At.a 5 <| At.sB 65 false (!(raftI2 r)) (congrArg V.bool (by grind [raftI2])) <| At.done rfl ⟨rfl, ?_⟩
             exact Sub.ct [(101, 101)] (bs 4 10) 65 _
           refine At.sB 48 (!(asc (r.of_ - 1) (-1) r.yes)) true (sayNT (sayB (Bool.eq_false_iff.2 h6))) ?_
           replace h6 := Bool.eq_false_iff.2 h6
           refine At.a 17 <| At.sB 65 true (!(raftI2 r)) (congrArg V.bool (by grind [raftI2])) <| At.done rfl ⟨rfl, ?_⟩
           exact Sub.ct [(101, 101)] (bs 4 10) 65 _
         refine AW.cNB (raftI2 r) (fun h9 => ?_) (fun h9 => ?_)
         · exact AW.q 1 <| AW.ret (rf (k1 (K_impl_RaftOk _ r) (show (false) = _ from by grind [raft_all, raftOk3, allIn_zero]) (KF.n [])))
         refine AW.skip <| AW.q 1 <| AW.seq <| AW.q 3 <| AW.cE r.role (3 : Int) (fun h10 => ?_) (fun h10 => ?_)
         · refine AW.gq 3 <| AW.seq <| AW.cut [(101, 101)] (bs 5 26) 5 (raftI4 r) ?_ ?_
           · refine AW.g <| At.a 4 ?_
             by_cases h11 : r.role = 1
             · refine At.sB 74 _ _ (sayET h11) <| At.a 15 <| At.sB 5 true (raftI4 r) (congrArg V.bool (by grind [raftI4])) <| At.done rfl ⟨rfl, ?_⟩
               exact Sub.ct [(101, 101)] (bs 5 26) 5 _
             refine At.sB 74 _ _ (sayEF h11) <| At.a 5 ?_
             by_cases h12 : r.hard.term ≥ 1
             · refine At.sB 79 _ _ (sayT h12) <| At.a 6 <| At.sI 85 (r.id + 1) (by omega) <| At.a 4 <| At.sB 5 (r.hard.vote == (r.id + 1)) (raftI4 r) (congrArg V.bool (by grind [raftI4])) <| At.done rfl ⟨rfl, ?_⟩
               exact Sub.ct [(101, 101)] (bs 5 26) 5 _
             refine At.sB 79 _ _ (sayF h12) <| At.a 10 <| At.sB 5 false (raftI4 r) (congrArg V.bool (by grind [raftI4])) <| At.done rfl ⟨rfl, ?_⟩
             exact Sub.ct [(101, 101)] (bs 5 26) 5 _
           refine AW.r <| At.a 2 ?_
           by_cases h13 : (raftI4 r) = true
           · refine At.sB 90 (raftI4 r) true (sayB h13) <| At.a 5 <| At.sI 95 ((r.hard.log.length : Int) + 1) (by omega) <| At.c (impl_numbersIn_spec r.next r.of_ 1 ((r.hard.log.length : Int) + 1) (by omega)) Tryz.call37 true [] [] [] trivial <| At.a 2 ?_
             by_cases h14 : (allIn 1 ((r.hard.log.length : Int) + 1) r.next && ((r.next.length : Int) == r.of_)) = true
             · exact At.sB 98 (allIn 1 ((r.hard.log.length : Int) + 1) r.next && ((r.next.length : Int) == r.of_)) true (sayB h14) <| At.a 4 <| At.c (impl_numbersIn_spec r.match_ r.of_ 0 (r.hard.log.length : Int) (by omega)) Tryz.call37 true [] [] [] trivial <| At.z 2 <| AW.ret (rf (k1 (K_impl_RaftOk _ r) (show (allIn 0 (r.hard.log.length : Int) r.match_ && ((r.match_.length : Int) == r.of_)) = _ from by grind [raft_all, raftOk3, allIn_zero]) (KF.n [])))
             refine At.sB 98 (allIn 1 ((r.hard.log.length : Int) + 1) r.next && ((r.next.length : Int) == r.of_)) false (sayB (Bool.eq_false_iff.2 h14)) ?_
             replace h14 := Bool.eq_false_iff.2 h14
             exact At.z 7 <| AW.ret (rf (k1 (K_impl_RaftOk _ r) (show (false) = _ from by grind [raft_all, raftOk3, allIn_zero]) (KF.n [])))
           refine At.sB 90 (raftI4 r) false (sayB (Bool.eq_false_iff.2 h13)) ?_
           replace h13 := Bool.eq_false_iff.2 h13
           exact At.z 15 <| AW.ret (rf (k1 (K_impl_RaftOk _ r) (show (false) = _ from by grind [raft_all, raftOk3, allIn_zero]) (KF.n [])))
         refine AW.skip <| AW.seq <| AW.cut [(101, 101)] (bs 5 26) 5 (raftI4 r) ?_ ?_
         · refine AW.g <| At.a 4 ?_
           by_cases h15 : r.role = 1
           · refine At.sB 74 _ _ (sayET h15) <| At.a 15 <| At.sB 5 true (raftI4 r) (congrArg V.bool (by grind [raftI4])) <| At.done rfl ⟨rfl, ?_⟩
             exact Sub.ct [(101, 101)] (bs 5 26) 5 _
           refine At.sB 74 _ _ (sayEF h15) <| At.a 5 ?_
           by_cases h16 : r.hard.term ≥ 1
           · refine At.sB 79 _ _ (sayT h16) <| At.a 6 <| At.sI 85 (r.id + 1) (by omega) <| At.a 4 <| At.sB 5 (r.hard.vote == (r.id + 1)) (raftI4 r) (congrArg V.bool (by grind [raftI4])) <| At.done rfl ⟨rfl, ?_⟩
             exact Sub.ct [(101, 101)] (bs 5 26) 5 _
           refine At.sB 79 _ _ (sayF h16) <| At.a 10 <| At.sB 5 false (raftI4 r) (congrArg V.bool (by grind [raftI4])) <| At.done rfl ⟨rfl, ?_⟩
           exact Sub.ct [(101, 101)] (bs 5 26) 5 _
         refine AW.r <| At.a 2 ?_
         by_cases h17 : (raftI4 r) = true
         · refine At.sB 90 (raftI4 r) true (sayB h17) <| At.a 5 <| At.sI 95 ((r.hard.log.length : Int) + 1) (by omega) <| At.c (impl_numbersIn_spec r.next 0 1 ((r.hard.log.length : Int) + 1) (by omega)) Tryz.call37 true [] [] [] trivial <| At.a 2 ?_
           by_cases h18 : (allIn 1 ((r.hard.log.length : Int) + 1) r.next && ((r.next.length : Int) == 0)) = true
           · exact At.sB 98 (allIn 1 ((r.hard.log.length : Int) + 1) r.next && ((r.next.length : Int) == 0)) true (sayB h18) <| At.a 4 <| At.c (impl_numbersIn_spec r.match_ 0 0 (r.hard.log.length : Int) (by omega)) Tryz.call37 true [] [] [] trivial <| At.z 2 <| AW.ret (rf (k1 (K_impl_RaftOk _ r) (show (allIn 0 (r.hard.log.length : Int) r.match_ && ((r.match_.length : Int) == 0)) = _ from by grind [raft_all, raftOk3, allIn_zero]) (KF.n [])))
           refine At.sB 98 (allIn 1 ((r.hard.log.length : Int) + 1) r.next && ((r.next.length : Int) == 0)) false (sayB (Bool.eq_false_iff.2 h18)) ?_
           replace h18 := Bool.eq_false_iff.2 h18
           exact At.z 7 <| AW.ret (rf (k1 (K_impl_RaftOk _ r) (show (false) = _ from by grind [raft_all, raftOk3, allIn_zero]) (KF.n [])))
         refine At.sB 90 (raftI4 r) false (sayB (Bool.eq_false_iff.2 h17)) ?_
         replace h17 := Bool.eq_false_iff.2 h17
         exact At.z 15 <| AW.ret (rf (k1 (K_impl_RaftOk _ r) (show (false) = _ from by grind [raft_all, raftOk3, allIn_zero]) (KF.n [])))
       refine At.sB 35 (!(hardOk r.hard)) true (sayNT (sayB (Bool.eq_false_iff.2 h4))) ?_
       replace h4 := Bool.eq_false_iff.2 h4
       refine At.z 6 <| AW.cond true (by kernel_rfl) (fun _ => ?_) (fun h => by cases h)
       exact AW.q 1 <| AW.ret (rf (k1 (K_impl_RaftOk _ r) (show (false) = _ from by grind [raft_all, raftOk3, allIn_zero]) (KF.n [])))
     refine At.sB 29 (!(inR r.role 1 3)) true (sayNT (sayB (Bool.eq_false_iff.2 h3))) ?_
     replace h3 := Bool.eq_false_iff.2 h3
     refine At.z 12 <| AW.cond true (by kernel_rfl) (fun _ => ?_) (fun h => by cases h)
     exact AW.q 1 <| AW.ret (rf (k1 (K_impl_RaftOk _ r) (show (false) = _ from by grind [raft_all, raftOk3, allIn_zero]) (KF.n [])))
   refine At.sB 23 (!(inR r.id 0 (r.of_ - 1))) true (sayNT (sayB (Bool.eq_false_iff.2 h2))) ?_
   replace h2 := Bool.eq_false_iff.2 h2
   refine At.z 18 <| AW.cond true (by kernel_rfl) (fun _ => ?_) (fun h => by cases h)
   exact AW.q 1 <| AW.ret (rf (k1 (K_impl_RaftOk _ r) (show (false) = _ from by grind [raft_all, raftOk3, allIn_zero]) (KF.n [])))
 refine At.sB 14 (!(ofOk r.of_)) true (sayNT (sayB (Bool.eq_false_iff.2 h1))) ?_
 replace h1 := Bool.eq_false_iff.2 h1
 refine At.z 27 <| AW.cond true (by kernel_rfl) (fun _ => ?_) (fun h => by cases h)
 exact AW.q 1 <| AW.ret (rf (k1 (K_impl_RaftOk _ r) (show (false) = _ from by grind [raft_all, raftOk3, allIn_zero]) (KF.n [])))
theorem impl_fieldsOf_spec (kind : Int) : FnSpec Tryz.prog 40 [nI kind] [] (.str (fieldsL kind)) []:= by
 refine FnSpec.of 18 Tryz.func40 rfl Tryz.ntmps40 (by simp) (AW.weakK ?_)
 refine AW.q 1 <| AW.seq <| AW.q 1 <| AW.block <| AW.q 2 <| AW.cE kind (1 : Int) (fun h1 => ?_) (fun h1 => ?_)
 · refine AW.q 1 <| AW.ret ?_
   refine ⟨_, Sub.refl _ _, ?_⟩
   refine KF.conv (fun w => .str w) (fun w => []) (show ((⟨#[102, 116, 97, 120]⟩ : ByteArray)) = (fieldsL kind) from by simp [fieldsL, h1]) ?_
   exact KF.n []
 refine AW.q 2 <| AW.cE kind (2 : Int) (fun h2 => ?_) (fun h2 => ?_)
 · refine AW.q 1 <| AW.ret ?_
   refine ⟨_, Sub.refl _ _, ?_⟩
   refine KF.conv (fun w => .str w) (fun w => []) (show ((⟨#[102, 116, 121]⟩ : ByteArray)) = (fieldsL kind) from by simp [fieldsL, h1, h2]) ?_
   exact KF.n []
 refine AW.q 2 <| AW.cE kind (3 : Int) (fun h3 => ?_) (fun h3 => ?_)
 · refine AW.q 1 <| AW.ret ?_
   refine ⟨_, Sub.refl _ _, ?_⟩
   refine KF.conv (fun w => .str w) (fun w => []) (show ((⟨#[102, 116, 97, 120, 99, 101]⟩ : ByteArray)) = (fieldsL kind) from by simp [fieldsL, h1, h2, h3]) ?_
   exact KF.n []
 refine AW.q 2 <| AW.cE kind (4 : Int) (fun h4 => ?_) (fun h4 => ?_)
 · refine AW.q 1 <| AW.ret ?_
   refine ⟨_, Sub.refl _ _, ?_⟩
   refine KF.conv (fun w => .str w) (fun w => []) (show ((⟨#[102, 116, 121, 97]⟩ : ByteArray)) = (fieldsL kind) from by simp [fieldsL, h1, h2, h3, h4]) ?_
   exact KF.n []
 refine AW.q 2 <| AW.cE kind (5 : Int) (fun h5 => ?_) (fun h5 => ?_)
 · refine AW.q 1 <| AW.ret ?_
   refine ⟨_, Sub.refl _ _, ?_⟩
   refine KF.conv (fun w => .str w) (fun w => []) (show ((⟨#[102, 114, 112]⟩ : ByteArray)) = (fieldsL kind) from by simp [fieldsL, h1, h2, h3, h4, h5]) ?_
   exact KF.n []
 refine AW.q 2 <| AW.cE kind (6 : Int) (fun h6 => ?_) (fun h6 => ?_)
 · refine AW.q 1 <| AW.ret ?_
   refine ⟨_, Sub.refl _ _, ?_⟩
   refine KF.conv (fun w => .str w) (fun w => []) (show ((⟨#[102, 114, 112, 98]⟩ : ByteArray)) = (fieldsL kind) from by simp [fieldsL, h1, h2, h3, h4, h5, h6]) ?_
   exact KF.n []
 refine AW.q 2 <| AW.cE kind (7 : Int) (fun h7 => ?_) (fun h7 => ?_)
 · refine AW.q 1 <| AW.ret ?_
   refine ⟨_, Sub.refl _ _, ?_⟩
   refine KF.conv (fun w => .str w) (fun w => []) (show ((⟨#[102, 100]⟩ : ByteArray)) = (fieldsL kind) from by simp [fieldsL, h1, h2, h3, h4, h5, h6, h7]) ?_
   exact KF.n []
 refine AW.skip <| AW.q 1 <| AW.ret ?_
 refine ⟨_, Sub.refl _ _, ?_⟩
 refine KF.conv (fun w => .str w) (fun w => []) (show (eB) = (fieldsL kind) from by simp [fieldsL, h1, h2, h3, h4, h5, h6, h7]) ?_
 exact KF.n []
theorem impl_entryOk_spec (e : Ent) : FnSpec Tryz.prog 100 [.agg [nI e.term, nI e.cmd.kind, nI e.cmd.release, nI e.cmd.node, nI e.cmd.size, .str e.cmd.digest]] [] (.bool (entOk e)) []:= by
 refine FnSpec.of 11 Tryz.func100 rfl Tryz.ntmps100 (by simp) (AW.weakK ?_)
 refine AW.q 2 <| AW.r <| At.a 2 <| At.c (impl_within_spec e.term 1 1000000000) Tryz.call33 true [] [] [] trivial <| At.a 1 ?_
 by_cases h1 : (inR e.term 1 1000000000) = true
 · refine At.sB 6 (inR e.term 1 1000000000) true (sayB h1) ?_
   have h1i := inR_iff.1 h1
   refine At.a 2 <| At.c (impl_CmdOk_spec e.cmd) Tryz.call70 true [] [] [] trivial <| At.z 2 <| AW.ret ?_
   refine ⟨_, Sub.refl _ _, ?_⟩
   refine KF.conv (fun w => .bool w) (fun w => []) (show (cmdOk e.cmd) = (entOk e) from by (try simp only [inR_iff, inR_not] at *); rw [Bool.eq_iff_iff]; simp only [entOk, noBytes]; (repeat' split) <;> (try simp [inR_iff]) <;> grind) ?_
   exact KF.n []
 refine At.sB 6 (inR e.term 1 1000000000) false (sayB (Bool.eq_false_iff.2 h1)) ?_
 replace h1 := Bool.eq_false_iff.2 h1
 refine At.z 5 <| AW.ret ?_
 refine ⟨_, Sub.refl _ _, ?_⟩
 refine KF.conv (fun w => .bool w) (fun w => []) (show (false) = (entOk e) from by (try simp only [inR_iff, inR_not] at *); rw [Bool.eq_iff_iff]; simp only [entOk, noBytes]; (repeat' split) <;> (try simp [inR_iff]) <;> grind) ?_
 exact KF.n []
theorem impl_entriesOk_spec (list : List Ent) (hl : list.length ≤ 1048576) : FnSpec Tryz.prog 76 [.sl false 6 (list.map encEnt)] [] (.bool (entsFit list)) []:= by
 refine FnSpec.of 18 Tryz.func76 rfl Tryz.ntmps76 (by simp) (AW.weakK ?_)
 refine AW.q 1 <| AW.seq <| AW.r <| At.a 2 <| At.sL 6 encEnt list <| At.z 1 <| AW.block <| AW.loopW (fun (k : Nat) => Go.Sy.mk [.sl false 6 (list.map encEnt), .un, .un, .un, .un, .sl false 6 (list.map encEnt), nI (list.length : Int), nI (k : Int)] []) (fun k => k ≤ list.length ∧ entsOk list = entsOk (list.drop k)) (fun k => list.length - k) 0 ⟨by omega, by rw [List.drop_zero]⟩ (Sub.o [] (bs 8 225)) ?_
 rintro k ⟨hk, hR⟩
 refine AW.q 1 <| AW.seq <| AW.cD ((k : Int) < (list.length : Int)) (fun h1 => ?_) (fun h1 => ?_)
 · refine AW.skip <| AW.seq <| AW.block <| AW.r <| At.iSl 24 9 (.tmp 5) (.tmp 7) false 6 (list.map encEnt) .i64 (k : Int) 45 (by omega) (by simp only [List.length_map]; omega) ?_
   refine Exists.elim (gE list k (by omega)) fun e1 he1 => ?_
   refine At.lVp 45 10 (.tmp 9) false 6 (list.map encEnt) k 0 true 6 (encEnt e1) (.agg [nI e1.term, nI e1.cmd.kind, nI e1.cmd.release, nI e1.cmd.node, nI e1.cmd.size, .str e1.cmd.digest]) (mapGet he1) <| At.z 2 <| AW.r <| At.a 1 <| At.c (impl_entryOk_spec e1) Tryz.call100 true [] [] [] trivial <| At.z 1 <| AW.cNB (entOk e1) (fun h2 => ?_) (fun h2 => ?_)
   · refine AW.q 1 <| AW.ret ?_
     refine ⟨_, Sub.refl _ _, ?_⟩
     refine KF.conv (fun w => .bool w) (fun w => []) (show (false) = (entsFit list) from by rw [dropCons he1] at hR; grind [entsFit, entsOk]) ?_
     exact KF.n []
   have h2n := entOk_nums h2
   refine AW.skip <| AW.g <| At.a 1 <| At.sI 14 ((k : Int) + 1) (by omega) <| At.z 1 ?_
   exact ⟨k + 1, ⟨by omega, by rw [hR, dropCons he1, entsOk]; simp only [*, Bool.true_and]⟩, (by omega), Sub.o [] (bs 8 225)⟩
 refine AW.exit <| AW.r <| At.a 2 <| At.sL 16 encEnt list <| At.z 2 <| AW.ret ?_
 refine ⟨_, Sub.refl _ _, ?_⟩
 refine KF.conv (fun w => .bool w) (fun w => []) (show (decide ((list.length : Int) ≤ 6)) = (entsFit list) from by rw [List.drop_of_length_le (by omega)] at hR; grind [entsFit, entsOk]) ?_
 exact KF.n []
def K_impl_Msg_take (rs : List ResultVar) (m : Msg) (field : UInt8) (w0_ : Bool) (w1_ : Msg) : Exit → Sg → Prop := KF Tryz.prog 1 rs (.bool w0_) [.box 33 (mC w1_ (.sl false 6 (w1_.entries.map encEnt)))]
theorem impl_Msg_take_spec (m : Msg) (field : UInt8) (hl : m.entries.length ≤ 1048576) : FnSpec Tryz.prog 41 [.ptr 0 0 0, .int .u8 (field.toNat : Int)] [.box 33 (mC m (.sl false 6 (m.entries.map encEnt)))] (.bool (takeOk m field.toNat)) [.box 33 (mC (takeM m field.toNat) (.sl false 6 (((takeM m field.toNat).entries).map encEnt)))]:= by
 refine FnSpec.of 113 Tryz.func41 rfl Tryz.ntmps41 (by simp) (AW.weakK ?_)
 refine AW.q 1 <| AW.q 1 <| AW.seq <| AW.q 1 <| AW.block <| AW.q 2 <| AW.cE (field.toNat : Int) (102 : Int) (fun h1 => ?_) (fun h1 => ?_)
 · exact AW.g <| At.a 5 <| At.c (impl_isNode_spec m.from_) Tryz.call73 true [] [] [] trivial <| At.z 4 <| AW.q 2 <| AW.ret (rf (k2 (K_impl_Msg_take _ m field) (show (inR m.from_ 0 4) = _ from by simp only [takeOk, takeM, h1, if_true, if_false] <;> rfl) (show ((⟨m.kind, 0, m.term, m.at_, m.atTerm, m.commit, m.yes, m.release, m.part, m.bytes, m.cmd, m.entries⟩ : Msg)) = _ from by simp only [takeOk, takeM, h1, if_true, if_false] <;> rfl) (KF.n [(0, 0)])))
 refine AW.q 2 <| AW.cE (field.toNat : Int) (116 : Int) (fun h2 => ?_) (fun h2 => ?_)
 · exact AW.g <| At.a 5 <| At.c (impl_isWhole_spec m.term) Tryz.call71 true [] [] [] trivial <| At.z 4 <| AW.q 2 <| AW.ret (rf (k2 (K_impl_Msg_take _ m field) (show (inR m.term 0 1000000000) = _ from by simp only [takeOk, takeM, h1, h2, if_true, if_false] <;> rfl) (show ((⟨m.kind, m.from_, 0, m.at_, m.atTerm, m.commit, m.yes, m.release, m.part, m.bytes, m.cmd, m.entries⟩ : Msg)) = _ from by simp only [takeOk, takeM, h1, h2, if_true, if_false] <;> rfl) (KF.n [(0, 0)])))
 refine AW.q 2 <| AW.cE (field.toNat : Int) (97 : Int) (fun h3 => ?_) (fun h3 => ?_)
 · exact AW.g <| At.a 5 <| At.c (impl_within_spec m.at_ 0 80) Tryz.call33 true [] [] [] trivial <| At.z 4 <| AW.q 2 <| AW.ret (rf (k2 (K_impl_Msg_take _ m field) (show (inR m.at_ 0 80) = _ from by simp only [takeOk, takeM, h1, h2, h3, if_true, if_false] <;> rfl) (show ((⟨m.kind, m.from_, m.term, 0, m.atTerm, m.commit, m.yes, m.release, m.part, m.bytes, m.cmd, m.entries⟩ : Msg)) = _ from by simp only [takeOk, takeM, h1, h2, h3, if_true, if_false] <;> rfl) (KF.n [(0, 0)])))
 refine AW.q 2 <| AW.cE (field.toNat : Int) (120 : Int) (fun h4 => ?_) (fun h4 => ?_)
 · exact AW.g <| At.a 5 <| At.c (impl_isWhole_spec m.atTerm) Tryz.call71 true [] [] [] trivial <| At.z 4 <| AW.q 2 <| AW.ret (rf (k2 (K_impl_Msg_take _ m field) (show (inR m.atTerm 0 1000000000) = _ from by simp only [takeOk, takeM, h1, h2, h3, h4, if_true, if_false] <;> rfl) (show ((⟨m.kind, m.from_, m.term, m.at_, 0, m.commit, m.yes, m.release, m.part, m.bytes, m.cmd, m.entries⟩ : Msg)) = _ from by simp only [takeOk, takeM, h1, h2, h3, h4, if_true, if_false] <;> rfl) (KF.n [(0, 0)])))
 refine AW.q 2 <| AW.cE (field.toNat : Int) (99 : Int) (fun h5 => ?_) (fun h5 => ?_)
 · exact AW.g <| At.a 5 <| At.c (impl_within_spec m.commit 0 80) Tryz.call33 true [] [] [] trivial <| At.z 4 <| AW.q 2 <| AW.ret (rf (k2 (K_impl_Msg_take _ m field) (show (inR m.commit 0 80) = _ from by simp only [takeOk, takeM, h1, h2, h3, h4, h5, if_true, if_false] <;> rfl) (show ((⟨m.kind, m.from_, m.term, m.at_, m.atTerm, 0, m.yes, m.release, m.part, m.bytes, m.cmd, m.entries⟩ : Msg)) = _ from by simp only [takeOk, takeM, h1, h2, h3, h4, h5, if_true, if_false] <;> rfl) (KF.n [(0, 0)])))
 refine AW.q 2 <| AW.cE (field.toNat : Int) (121 : Int) (fun h6 => ?_) (fun h6 => ?_)
 · exact AW.gq 4 <| AW.q 2 <| AW.ret (rf (k2 (K_impl_Msg_take _ m field) (show (true) = _ from by simp only [takeOk, takeM, h1, h2, h3, h4, h5, h6, if_true, if_false] <;> rfl) (show ((⟨m.kind, m.from_, m.term, m.at_, m.atTerm, m.commit, false, m.release, m.part, m.bytes, m.cmd, m.entries⟩ : Msg)) = _ from by simp only [takeOk, takeM, h1, h2, h3, h4, h5, h6, if_true, if_false] <;> rfl) (KF.n [(0, 0)])))
 refine AW.q 2 <| AW.cE (field.toNat : Int) (114 : Int) (fun h7 => ?_) (fun h7 => ?_)
 · exact AW.g <| At.a 5 <| At.c (impl_isRelease_spec m.release) Tryz.call74 true [] [] [] trivial <| At.z 4 <| AW.q 2 <| AW.ret (rf (k2 (K_impl_Msg_take _ m field) (show (inR m.release 1 1000) = _ from by simp only [takeOk, takeM, h1, h2, h3, h4, h5, h6, h7, if_true, if_false] <;> rfl) (show ((⟨m.kind, m.from_, m.term, m.at_, m.atTerm, m.commit, m.yes, 0, m.part, m.bytes, m.cmd, m.entries⟩ : Msg)) = _ from by simp only [takeOk, takeM, h1, h2, h3, h4, h5, h6, h7, if_true, if_false] <;> rfl) (KF.n [(0, 0)])))
 refine AW.q 2 <| AW.cE (field.toNat : Int) (112 : Int) (fun h8 => ?_) (fun h8 => ?_)
 · exact AW.g <| At.a 5 <| At.c (impl_isSize_spec m.part) Tryz.call75 true [] [] [] trivial <| At.z 4 <| AW.q 2 <| AW.ret (rf (k2 (K_impl_Msg_take _ m field) (show (inR m.part 0 1000) = _ from by simp only [takeOk, takeM, h1, h2, h3, h4, h5, h6, h7, h8, if_true, if_false] <;> rfl) (show ((⟨m.kind, m.from_, m.term, m.at_, m.atTerm, m.commit, m.yes, m.release, 0, m.bytes, m.cmd, m.entries⟩ : Msg)) = _ from by simp only [takeOk, takeM, h1, h2, h3, h4, h5, h6, h7, h8, if_true, if_false] <;> rfl) (KF.n [(0, 0)])))
 refine AW.q 2 <| AW.cE (field.toNat : Int) (98 : Int) (fun h9 => ?_) (fun h9 => ?_)
 · exact AW.g <| At.a 6 <| At.c (impl_within_spec (m.bytes.size : Int) 1 16) Tryz.call33 true [] [] [] trivial <| At.z 4 <| AW.q 2 <| AW.ret (rf (k2 (K_impl_Msg_take _ m field) (show (inR (m.bytes.size : Int) 1 16) = _ from by simp only [takeOk, takeM, h1, h2, h3, h4, h5, h6, h7, h8, h9, if_true, if_false] <;> rfl) (show ((⟨m.kind, m.from_, m.term, m.at_, m.atTerm, m.commit, m.yes, m.release, m.part, eB, m.cmd, m.entries⟩ : Msg)) = _ from by simp only [takeOk, takeM, h1, h2, h3, h4, h5, h6, h7, h8, h9, if_true, if_false] <;> rfl) (KF.n [(0, 0)])))
 refine AW.q 2 <| AW.cE (field.toNat : Int) (100 : Int) (fun h10 => ?_) (fun h10 => ?_)
 · exact AW.g <| At.a 5 <| At.c (impl_CmdOk_spec m.cmd) Tryz.call70 true [] [] [] trivial <| At.z 5 <| AW.q 2 <| AW.ret (rf (k2 (K_impl_Msg_take _ m field) (show (cmdOk m.cmd) = _ from by simp only [takeOk, takeM, h1, h2, h3, h4, h5, h6, h7, h8, h9, h10, if_true, if_false] <;> rfl) (show ((⟨m.kind, m.from_, m.term, m.at_, m.atTerm, m.commit, m.yes, m.release, m.part, m.bytes, ⟨0, 0, 0, 0, eB⟩, m.entries⟩ : Msg)) = _ from by simp only [takeOk, takeM, h1, h2, h3, h4, h5, h6, h7, h8, h9, h10, if_true, if_false] <;> rfl) (KF.n [(0, 0)])))
 exact AW.g <| At.a 5 <| At.c (impl_entriesOk_spec m.entries (by omega)) Tryz.call76 true [] [] [] trivial <| At.z 4 <| AW.seq <| AW.weak (Sub.nsl 0 15 33 6 (mC m .nil) (by kernel_rfl)) <| AW.gq 2 <| AW.ret (rf (k2 (K_impl_Msg_take _ m field) (show (entsFit m.entries) = _ from by simp only [takeOk, takeM, h1, h2, h3, h4, h5, h6, h7, h8, h9, h10, if_true, if_false] <;> rfl) (show ((⟨m.kind, m.from_, m.term, m.at_, m.atTerm, m.commit, m.yes, m.release, m.part, m.bytes, m.cmd, []⟩ : Msg)) = _ from by simp only [takeOk, takeM, h1, h2, h3, h4, h5, h6, h7, h8, h9, h10, if_true, if_false] <;> rfl) (KF.n [(0, 0)])))
theorem slices_Equal_spec (s1 : List Ent) (s2 : List Ent) (ha : s1.length ≤ 1048576) (hb : s2.length ≤ 1048576) : FnSpec Tryz.prog 77 [.sl false 6 (s1.map encEnt), .sl false 6 (s2.map encEnt)] [] (.bool (listEq entEq s1 s2)) []:= by
 refine FnSpec.of 26 Tryz.func77 rfl Tryz.ntmps77 (by simp) (AW.weakK ?_)
 refine AW.q 1 <| AW.seq <| AW.r <| At.a 2 <| At.sL 7 encEnt s1 <| At.a 2 <| At.sL 9 encEnt s2 <| At.z 1 <| AW.cU (s1.length : Int) (s2.length : Int) (fun h1 => ?_) (fun h1 => ?_)
 · refine AW.q 1 <| AW.ret ?_
   refine ⟨_, Sub.refl _ _, ?_⟩
   refine KF.conv (fun w => .bool w) (fun w => []) (show (false) = (listEq entEq s1 s2) from by rw [listEq_len (by omega)]) ?_
   exact KF.n []
 refine AW.skip <| AW.seq <| AW.r <| At.a 2 <| At.sL 12 encEnt s1 <| At.z 1 <| AW.block <| AW.loopW (fun (k : Nat) => Go.Sy.mk [.sl false 6 (s1.map encEnt), .sl false 6 (s2.map encEnt), .un, .un, .un, .un, .un, .un, .un, .un, .un, .un, nI (s1.length : Int), nI (k : Int)] []) (fun k => k ≤ s1.length ∧ listEq entEq s1 s2 = listEq entEq (s1.drop k) (s2.drop k)) (fun k => s1.length - k) 0 ⟨by omega, by rw [List.drop_zero, List.drop_zero]⟩ (Sub.o [] (bs 14 12291)) ?_
 rintro k ⟨hk, hR⟩
 refine AW.q 1 <| AW.seq <| AW.cD ((k : Int) < (s1.length : Int)) (fun h2 => ?_) (fun h2 => ?_)
 · refine AW.skip <| AW.seq <| AW.block <| AW.q 2 <| AW.seq <| AW.gD Tryz_mix <| At.a 2 <| At.iSl 24 18 (.tmp 16) (.tmp 17) false 6 (s1.map encEnt) .i64 (k : Int) 45 (by omega) (by simp only [List.length_map]; omega) ?_
   refine Exists.elim (gE s1 k (by omega)) fun e1 he1 => ?_
   refine At.lVp 45 19 (.tmp 18) false 6 (s1.map encEnt) k 0 true 6 (encEnt e1) (.agg [nI e1.term, nI e1.cmd.kind, nI e1.cmd.release, nI e1.cmd.node, nI e1.cmd.size, .str e1.cmd.digest]) (mapGet he1) <| At.a 2 <| At.iSl 24 22 (.tmp 20) (.tmp 21) false 6 (s2.map encEnt) .i64 (k : Int) 45 (by omega) (by simp only [List.length_map]; omega) ?_
   refine Exists.elim (gE s2 k (by omega)) fun e2 he2 => ?_
   refine At.lVp 45 23 (.tmp 22) false 6 (s2.map encEnt) k 0 true 6 (encEnt e2) (.agg [nI e2.term, nI e2.cmd.kind, nI e2.cmd.release, nI e2.cmd.node, nI e2.cmd.size, .str e2.cmd.digest]) (mapGet he2) <| At.eqA (t := 45) (u := 45) (d := 24) (op := .neq) (x := .tmp 19) (y := .tmp 23) (X := [nI e1.term, nI e1.cmd.kind, nI e1.cmd.release, nI e1.cmd.node, nI e1.cmd.size, .str e1.cmd.digest]) (Y := [nI e2.term, nI e2.cmd.kind, nI e2.cmd.release, nI e2.cmd.node, nI e2.cmd.size, .str e2.cmd.digest]) (entEq e1 e2) (by kernel_rfl) (by kernel_rfl) (by kernel_rfl) (by kernel_rfl) (by kernel_rfl) (.bool (!(entEq e1 e2))) (.inr ⟨rfl, rfl⟩) <| At.done rfl ⟨by kernel_rfl, ?_⟩
   refine AW.cNB (entEq e1 e2) (fun h3 => ?_) (fun h3 => ?_)
   · refine AW.q 1 <| AW.ret ?_
     refine ⟨_, Sub.refl _ _, ?_⟩
     refine KF.conv (fun w => .bool w) (fun w => []) (show (false) = (listEq entEq s1 s2) from by rw [hR, dropCons he1, dropCons he2, listEq]; simp [*]) ?_
     exact KF.n []
   refine AW.skip <| AW.g <| At.a 1 <| At.sI 25 ((k : Int) + 1) (by omega) <| At.z 1 ?_
   exact ⟨k + 1, ⟨by omega, by rw [hR, dropCons he1, dropCons he2, listEq]; simp [*]⟩, (by omega), Sub.o [] (bs 14 12291)⟩
 refine AW.exit <| AW.q 1 <| AW.ret ?_
 refine ⟨_, Sub.refl _ _, ?_⟩
 refine KF.conv (fun w => .bool w) (fun w => []) (show (true) = (listEq entEq s1 s2) from by rw [hR, List.drop_of_length_le (by omega), List.drop_of_length_le (by omega)]; rfl) ?_
 exact KF.n []
def K_impl_MsgSame (rs : List ResultVar) (a : Msg) (b : Msg) (w0_ : Bool) : Exit → Sg → Prop := KF Tryz.prog 0 rs (.bool w0_) []
theorem impl_MsgSame_spec (a : Msg) (b : Msg) (ha : a.entries.length ≤ 1048576) (hb : b.entries.length ≤ 1048576) : FnSpec Tryz.prog 42 [(msgA a), (msgA b)] [] (.bool (msgEq a b)) []:= by
 refine FnSpec.of 91 Tryz.func42 rfl Tryz.ntmps42 (by simp) (AW.weakK ?_)
 refine AW.q 3 <| AW.r <| At.a 6 ?_
 by_cases h1 : a.kind = b.kind
 · refine At.sB 12 _ _ (sayET h1) <| At.a 7 ?_
   by_cases h2 : a.from_ = b.from_
   · refine At.sB 19 _ _ (sayET h2) <| At.a 7 ?_
     by_cases h3 : a.term = b.term
     · refine At.sB 26 _ _ (sayET h3) <| At.a 7 ?_
       by_cases h4 : a.at_ = b.at_
       · refine At.sB 33 _ _ (sayET h4) <| At.a 7 ?_
         by_cases h5 : a.atTerm = b.atTerm
         · refine At.sB 40 _ _ (sayET h5) <| At.z 7 <| AW.r <| At.a 4 <| At.eqB (t := 4) (u := 4) (d := 51) (op := .eql) (x := .tmp 48) (y := .tmp 50) (a := a.yes) (b := b.yes) (by kernel_rfl) (by kernel_rfl) (by kernel_rfl) (by kernel_rfl) (by kernel_rfl) (.bool (a.yes == b.yes)) (.inl ⟨rfl, rfl⟩) <| At.a 1 ?_
           by_cases h6 : (a.yes == b.yes) = true
           · refine At.sB 52 (a.yes == b.yes) true (sayB h6) <| At.a 7 ?_
             by_cases h7 : a.release = b.release
             · refine At.sB 59 _ _ (sayET h7) <| At.a 7 ?_
               by_cases h8 : a.part = b.part
               · refine At.sB 66 _ _ (sayET h8) <| At.a 7 ?_
                 by_cases h9 : a.bytes.toList = b.bytes.toList
                 · refine At.sB 73 _ _ (sayET h9) <| At.a 4 <| At.eqA (t := 31) (u := 31) (d := 78) (op := .eql) (x := .tmp 75) (y := .tmp 77) (X := [nI a.cmd.kind, nI a.cmd.release, nI a.cmd.node, nI a.cmd.size, .str a.cmd.digest]) (Y := [nI b.cmd.kind, nI b.cmd.release, nI b.cmd.node, nI b.cmd.size, .str b.cmd.digest]) (cmdEq a.cmd b.cmd) (by kernel_rfl) (by kernel_rfl) (by kernel_rfl) (by kernel_rfl) (by kernel_rfl) (.bool (cmdEq a.cmd b.cmd)) (.inl ⟨rfl, rfl⟩) <| At.z 2 <| AW.r <| At.a 2 ?_
                   by_cases h10 : a.commit = b.commit
                   · refine At.sB 81 _ _ (sayET h10) <| At.a 3 ?_
                     by_cases h11 : (cmdEq a.cmd b.cmd) = true
                     · exact At.sB 84 (cmdEq a.cmd b.cmd) true (sayB h11) <| At.a 4 <| At.c (slices_Equal_spec a.entries b.entries (by omega) (by omega)) Tryz.call77 true [] [] [] trivial <| At.z 2 <| AW.ret (rf (k1 (K_impl_MsgSame _ a b) (show (listEq entEq a.entries b.entries) = _ from by grind [msgEq]) (KF.n [])))
                     refine At.sB 84 (cmdEq a.cmd b.cmd) false (sayB (Bool.eq_false_iff.2 h11)) ?_
                     replace h11 := Bool.eq_false_iff.2 h11
                     exact At.z 7 <| AW.ret (rf (k1 (K_impl_MsgSame _ a b) (show (false) = _ from by grind [msgEq]) (KF.n [])))
                   exact At.sB 81 _ _ (sayEF h10) <| At.z 10 <| AW.ret (rf (k1 (K_impl_MsgSame _ a b) (show (false) = _ from by grind [msgEq]) (KF.n [])))
                 refine At.sB 73 _ _ (sayEF h9) <| At.z 7 <| AW.r <| At.a 2 ?_
                 by_cases h12 : a.commit = b.commit
                 · exact At.sB 81 _ _ (sayET h12) <| At.z 10 <| AW.ret (rf (k1 (K_impl_MsgSame _ a b) (show (false) = _ from by grind [msgEq]) (KF.n [])))
                 exact At.sB 81 _ _ (sayEF h12) <| At.z 10 <| AW.ret (rf (k1 (K_impl_MsgSame _ a b) (show (false) = _ from by grind [msgEq]) (KF.n [])))
               refine At.sB 66 _ _ (sayEF h8) <| At.z 14 <| AW.r <| At.a 2 ?_
               by_cases h13 : a.commit = b.commit
               · exact At.sB 81 _ _ (sayET h13) <| At.z 10 <| AW.ret (rf (k1 (K_impl_MsgSame _ a b) (show (false) = _ from by grind [msgEq]) (KF.n [])))
               exact At.sB 81 _ _ (sayEF h13) <| At.z 10 <| AW.ret (rf (k1 (K_impl_MsgSame _ a b) (show (false) = _ from by grind [msgEq]) (KF.n [])))
             refine At.sB 59 _ _ (sayEF h7) <| At.z 21 <| AW.r <| At.a 2 ?_
             by_cases h14 : a.commit = b.commit
             · exact At.sB 81 _ _ (sayET h14) <| At.z 10 <| AW.ret (rf (k1 (K_impl_MsgSame _ a b) (show (false) = _ from by grind [msgEq]) (KF.n [])))
             exact At.sB 81 _ _ (sayEF h14) <| At.z 10 <| AW.ret (rf (k1 (K_impl_MsgSame _ a b) (show (false) = _ from by grind [msgEq]) (KF.n [])))
           refine At.sB 52 (a.yes == b.yes) false (sayB (Bool.eq_false_iff.2 h6)) ?_
           replace h6 := Bool.eq_false_iff.2 h6
           refine At.z 28 <| AW.r <| At.a 2 ?_
           by_cases h15 : a.commit = b.commit
           · exact At.sB 81 _ _ (sayET h15) <| At.z 10 <| AW.ret (rf (k1 (K_impl_MsgSame _ a b) (show (false) = _ from by grind [msgEq]) (KF.n [])))
           exact At.sB 81 _ _ (sayEF h15) <| At.z 10 <| AW.ret (rf (k1 (K_impl_MsgSame _ a b) (show (false) = _ from by grind [msgEq]) (KF.n [])))
         refine At.sB 40 _ _ (sayEF h5) <| At.z 7 <| AW.r <| At.a 4 <| At.eqB (t := 4) (u := 4) (d := 51) (op := .eql) (x := .tmp 48) (y := .tmp 50) (a := a.yes) (b := b.yes) (by kernel_rfl) (by kernel_rfl) (by kernel_rfl) (by kernel_rfl) (by kernel_rfl) (.bool (a.yes == b.yes)) (.inl ⟨rfl, rfl⟩) <| At.a 1 ?_
         by_cases h16 : (a.yes == b.yes) = true
         · refine At.sB 52 (a.yes == b.yes) true (sayB h16) <| At.a 7 ?_
           by_cases h17 : a.release = b.release
           · refine At.sB 59 _ _ (sayET h17) <| At.a 7 ?_
             by_cases h18 : a.part = b.part
             · refine At.sB 66 _ _ (sayET h18) <| At.a 7 ?_
               by_cases h19 : a.bytes.toList = b.bytes.toList
               · exact At.sB 73 _ _ (sayET h19) <| At.a 4 <| At.eqA (t := 31) (u := 31) (d := 78) (op := .eql) (x := .tmp 75) (y := .tmp 77) (X := [nI a.cmd.kind, nI a.cmd.release, nI a.cmd.node, nI a.cmd.size, .str a.cmd.digest]) (Y := [nI b.cmd.kind, nI b.cmd.release, nI b.cmd.node, nI b.cmd.size, .str b.cmd.digest]) (cmdEq a.cmd b.cmd) (by kernel_rfl) (by kernel_rfl) (by kernel_rfl) (by kernel_rfl) (by kernel_rfl) (.bool (cmdEq a.cmd b.cmd)) (.inl ⟨rfl, rfl⟩) <| At.z 2 <| AW.q 12 <| AW.ret (rf (k1 (K_impl_MsgSame _ a b) (show (false) = _ from by grind [msgEq]) (KF.n [])))
               exact At.sB 73 _ _ (sayEF h19) <| At.z 7 <| AW.q 12 <| AW.ret (rf (k1 (K_impl_MsgSame _ a b) (show (false) = _ from by grind [msgEq]) (KF.n [])))
             exact At.sB 66 _ _ (sayEF h18) <| At.z 14 <| AW.q 12 <| AW.ret (rf (k1 (K_impl_MsgSame _ a b) (show (false) = _ from by grind [msgEq]) (KF.n [])))
           exact At.sB 59 _ _ (sayEF h17) <| At.z 21 <| AW.q 12 <| AW.ret (rf (k1 (K_impl_MsgSame _ a b) (show (false) = _ from by grind [msgEq]) (KF.n [])))
         refine At.sB 52 (a.yes == b.yes) false (sayB (Bool.eq_false_iff.2 h16)) ?_
         replace h16 := Bool.eq_false_iff.2 h16
         exact At.z 28 <| AW.q 12 <| AW.ret (rf (k1 (K_impl_MsgSame _ a b) (show (false) = _ from by grind [msgEq]) (KF.n [])))
       refine At.sB 33 _ _ (sayEF h4) <| At.z 14 <| AW.r <| At.a 4 <| At.eqB (t := 4) (u := 4) (d := 51) (op := .eql) (x := .tmp 48) (y := .tmp 50) (a := a.yes) (b := b.yes) (by kernel_rfl) (by kernel_rfl) (by kernel_rfl) (by kernel_rfl) (by kernel_rfl) (.bool (a.yes == b.yes)) (.inl ⟨rfl, rfl⟩) <| At.a 1 ?_
       by_cases h20 : (a.yes == b.yes) = true
       · refine At.sB 52 (a.yes == b.yes) true (sayB h20) <| At.a 7 ?_
         by_cases h21 : a.release = b.release
         · refine At.sB 59 _ _ (sayET h21) <| At.a 7 ?_
           by_cases h22 : a.part = b.part
           · refine At.sB 66 _ _ (sayET h22) <| At.a 7 ?_
             by_cases h23 : a.bytes.toList = b.bytes.toList
             · exact At.sB 73 _ _ (sayET h23) <| At.a 4 <| At.eqA (t := 31) (u := 31) (d := 78) (op := .eql) (x := .tmp 75) (y := .tmp 77) (X := [nI a.cmd.kind, nI a.cmd.release, nI a.cmd.node, nI a.cmd.size, .str a.cmd.digest]) (Y := [nI b.cmd.kind, nI b.cmd.release, nI b.cmd.node, nI b.cmd.size, .str b.cmd.digest]) (cmdEq a.cmd b.cmd) (by kernel_rfl) (by kernel_rfl) (by kernel_rfl) (by kernel_rfl) (by kernel_rfl) (.bool (cmdEq a.cmd b.cmd)) (.inl ⟨rfl, rfl⟩) <| At.z 2 <| AW.q 12 <| AW.ret (rf (k1 (K_impl_MsgSame _ a b) (show (false) = _ from by grind [msgEq]) (KF.n [])))
             exact At.sB 73 _ _ (sayEF h23) <| At.z 7 <| AW.q 12 <| AW.ret (rf (k1 (K_impl_MsgSame _ a b) (show (false) = _ from by grind [msgEq]) (KF.n [])))
           exact At.sB 66 _ _ (sayEF h22) <| At.z 14 <| AW.q 12 <| AW.ret (rf (k1 (K_impl_MsgSame _ a b) (show (false) = _ from by grind [msgEq]) (KF.n [])))
         exact At.sB 59 _ _ (sayEF h21) <| At.z 21 <| AW.q 12 <| AW.ret (rf (k1 (K_impl_MsgSame _ a b) (show (false) = _ from by grind [msgEq]) (KF.n [])))
       refine At.sB 52 (a.yes == b.yes) false (sayB (Bool.eq_false_iff.2 h20)) ?_
       replace h20 := Bool.eq_false_iff.2 h20
       exact At.z 28 <| AW.q 12 <| AW.ret (rf (k1 (K_impl_MsgSame _ a b) (show (false) = _ from by grind [msgEq]) (KF.n [])))
     refine At.sB 26 _ _ (sayEF h3) <| At.z 21 <| AW.r <| At.a 4 <| At.eqB (t := 4) (u := 4) (d := 51) (op := .eql) (x := .tmp 48) (y := .tmp 50) (a := a.yes) (b := b.yes) (by kernel_rfl) (by kernel_rfl) (by kernel_rfl) (by kernel_rfl) (by kernel_rfl) (.bool (a.yes == b.yes)) (.inl ⟨rfl, rfl⟩) <| At.a 1 ?_
     by_cases h24 : (a.yes == b.yes) = true
     · refine At.sB 52 (a.yes == b.yes) true (sayB h24) <| At.a 7 ?_
       by_cases h25 : a.release = b.release
       · refine At.sB 59 _ _ (sayET h25) <| At.a 7 ?_
         by_cases h26 : a.part = b.part
         · refine At.sB 66 _ _ (sayET h26) <| At.a 7 ?_
           by_cases h27 : a.bytes.toList = b.bytes.toList
           · exact At.sB 73 _ _ (sayET h27) <| At.a 4 <| At.eqA (t := 31) (u := 31) (d := 78) (op := .eql) (x := .tmp 75) (y := .tmp 77) (X := [nI a.cmd.kind, nI a.cmd.release, nI a.cmd.node, nI a.cmd.size, .str a.cmd.digest]) (Y := [nI b.cmd.kind, nI b.cmd.release, nI b.cmd.node, nI b.cmd.size, .str b.cmd.digest]) (cmdEq a.cmd b.cmd) (by kernel_rfl) (by kernel_rfl) (by kernel_rfl) (by kernel_rfl) (by kernel_rfl) (.bool (cmdEq a.cmd b.cmd)) (.inl ⟨rfl, rfl⟩) <| At.z 2 <| AW.q 12 <| AW.ret (rf (k1 (K_impl_MsgSame _ a b) (show (false) = _ from by grind [msgEq]) (KF.n [])))
           exact At.sB 73 _ _ (sayEF h27) <| At.z 7 <| AW.q 12 <| AW.ret (rf (k1 (K_impl_MsgSame _ a b) (show (false) = _ from by grind [msgEq]) (KF.n [])))
         exact At.sB 66 _ _ (sayEF h26) <| At.z 14 <| AW.q 12 <| AW.ret (rf (k1 (K_impl_MsgSame _ a b) (show (false) = _ from by grind [msgEq]) (KF.n [])))
       exact At.sB 59 _ _ (sayEF h25) <| At.z 21 <| AW.q 12 <| AW.ret (rf (k1 (K_impl_MsgSame _ a b) (show (false) = _ from by grind [msgEq]) (KF.n [])))
     refine At.sB 52 (a.yes == b.yes) false (sayB (Bool.eq_false_iff.2 h24)) ?_
     replace h24 := Bool.eq_false_iff.2 h24
     exact At.z 28 <| AW.q 12 <| AW.ret (rf (k1 (K_impl_MsgSame _ a b) (show (false) = _ from by grind [msgEq]) (KF.n [])))
   refine At.sB 19 _ _ (sayEF h2) <| At.z 28 <| AW.r <| At.a 4 <| At.eqB (t := 4) (u := 4) (d := 51) (op := .eql) (x := .tmp 48) (y := .tmp 50) (a := a.yes) (b := b.yes) (by kernel_rfl) (by kernel_rfl) (by kernel_rfl) (by kernel_rfl) (by kernel_rfl) (.bool (a.yes == b.yes)) (.inl ⟨rfl, rfl⟩) <| At.a 1 ?_
   by_cases h28 : (a.yes == b.yes) = true
   · refine At.sB 52 (a.yes == b.yes) true (sayB h28) <| At.a 7 ?_
     by_cases h29 : a.release = b.release
     · refine At.sB 59 _ _ (sayET h29) <| At.a 7 ?_
       by_cases h30 : a.part = b.part
       · refine At.sB 66 _ _ (sayET h30) <| At.a 7 ?_
         by_cases h31 : a.bytes.toList = b.bytes.toList
         · exact At.sB 73 _ _ (sayET h31) <| At.a 4 <| At.eqA (t := 31) (u := 31) (d := 78) (op := .eql) (x := .tmp 75) (y := .tmp 77) (X := [nI a.cmd.kind, nI a.cmd.release, nI a.cmd.node, nI a.cmd.size, .str a.cmd.digest]) (Y := [nI b.cmd.kind, nI b.cmd.release, nI b.cmd.node, nI b.cmd.size, .str b.cmd.digest]) (cmdEq a.cmd b.cmd) (by kernel_rfl) (by kernel_rfl) (by kernel_rfl) (by kernel_rfl) (by kernel_rfl) (.bool (cmdEq a.cmd b.cmd)) (.inl ⟨rfl, rfl⟩) <| At.z 2 <| AW.q 12 <| AW.ret (rf (k1 (K_impl_MsgSame _ a b) (show (false) = _ from by grind [msgEq]) (KF.n [])))
         exact At.sB 73 _ _ (sayEF h31) <| At.z 7 <| AW.q 12 <| AW.ret (rf (k1 (K_impl_MsgSame _ a b) (show (false) = _ from by grind [msgEq]) (KF.n [])))
       exact At.sB 66 _ _ (sayEF h30) <| At.z 14 <| AW.q 12 <| AW.ret (rf (k1 (K_impl_MsgSame _ a b) (show (false) = _ from by grind [msgEq]) (KF.n [])))
     exact At.sB 59 _ _ (sayEF h29) <| At.z 21 <| AW.q 12 <| AW.ret (rf (k1 (K_impl_MsgSame _ a b) (show (false) = _ from by grind [msgEq]) (KF.n [])))
   refine At.sB 52 (a.yes == b.yes) false (sayB (Bool.eq_false_iff.2 h28)) ?_
   replace h28 := Bool.eq_false_iff.2 h28
   exact At.z 28 <| AW.q 12 <| AW.ret (rf (k1 (K_impl_MsgSame _ a b) (show (false) = _ from by grind [msgEq]) (KF.n [])))
 refine At.sB 12 _ _ (sayEF h1) <| At.z 35 <| AW.r <| At.a 4 <| At.eqB (t := 4) (u := 4) (d := 51) (op := .eql) (x := .tmp 48) (y := .tmp 50) (a := a.yes) (b := b.yes) (by kernel_rfl) (by kernel_rfl) (by kernel_rfl) (by kernel_rfl) (by kernel_rfl) (.bool (a.yes == b.yes)) (.inl ⟨rfl, rfl⟩) <| At.a 1 ?_
 by_cases h32 : (a.yes == b.yes) = true
 · refine At.sB 52 (a.yes == b.yes) true (sayB h32) <| At.a 7 ?_
   by_cases h33 : a.release = b.release
   · refine At.sB 59 _ _ (sayET h33) <| At.a 7 ?_
     by_cases h34 : a.part = b.part
     · refine At.sB 66 _ _ (sayET h34) <| At.a 7 ?_
       by_cases h35 : a.bytes.toList = b.bytes.toList
       · exact At.sB 73 _ _ (sayET h35) <| At.a 4 <| At.eqA (t := 31) (u := 31) (d := 78) (op := .eql) (x := .tmp 75) (y := .tmp 77) (X := [nI a.cmd.kind, nI a.cmd.release, nI a.cmd.node, nI a.cmd.size, .str a.cmd.digest]) (Y := [nI b.cmd.kind, nI b.cmd.release, nI b.cmd.node, nI b.cmd.size, .str b.cmd.digest]) (cmdEq a.cmd b.cmd) (by kernel_rfl) (by kernel_rfl) (by kernel_rfl) (by kernel_rfl) (by kernel_rfl) (.bool (cmdEq a.cmd b.cmd)) (.inl ⟨rfl, rfl⟩) <| At.z 2 <| AW.q 12 <| AW.ret (rf (k1 (K_impl_MsgSame _ a b) (show (false) = _ from by grind [msgEq]) (KF.n [])))
       exact At.sB 73 _ _ (sayEF h35) <| At.z 7 <| AW.q 12 <| AW.ret (rf (k1 (K_impl_MsgSame _ a b) (show (false) = _ from by grind [msgEq]) (KF.n [])))
     exact At.sB 66 _ _ (sayEF h34) <| At.z 14 <| AW.q 12 <| AW.ret (rf (k1 (K_impl_MsgSame _ a b) (show (false) = _ from by grind [msgEq]) (KF.n [])))
   exact At.sB 59 _ _ (sayEF h33) <| At.z 21 <| AW.q 12 <| AW.ret (rf (k1 (K_impl_MsgSame _ a b) (show (false) = _ from by grind [msgEq]) (KF.n [])))
 refine At.sB 52 (a.yes == b.yes) false (sayB (Bool.eq_false_iff.2 h32)) ?_
 replace h32 := Bool.eq_false_iff.2 h32
 exact At.z 28 <| AW.q 12 <| AW.ret (rf (k1 (K_impl_MsgSame _ a b) (show (false) = _ from by grind [msgEq]) (KF.n [])))
theorem impl_MsgFits_spec (m : Msg) (hl : m.entries.length ≤ 1048576) : FnSpec Tryz.prog 15 [(msgA m)] [] (.bool (msgFits m)) []:= by
 have hfs := fieldsL_small m.kind
 refine FnSpec.of 30 Tryz.func15 rfl Tryz.ntmps15 (by simp) (AW.weakK ?_)
 refine AW.q 2 <| AW.r <| At.a 2 <| At.c (impl_fieldsOf_spec m.kind) Tryz.call40 true [] [] [] trivial <| At.z 1 <| AW.q 3 <| AW.seq <| AW.q 3 <| AW.block <| AW.loopW (fun (x : Nat × Msg) => match x with | (k, q) => Go.Sy.mk [.un, .ptr 101 0 0, .un, .str (fieldsL m.kind), .ptr 104 0 0, .un, .un, .un, .un, .un, .un, nI ((fieldsL m.kind).size : Int), nI (k : Int)] [(101, .box 33 (mC m (.sl false 6 (m.entries.map encEnt)))), (104, .box 33 (mC q (.sl false 6 (q.entries.map encEnt))))]) (fun (k, q) => k ≤ (fieldsL m.kind).size ∧ q.entries.length ≤ 1048576 ∧ runTake m.kind (fieldsL m.kind).data.toList m = runTake m.kind ((fieldsL m.kind).data.toList.drop k) q) (fun (k, q) => (fieldsL m.kind).size - k) (0, m) ⟨by omega, hl, by rw [List.drop_zero]⟩ (Sub.o (dg [101, 104]) (bs 13 6170)) ?_
 rintro ⟨k, q⟩ ⟨hk, hq, hR⟩
 refine AW.q 1 <| AW.seq <| AW.cD ((k : Int) < ((fieldsL m.kind).size : Int)) (fun h1 => ?_) (fun h1 => ?_)
 · refine AW.skip <| AW.seq <| AW.block <| AW.q 2 <| AW.r <| At.a 2 ?_
   refine Exists.elim (show ∃ e, (fieldsL m.kind).data[k]? = some e from ⟨_, Array.getElem?_eq_getElem (by show _ < (fieldsL m.kind).size; omega)⟩) fun e1 he1 => ?_
   have hl1 : (fieldsL m.kind).data.toList[k]? = some e1 := by simpa using he1
   refine At.idxStr (t := 9) (d := 17) (x := .tmp 15) (y := .tmp 16) (s := fieldsL m.kind) (kd := .i64) (i := (k : Int)) e1 (by kernel_rfl) (by kernel_rfl) (by kernel_rfl) (by kernel_rfl) (by omega) he1 <| At.c (impl_Msg_take_spec q e1 (by omega)) Tryz.call41 true [(104, 0)] [] [] trivial <| At.z 1 <| AW.cNB (takeOk q e1.toNat) (fun h2 => ?_) (fun h2 => ?_)
   · refine AW.q 1 <| AW.ret ?_
     refine ⟨_, Sub.refl _ _, ?_⟩
     refine KF.conv (fun w => .bool w) (fun w => []) (show (false) = (msgFits m) from by rw [fits_run, hR, dropCons hl1, runTake]; simp [h1, h2]) ?_
     exact KF.n []
   refine AW.skip <| AW.g <| At.a 1 <| At.sI 20 ((k : Int) + 1) (by omega) <| At.z 1 ?_
   exact ⟨(k + 1, (takeM q e1.toNat)), ⟨by omega, takeM_small hq _, by rw [hR, dropCons hl1, runTake]; simp only [*, Bool.true_and]⟩, (by simp only; omega), Sub.o (dg [101, 104]) (bs 13 6170)⟩
 refine AW.exit <| AW.r <| At.a 3 ?_
 by_cases h3 : (fieldsL m.kind).toList = eB.toList
 · refine At.sB 23 (!((fieldsL m.kind).toList == eB.toList)) false (sayNF (sayET h3)) <| At.z 7 <| AW.ret ?_
   refine ⟨_, Sub.refl _ _, ?_⟩
   refine KF.conv (fun w => .bool w) (fun w => []) (show (false) = (msgFits m) from by rw [fits_run, show ((fieldsL m.kind).toList == []) = true from beq_iff_eq.2 (by rw [← noBytes]; assumption)]; rfl) ?_
   exact KF.n []
 refine At.sB 23 (!((fieldsL m.kind).toList == eB.toList)) true (sayNT (sayEF h3)) <| At.a 4 <| At.c (FnSpec.nz (As := [.agg (mC q (.sl false 6 (q.entries.map encEnt))), .agg [nI m.kind, nI 0, nI 0, nI 0, nI 0, nI 0, .bool false, nI 0, nI 0, .str eB, nI 0, nI 0, nI 0, nI 0, .str eB, .nil]]) 6 (impl_MsgSame_spec q ⟨m.kind, 0, 0, 0, 0, 0, false, 0, 0, eB, ⟨0, 0, 0, 0, eB⟩, []⟩ (by omega) (by simp only [List.length_map, lens]; omega))) Tryz.call42 true [] [] [] trivial <| At.z 2 <| AW.ret ?_
 refine ⟨_, Sub.refl _ _, ?_⟩
 refine KF.conv (fun w => .bool w) (fun w => []) (show (msgEq q (⟨m.kind, 0, 0, 0, 0, 0, false, 0, 0, eB, ⟨0, 0, 0, 0, eB⟩, []⟩ : Msg)) = (msgFits m) from by rw [fits_run, hR, List.drop_of_length_le (by rw [Array.length_toList]; show (fieldsL m.kind).size ≤ _; omega), runTake, beq_eq_false_iff_ne.2 (by rw [← noBytes]; assumption)]; rfl) ?_
 exact KF.n []
def K_impl_stepper_mayHear (rs : List ResultVar) (s : Stepper) (m : Msg) (kind : Int) (w0_ : Bool) : Exit → Sg → Prop := KF Tryz.prog 7 rs (.bool w0_) [.box 86 (rC s.r (.ref 1) (.ref 2) (.ref 3) (.ref 4) ++ rV s.was ++ [.ref 5, .ref 6]), .arr 45 6 (s.r.hard.log.map encEnt), .arr 3 1 (s.r.yes.map encI), .arr 3 1 (s.r.next.map encI), .arr 3 1 (s.r.match_.map encI), .arr 47 10 (s.recs.map encRec), .arr 51 17 (s.outs.map encOut)]
theorem impl_stepper_mayHear_spec (s : Stepper) (m : Msg) (kind : Int) (hz : SmallR s.was) (hm : m.entries.length ≤ 1048576) : FnSpec Tryz.prog 52 [.ptr 0 0 0, (msgA m), nI kind] [.box 86 (rC s.r (.ref 1) (.ref 2) (.ref 3) (.ref 4) ++ rV s.was ++ [.ref 5, .ref 6]), .arr 45 6 (s.r.hard.log.map encEnt), .arr 3 1 (s.r.yes.map encI), .arr 3 1 (s.r.next.map encI), .arr 3 1 (s.r.match_.map encI), .arr 47 10 (s.recs.map encRec), .arr 51 17 (s.outs.map encOut)] (.bool (hears s.was m kind)) [.box 86 (rC s.r (.ref 1) (.ref 2) (.ref 3) (.ref 4) ++ rV s.was ++ [.ref 5, .ref 6]), .arr 45 6 (s.r.hard.log.map encEnt), .arr 3 1 (s.r.yes.map encI), .arr 3 1 (s.r.next.map encI), .arr 3 1 (s.r.match_.map encI), .arr 47 10 (s.recs.map encRec), .arr 51 17 (s.outs.map encOut)]:= by
 refine FnSpec.of 42 Tryz.func52 rfl Tryz.ntmps52 (by simp) (AW.weakK ?_)
 refine AW.q 2 <| AW.seq <| AW.gD Tryz_mix <| At.a 4 <| At.c (impl_RaftOk_spec s.was hz) Tryz.call12 true [] [] [] trivial <| At.a 1 ?_
 by_cases h1 : (raftOk s.was) = true
 · refine At.sB 12 (raftOk s.was) true (sayB h1) ?_
   have h1n := raftOk1_nums (raftOk_1 h1)
   refine At.a 1 <| At.c (impl_MsgFits_spec m hm) Tryz.call15 true [] [] [] trivial <| At.a 2 ?_
   by_cases h2 : (msgFits m) = true
   · refine At.sB 16 (msgFits m) true (sayB h2) <| At.a 6 ?_
     by_cases h3 : m.kind = kind
     · refine At.sB 22 _ _ (sayET h3) <| At.a 10 ?_
       by_cases h4 : m.from_ < s.was.of_
       · exact At.sB 32 _ _ (sayT h4) <| At.zD 10 <| AW.ret (rf (k1 (K_impl_stepper_mayHear _ s m kind) (show (m.from_ != s.was.id) = _ from by grind [hears]) (KF.n (dg [0, 1, 2, 3, 4, 5, 6]))))
       exact At.sB 32 _ _ (sayF h4) <| At.zD 10 <| AW.ret (rf (k1 (K_impl_stepper_mayHear _ s m kind) (show (false) = _ from by grind [hears]) (KF.n (dg [0, 1, 2, 3, 4, 5, 6]))))
     exact At.sB 22 _ _ (sayEF h3) <| At.zD 20 <| AW.ret (rf (k1 (K_impl_stepper_mayHear _ s m kind) (show (false) = _ from by grind [hears]) (KF.n (dg [0, 1, 2, 3, 4, 5, 6]))))
   refine At.sB 16 (msgFits m) false (sayB (Bool.eq_false_iff.2 h2)) ?_
   replace h2 := Bool.eq_false_iff.2 h2
   exact At.zD 26 <| AW.ret (rf (k1 (K_impl_stepper_mayHear _ s m kind) (show (false) = _ from by grind [hears]) (KF.n (dg [0, 1, 2, 3, 4, 5, 6]))))
 refine At.sB 12 (raftOk s.was) false (sayB (Bool.eq_false_iff.2 h1)) ?_
 replace h1 := Bool.eq_false_iff.2 h1
 exact At.zD 30 <| AW.ret (rf (k1 (K_impl_stepper_mayHear _ s m kind) (show (false) = _ from by grind [hears]) (KF.n (dg [0, 1, 2, 3, 4, 5, 6]))))
end Go.Proofs.YtocjgmdfocaamaaGreat
