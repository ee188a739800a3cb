/- The contracts of the functions that FnSource reaches (each: what it answers, said over values), printed by a program of this session (wip/sy/g/gen.py). -/
import Derived.Test.YtahackghhalfeaaGreatDoorFFnSource2
set_option linter.unusedVariables false
set_option linter.unusedSimpArgs false
set_option maxRecDepth 100000
set_option maxHeartbeats 4000000
namespace Go.Proofs.YtahackghhalfeaaGreatDoor
open Go Go.Sy Go.Proofs Go.Proofs.YtahackghhalfeaaGreatDoor.OnRd
theorem spec_l12DrawText_spec  (c : Cur) (hp : 0 ≤ c.pos ∧ c.pos ≤ c.data.length ∧ c.data.length ≤ 1048576) : ∃ rho_ : Int × Int × ByteArray, (0 ≤ rho_.1 ∧ rho_.1 ≤ c.data.length ∧ rho_.2.2.size ≤ 4000 ∧ Nz rho_.2.2) ∧ FnSpec Tryz.prog 33 [.ptr 0 0 0] [.box 67 [.sl false 1 (c.data.map encU8), .int .i64 c.pos, .int .i64 c.seed]] (.str rho_.2.2) [.box 67 [.sl false 1 (c.data.map encU8), .int .i64 rho_.1, .int .i64 rho_.2.1]] := by
 have hb1 : (⟨#[10]⟩ : ByteArray).size = 1 := rfl
 have hb5 : (⟨#[35, 32, 97, 10, 10]⟩ : ByteArray).size = 5 := rfl
 refine dv (fun h_ => FnSpec.of 34 Tryz.func33 rfl Tryz.ntmps33 (by simp) (AW.weakK h_)) ?_
 refine dv (AW.q 1 ·) ?_
 refine dv (AW.r ·) ?_
 refine dv (At.a 1 ·) ?_
 refine Exists.elim (spec_l12DrawRight_spec  c (by omega)) fun r1_ hr1_ => ?_
 obtain ⟨qr1_, hr1_⟩ := hr1_
 try dsimp only at qr1_
 refine dv (At.c (hr1_) Tryz.call35 true [(0, 0)] [(1140, 1), (1141, 2), (1142, 3)] [] trivial ·) ?_
 refine dv (At.c (spec_SourcePrint_spec  r1_.2.2 (by omega)) Tryz.call7 false [] [] [(1140, 9, (r1_.2.2.rules.map encRul)), (1141, 3, (r1_.2.2.zones.map encZon)), (1142, 2, (r1_.2.2.links.map encLnk))] ⟨rfl, ⟨43, (r1_.2.2.rules.map encRul), by kernel_rfl, FrzIs.same (allP_encRul _)⟩, rfl, ⟨49, (r1_.2.2.zones.map encZon), by kernel_rfl, FrzIs.same (allP_encZon _)⟩, rfl, ⟨51, (r1_.2.2.links.map encLnk), by kernel_rfl, FrzIs.same (allP_encLnk _)⟩, trivial⟩ ·) ?_
 have hsp := sp_size r1_.2.2
 refine dv (At.z 5 ·) ?_
 refine dv (AW.seq ·) ?_
 refine dv (AW.r ·) ?_
 refine dv (At.a 1 ·) ?_
 refine Exists.elim (spec_l1Below_spec  (⟨c.data, r1_.1, r1_.2.1⟩ : Cur) 4 (by dsimp only; omega)) fun r2_ hr2_ => ?_
 obtain ⟨qr2_, hr2_⟩ := hr2_
 try dsimp only at qr2_
 try simp only [Int.reduceLT, Int.reduceLE, true_implies, false_implies, and_true] at qr2_
 refine dv (At.c (hr2_) Tryz.call36 true [(0, 0)] [] [] trivial ·) ?_
 refine dv (At.done rfl ·) ?_
 refine dv (AW.block ·) ?_
 refine dv (AW.q 2 ·) ?_
 by_cases h1 : r2_.2.2 = 0
 · refine dv (AW.condT (r2_.2.2 == 0) (by kernel_rfl) (beq_iff_eq.2 h1) ·) ?_
   refine dv (AW.g ·) ?_
   refine dv (At.a 2 ·) ?_
   refine dv (At.ll 17 9 1 117 (0, 6) (([(⟨#[32]⟩ : ByteArray), (⟨#[48]⟩ : ByteArray), (⟨#[45]⟩ : ByteArray), (⟨#[120]⟩ : ByteArray), (⟨#[57]⟩ : ByteArray), (⟨#[35]⟩ : ByteArray), (⟨#[10]⟩ : ByteArray), (⟨#[122, 111, 110, 101, 32, 65, 32, 48, 32, 45, 10]⟩ : ByteArray), (⟨#[108, 105, 110, 107, 32, 90, 32, 65, 10]⟩ : ByteArray), (⟨#[114, 117, 108, 101, 32, 97, 32, 49, 57, 55, 48, 32, 49, 57, 56, 48, 32, 51, 32, 108, 97, 115, 116, 48, 32, 49, 50, 48, 32, 54, 48, 10]⟩ : ByteArray)]).map encS) ·) ?_
   refine Exists.elim (spec_l12Dent_spec  (⟨c.data, r2_.1, r2_.2.1⟩ : Cur) (strOf (srcP r1_.2.2).1) ([(⟨#[32]⟩ : ByteArray), (⟨#[48]⟩ : ByteArray), (⟨#[45]⟩ : ByteArray), (⟨#[120]⟩ : ByteArray), (⟨#[57]⟩ : ByteArray), (⟨#[35]⟩ : ByteArray), (⟨#[10]⟩ : ByteArray), (⟨#[122, 111, 110, 101, 32, 65, 32, 48, 32, 45, 10]⟩ : ByteArray), (⟨#[108, 105, 110, 107, 32, 90, 32, 65, 10]⟩ : ByteArray), (⟨#[114, 117, 108, 101, 32, 97, 32, 49, 57, 55, 48, 32, 49, 57, 56, 48, 32, 51, 32, 108, 97, 115, 116, 48, 32, 49, 50, 48, 32, 54, 48, 10]⟩ : ByteArray)]) (by dsimp only; omega) (sp_size _) (nz_src _) (by decide) (by intro x hx; simp only [List.mem_cons, List.not_mem_nil, or_false] at hx; rcases hx with rfl | rfl | rfl | rfl | rfl | rfl | rfl | rfl | rfl | rfl <;> decide)) fun r3_ hr3_ => ?_
   obtain ⟨qr3_, hr3_⟩ := hr3_
   try dsimp only at qr3_
   refine dv (At.c (hr3_) Tryz.call60 true [(0, 0), (117, 1)] [] [] trivial ·) ?_
   refine dv (At.z 1 ·) ?_
   refine dv (AW.seq ·) ?_
   refine dv (AW.r ·) ?_
   refine dv (At.a 1 ·) ?_
   refine Exists.elim (spec_l1Once_spec  (⟨c.data, r3_.1, r3_.2.1⟩ : Cur) 30 (by dsimp only; omega)) fun r4_ hr4_ => ?_
   obtain ⟨qr4_, hr4_⟩ := hr4_
   try dsimp only at qr4_
   refine dv (At.c (hr4_) Tryz.call61 true [(0, 0)] [] [] trivial ·) ?_
   refine dv (At.done rfl ·) ?_
   by_cases h2 : r4_.2.2 = true
   · refine dv (AW.condT (r4_.2.2) (by kernel_rfl) h2 ·) ?_
     refine dv (AW.block ·) ?_
     refine DW.loopQ (fun (x : ByteArray × Int × Int) => match x with | (u, p, sd) => Go.Sy.mk [.ptr 0 0 0, .un, .un, .str u] [(0, .box 67 [.sl false 1 (c.data.map encU8), .int .i64 p, .int .i64 sd])]) (fun (x : ByteArray × Int × Int) => match x with | (u, p, sd) => (u.size ≤ 4000 ∧ Nz u) ∧ (0 ≤ p ∧ p ≤ c.data.length)) (fun (x : ByteArray × Int × Int) => match x with | (u, p, sd) => 1001 - u.size) (r3_.2.2, r4_.1, r4_.2.1) ⟨⟨by omega, by exact qr3_.2.2.2⟩, by omega⟩ (Sub.o [(0, 0)] [true, false, false, true]) ?_
     rintro ⟨u, p, sd⟩ ⟨⟨hu, hn⟩, hp2⟩ ih1
     refine dv (AW.seq ·) ?_
     refine dv (AW.r ·) ?_
     refine dv (At.a 3 ·) ?_
     refine Exists.elim (spec_l1Below_spec  (⟨c.data, p, sd⟩ : Cur) 4 (by dsimp only; omega)) fun r5_ hr5_ => ?_
     obtain ⟨qr5_, hr5_⟩ := hr5_
     try dsimp only at qr5_
     try simp only [Int.reduceLT, Int.reduceLE, true_implies, false_implies, and_true] at qr5_
     refine dv (At.c (hr5_) Tryz.call36 true [(0, 0)] [] [] trivial ·) ?_
     refine dv (At.a 1 ·) ?_
     refine dv (At.sI 29 (998 + r5_.2.2) (by omega) ·) ?_
     refine dv (At.z 1 ·) ?_
     by_cases h3 : (u.size : Int) < (998 + r5_.2.2)
     · refine dv (AW.condT (decide ((u.size : Int) < (998 + r5_.2.2))) (by kernel_rfl) (decide_eq_true h3) ·) ?_
       refine dv (AW.skip ·) ?_
       refine dv (AW.block ·) ?_
       refine dv (AW.g ·) ?_
       refine dv (At.a 1 ·) ?_
       refine dv (At.cat (t := 9) (u := 9) (d := 32) (x := .tmp 31) (y := .const (.string ⟨#[10]⟩)) (a := u) (b := (⟨#[10]⟩ : ByteArray)) (by kernel_rfl) (by kernel_rfl) (by kernel_rfl) (by kernel_rfl) (by omega) ·) ?_
       refine dv (At.z 1 ·) ?_
       exact dw (fun _ h_ => AWL.weak (Sub.o [(0, 0)] [true, false, false, true]) h_) (ih1 ((u ++ (⟨#[10]⟩ : ByteArray)), r5_.1, r5_.2.1) (⟨⟨by simp only [cat_size]; omega, hn.cat (by decide)⟩, by omega⟩) (by simp only [cat_size]; omega))
     refine dv (AW.condF (decide ((u.size : Int) < (998 + r5_.2.2))) (by kernel_rfl) (decide_eq_false h3) ·) ?_
     refine dv (AW.exit ·) ?_
     refine dv (AW.q 2 ·) ?_
     refine dv (AW.ret ·) ?_
     refine dv (⟨_, Sub.refl _ _, ·⟩) ?_
     exact ⟨(r5_.1, r5_.2.1, u), ⟨by dsimp only; omega, by dsimp only; omega, by omega, by assumption⟩, KF.mk (.inr rfl) [(0, 0)] [.str u] (by kernel_rfl) (by kernel_rfl) (by kernel_rfl) (by kernel_rfl) (by kernel_rfl)⟩
   replace h2 := Bool.eq_false_iff.2 h2
   refine dv (AW.condF (r4_.2.2) (by kernel_rfl) h2 ·) ?_
   refine dv (AW.skip ·) ?_
   refine dv (AW.q 2 ·) ?_
   refine dv (AW.ret ·) ?_
   refine dv (⟨_, Sub.refl _ _, ·⟩) ?_
   exact ⟨(r4_.1, r4_.2.1, r3_.2.2), ⟨by dsimp only; omega, by dsimp only; omega, by dsimp only; omega, by exact qr3_.2.2.2⟩, KF.mk (.inr rfl) [(0, 0)] [.str r3_.2.2] (by kernel_rfl) (by kernel_rfl) (by kernel_rfl) (by kernel_rfl) (by kernel_rfl)⟩
 refine dv (AW.condF (r2_.2.2 == 0) (by kernel_rfl) (beq_eq_false_iff_ne.2 h1) ·) ?_
 refine dv (AW.q 2 ·) ?_
 by_cases h4 : r2_.2.2 = 1
 · refine dv (AW.condT (r2_.2.2 == 1) (by kernel_rfl) (beq_iff_eq.2 h4) ·) ?_
   refine dv (AW.g ·) ?_
   refine dv (At.a 1 ·) ?_
   refine dv (At.cat (t := 9) (u := 9) (d := 22) (x := .const (.string ⟨#[35, 32, 97, 10, 10]⟩)) (y := .tmp 21) (a := (⟨#[35, 32, 97, 10, 10]⟩ : ByteArray)) (b := strOf (srcP r1_.2.2).1) (by kernel_rfl) (by kernel_rfl) (by kernel_rfl) (by kernel_rfl) (by omega) ·) ?_
   refine dv (At.z 1 ·) ?_
   refine dv (AW.seq ·) ?_
   refine dv (AW.r ·) ?_
   refine dv (At.a 1 ·) ?_
   refine Exists.elim (spec_l1Once_spec  (⟨c.data, r2_.1, r2_.2.1⟩ : Cur) 30 (by dsimp only; omega)) fun r3_ hr3_ => ?_
   obtain ⟨qr3_, hr3_⟩ := hr3_
   try dsimp only at qr3_
   refine dv (At.c (hr3_) Tryz.call61 true [(0, 0)] [] [] trivial ·) ?_
   refine dv (At.done rfl ·) ?_
   by_cases h5 : r3_.2.2 = true
   · refine dv (AW.condT (r3_.2.2) (by kernel_rfl) h5 ·) ?_
     refine dv (AW.block ·) ?_
     refine DW.loopQ (fun (x : ByteArray × Int × Int) => match x with | (u, p, sd) => Go.Sy.mk [.ptr 0 0 0, .un, .un, .str u] [(0, .box 67 [.sl false 1 (c.data.map encU8), .int .i64 p, .int .i64 sd])]) (fun (x : ByteArray × Int × Int) => match x with | (u, p, sd) => (u.size ≤ 4000 ∧ Nz u) ∧ (0 ≤ p ∧ p ≤ c.data.length)) (fun (x : ByteArray × Int × Int) => match x with | (u, p, sd) => 1001 - u.size) ((⟨#[35, 32, 97, 10, 10]⟩ : ByteArray) ++ (strOf (srcP r1_.2.2).1), r3_.1, r3_.2.1) ⟨⟨by simp only [cat_size]; omega, by exact Nz.cat (by decide) (nz_src _)⟩, by omega⟩ (Sub.o [(0, 0)] [true, false, false, true]) ?_
     rintro ⟨u, p, sd⟩ ⟨⟨hu, hn⟩, hp2⟩ ih2
     refine dv (AW.seq ·) ?_
     refine dv (AW.r ·) ?_
     refine dv (At.a 3 ·) ?_
     refine Exists.elim (spec_l1Below_spec  (⟨c.data, p, sd⟩ : Cur) 4 (by dsimp only; omega)) fun r4_ hr4_ => ?_
     obtain ⟨qr4_, hr4_⟩ := hr4_
     try dsimp only at qr4_
     try simp only [Int.reduceLT, Int.reduceLE, true_implies, false_implies, and_true] at qr4_
     refine dv (At.c (hr4_) Tryz.call36 true [(0, 0)] [] [] trivial ·) ?_
     refine dv (At.a 1 ·) ?_
     refine dv (At.sI 29 (998 + r4_.2.2) (by omega) ·) ?_
     refine dv (At.z 1 ·) ?_
     by_cases h6 : (u.size : Int) < (998 + r4_.2.2)
     · refine dv (AW.condT (decide ((u.size : Int) < (998 + r4_.2.2))) (by kernel_rfl) (decide_eq_true h6) ·) ?_
       refine dv (AW.skip ·) ?_
       refine dv (AW.block ·) ?_
       refine dv (AW.g ·) ?_
       refine dv (At.a 1 ·) ?_
       refine dv (At.cat (t := 9) (u := 9) (d := 32) (x := .tmp 31) (y := .const (.string ⟨#[10]⟩)) (a := u) (b := (⟨#[10]⟩ : ByteArray)) (by kernel_rfl) (by kernel_rfl) (by kernel_rfl) (by kernel_rfl) (by omega) ·) ?_
       refine dv (At.z 1 ·) ?_
       exact dw (fun _ h_ => AWL.weak (Sub.o [(0, 0)] [true, false, false, true]) h_) (ih2 ((u ++ (⟨#[10]⟩ : ByteArray)), r4_.1, r4_.2.1) (⟨⟨by simp only [cat_size]; omega, hn.cat (by decide)⟩, by omega⟩) (by simp only [cat_size]; omega))
     refine dv (AW.condF (decide ((u.size : Int) < (998 + r4_.2.2))) (by kernel_rfl) (decide_eq_false h6) ·) ?_
     refine dv (AW.exit ·) ?_
     refine dv (AW.q 2 ·) ?_
     refine dv (AW.ret ·) ?_
     refine dv (⟨_, Sub.refl _ _, ·⟩) ?_
     exact ⟨(r4_.1, r4_.2.1, u), ⟨by dsimp only; omega, by dsimp only; omega, by omega, by assumption⟩, KF.mk (.inr rfl) [(0, 0)] [.str u] (by kernel_rfl) (by kernel_rfl) (by kernel_rfl) (by kernel_rfl) (by kernel_rfl)⟩
   replace h5 := Bool.eq_false_iff.2 h5
   refine dv (AW.condF (r3_.2.2) (by kernel_rfl) h5 ·) ?_
   refine dv (AW.skip ·) ?_
   refine dv (AW.q 2 ·) ?_
   refine dv (AW.ret ·) ?_
   refine dv (⟨_, Sub.refl _ _, ·⟩) ?_
   exact ⟨(r3_.1, r3_.2.1, (⟨#[35, 32, 97, 10, 10]⟩ : ByteArray) ++ (strOf (srcP r1_.2.2).1)), ⟨by dsimp only; omega, by dsimp only; omega, by dsimp only; simp only [cat_size]; omega, by exact Nz.cat (by decide) (nz_src _)⟩, KF.mk (.inr rfl) [(0, 0)] [.str ((⟨#[35, 32, 97, 10, 10]⟩ : ByteArray) ++ (strOf (srcP r1_.2.2).1))] (by kernel_rfl) (by kernel_rfl) (by kernel_rfl) (by kernel_rfl) (by kernel_rfl)⟩
 refine dv (AW.condF (r2_.2.2 == 1) (by kernel_rfl) (beq_eq_false_iff_ne.2 h4) ·) ?_
 refine dv (AW.skip ·) ?_
 refine dv (AW.seq ·) ?_
 refine dv (AW.r ·) ?_
 refine dv (At.a 1 ·) ?_
 refine Exists.elim (spec_l1Once_spec  (⟨c.data, r2_.1, r2_.2.1⟩ : Cur) 30 (by dsimp only; omega)) fun r3_ hr3_ => ?_
 obtain ⟨qr3_, hr3_⟩ := hr3_
 try dsimp only at qr3_
 refine dv (At.c (hr3_) Tryz.call61 true [(0, 0)] [] [] trivial ·) ?_
 refine dv (At.done rfl ·) ?_
 by_cases h7 : r3_.2.2 = true
 · refine dv (AW.condT (r3_.2.2) (by kernel_rfl) h7 ·) ?_
   refine dv (AW.block ·) ?_
   refine DW.loopQ (fun (x : ByteArray × Int × Int) => match x with | (u, p, sd) => Go.Sy.mk [.ptr 0 0 0, .un, .un, .str u] [(0, .box 67 [.sl false 1 (c.data.map encU8), .int .i64 p, .int .i64 sd])]) (fun (x : ByteArray × Int × Int) => match x with | (u, p, sd) => (u.size ≤ 4000 ∧ Nz u) ∧ (0 ≤ p ∧ p ≤ c.data.length)) (fun (x : ByteArray × Int × Int) => match x with | (u, p, sd) => 1001 - u.size) (strOf (srcP r1_.2.2).1, r3_.1, r3_.2.1) ⟨⟨by omega, by exact nz_src _⟩, by omega⟩ (Sub.o [(0, 0)] [true, false, false, true]) ?_
   rintro ⟨u, p, sd⟩ ⟨⟨hu, hn⟩, hp2⟩ ih3
   refine dv (AW.seq ·) ?_
   refine dv (AW.r ·) ?_
   refine dv (At.a 3 ·) ?_
   refine Exists.elim (spec_l1Below_spec  (⟨c.data, p, sd⟩ : Cur) 4 (by dsimp only; omega)) fun r4_ hr4_ => ?_
   obtain ⟨qr4_, hr4_⟩ := hr4_
   try dsimp only at qr4_
   try simp only [Int.reduceLT, Int.reduceLE, true_implies, false_implies, and_true] at qr4_
   refine dv (At.c (hr4_) Tryz.call36 true [(0, 0)] [] [] trivial ·) ?_
   refine dv (At.a 1 ·) ?_
   refine dv (At.sI 29 (998 + r4_.2.2) (by omega) ·) ?_
   refine dv (At.z 1 ·) ?_
   by_cases h8 : (u.size : Int) < (998 + r4_.2.2)
   · refine dv (AW.condT (decide ((u.size : Int) < (998 + r4_.2.2))) (by kernel_rfl) (decide_eq_true h8) ·) ?_
     refine dv (AW.skip ·) ?_
     refine dv (AW.block ·) ?_
     refine dv (AW.g ·) ?_
     refine dv (At.a 1 ·) ?_
     refine dv (At.cat (t := 9) (u := 9) (d := 32) (x := .tmp 31) (y := .const (.string ⟨#[10]⟩)) (a := u) (b := (⟨#[10]⟩ : ByteArray)) (by kernel_rfl) (by kernel_rfl) (by kernel_rfl) (by kernel_rfl) (by omega) ·) ?_
     refine dv (At.z 1 ·) ?_
     exact dw (fun _ h_ => AWL.weak (Sub.o [(0, 0)] [true, false, false, true]) h_) (ih3 ((u ++ (⟨#[10]⟩ : ByteArray)), r4_.1, r4_.2.1) (⟨⟨by simp only [cat_size]; omega, hn.cat (by decide)⟩, by omega⟩) (by simp only [cat_size]; omega))
   refine dv (AW.condF (decide ((u.size : Int) < (998 + r4_.2.2))) (by kernel_rfl) (decide_eq_false h8) ·) ?_
   refine dv (AW.exit ·) ?_
   refine dv (AW.q 2 ·) ?_
   refine dv (AW.ret ·) ?_
   refine dv (⟨_, Sub.refl _ _, ·⟩) ?_
   exact ⟨(r4_.1, r4_.2.1, u), ⟨by dsimp only; omega, by dsimp only; omega, by omega, by assumption⟩, KF.mk (.inr rfl) [(0, 0)] [.str u] (by kernel_rfl) (by kernel_rfl) (by kernel_rfl) (by kernel_rfl) (by kernel_rfl)⟩
 replace h7 := Bool.eq_false_iff.2 h7
 refine dv (AW.condF (r3_.2.2) (by kernel_rfl) h7 ·) ?_
 refine dv (AW.skip ·) ?_
 refine dv (AW.q 2 ·) ?_
 refine dv (AW.ret ·) ?_
 refine dv (⟨_, Sub.refl _ _, ·⟩) ?_
 exact ⟨(r3_.1, r3_.2.1, strOf (srcP r1_.2.2).1), ⟨by dsimp only; omega, by dsimp only; omega, by dsimp only; omega, by exact nz_src _⟩, KF.mk (.inr rfl) [(0, 0)] [.str (strOf (srcP r1_.2.2).1)] (by kernel_rfl) (by kernel_rfl) (by kernel_rfl) (by kernel_rfl) (by kernel_rfl)⟩
theorem spec_DrawSourceParse_spec  (code : List UInt8) (hc : code.length ≤ 1048576) : ∃ rho_ : ByteArray, (rho_.size ≤ 4000 ∧ Nz rho_) ∧ FnSpec Tryz.prog 12 [.sl false 1 (code.map encU8)] [] (.str rho_) [] := by
 refine dv (fun h_ => FnSpec.of 6 Tryz.func12 rfl Tryz.ntmps12 (by simp) (AW.weakK h_)) ?_
 refine dv (AW.q 1 ·) ?_
 refine dv (AW.r ·) ?_
 refine dv (At.a 1 ·) ?_
 refine Exists.elim (spec_l1New_spec  code hc) fun r1_ hr1_ => ?_
 obtain ⟨qr1_, hr1_⟩ := hr1_
 try dsimp only at qr1_
 refine dv (At.c (hr1_) Tryz.call15 true [] [(1080, 0)] [] trivial ·) ?_
 refine Exists.elim (spec_l12DrawText_spec  (⟨code, 0, r1_⟩ : Cur) (by dsimp only; omega)) fun r2_ hr2_ => ?_
 obtain ⟨qr2_, hr2_⟩ := hr2_
 try dsimp only at qr2_
 refine dv (At.c (hr2_) Tryz.call33 true [(1080, 0)] [] [] trivial ·) ?_
 refine dv (At.z 1 ·) ?_
 refine dv (AW.ret ·) ?_
 refine dv (⟨_, Sub.refl _ _, ·⟩) ?_
 exact ⟨(r2_.2.2), (by (try dsimp only); first | exact ⟨by omega, by assumption⟩ | exact qr2_.2.2), KF.mk (.inr rfl) [] [.str r2_.2.2] (by kernel_rfl) (by kernel_rfl) (by kernel_rfl) (by kernel_rfl) (by kernel_rfl)⟩
theorem spec_l12Words_spec  (s : ByteArray) (hs : s.size ≤ 1048576) : FnSpec Tryz.prog 62 [.str s] [] (.ref 0) [.arr 9 1 ((pcs 32 s).map encS)] := by
 refine FnSpec.of 33 Tryz.func62 rfl Tryz.ntmps62 (by simp) (AW.weakK ?_)
 refine AW.q 1 ?_
 refine AW.r ?_
 refine At.lit0 (t := 46) (d := 6) (e := 9) (es := 1) (bytes := 16) 106 (by kernel_rfl) (by kernel_rfl) (by kernel_rfl) (by kernel_rfl) ?_
 refine At.z 1 ?_
 refine AW.q 1 ?_
 refine AW.seq ?_
 refine AW.q 1 ?_
 refine AW.block ?_
 refine AW.loopW (fun (x : Nat × Int × List ByteArray) => match x with | (k, f, o) => Go.Sy.mk [.str s, .un, .un, .ref 106, .int .i64 f, .int .i64 (k : Int)] [(106, .arr 9 1 (o.map encS))]) (fun (x : Nat × Int × List ByteArray) => match x with | (k, f, o) => WInv s k f.toNat o ∧ 0 ≤ f) (fun (x : Nat × Int × List ByteArray) => match x with | (k, f, o) => s.size + 1 - k) (0, 0, []) ⟨WInv.start s, by omega⟩ (Sub.o [(106, 106)] [true, false, false, true, true, true]) ?_
 rintro ⟨k, f, o⟩ ⟨hW, hf0⟩
 have hfi := hW.fi
 have hol := hW.ol
 refine AW.seq ?_
 refine AW.q 4 ?_
 refine AW.cD ((k : Int) ≤ (s.size : Int)) (fun h1 => ?_) (fun h1 => ?_)
 · refine AW.skip ?_
   refine AW.seq ?_
   refine AW.block ?_
   refine AW.r ?_
   refine At.a 5 ?_
   by_cases h2 : (k : Int) = (s.size : Int)
   · refine At.sB 17 _ _ (sayET h2) ?_
     refine At.z 5 ?_
     refine AW.cond true (by kernel_rfl) (fun _ => ?_) (fun h => by cases h)
     refine AW.r ?_
     refine At.a 4 ?_
     refine At.slStr (t := 9) (d := 27) (x := .tmp 24) (lx := some (.tmp 25)) (hx := some (.tmp 26)) (s := s) (vl := .int .i64 f) (vh := .int .i64 (k : Int)) ((f).toNat) k (by kernel_rfl) (by kernel_rfl) (by kernel_rfl) (by kernel_rfl) (.inr ⟨_, _, rfl, sayNat (by omega)⟩) (.inr ⟨_, _, rfl, rfl⟩) (by omega) (by omega) ?_
     refine At.ll 28 9 1 128 (0, 6) (([(s.extract ((f).toNat) k)]).map encS) ?_
     refine At.apK 29 9 1 16 129 106 128 encS o ([(s.extract ((f).toNat) k)]) (by simp only [List.length_map, List.length_append, List.length_take, List.length_drop, List.length_replicate, List.length_set, List.length_cons, List.length_nil]; omega) ?_
     refine At.z 1 ?_
     refine AW.g ?_
     refine At.a 2 ?_
     refine At.sI 31 ((k : Int) + 1) (by omega) ?_
     refine At.z 1 ?_
     refine AW.g ?_
     refine At.a 2 ?_
     refine At.sI 12 ((k : Int) + 1) (by omega) ?_
     refine At.z 1 ?_
     exact ⟨(k + 1, ((k : Int) + 1), (o ++ ([(s.extract ((f).toNat) k)]))), (by exact ⟨by (try dsimp only); rw [show ((k : Int) + 1).toNat = k + 1 from by omega]; exact hW.last (by assumption), by (try dsimp only); omega⟩), (by simp only; omega), Sub.o [(129, 106)] [true, false, false, true, true, true]⟩
   refine At.sB 17 _ _ (sayEF h2) ?_
   refine At.a 2 ?_
   refine Exists.elim (show ∃ e, s.data[k]? = some e from ⟨_, Array.getElem?_eq_getElem (by show _ < s.size; omega)⟩) fun e1 he1 => ?_
   refine At.idxStr (t := 9) (d := 20) (x := .tmp 18) (y := .tmp 19) (s := s) (kd := .i64) (i := (k : Int)) e1 (by kernel_rfl) (by kernel_rfl) (by kernel_rfl) (by kernel_rfl) (by omega) he1 ?_
   refine At.z 2 ?_
   refine AW.cE (e1.toNat : Int) (32 : Int) (fun h3 => ?_) (fun h3 => ?_)
   · refine AW.r ?_
     refine At.a 4 ?_
     refine At.slStr (t := 9) (d := 27) (x := .tmp 24) (lx := some (.tmp 25)) (hx := some (.tmp 26)) (s := s) (vl := .int .i64 f) (vh := .int .i64 (k : Int)) ((f).toNat) k (by kernel_rfl) (by kernel_rfl) (by kernel_rfl) (by kernel_rfl) (.inr ⟨_, _, rfl, sayNat (by omega)⟩) (.inr ⟨_, _, rfl, rfl⟩) (by omega) (by omega) ?_
     refine At.ll 28 9 1 128 (0, 6) (([(s.extract ((f).toNat) k)]).map encS) ?_
     refine At.apK 29 9 1 16 129 106 128 encS o ([(s.extract ((f).toNat) k)]) (by simp only [List.length_map, List.length_append, List.length_take, List.length_drop, List.length_replicate, List.length_set, List.length_cons, List.length_nil]; omega) ?_
     refine At.z 1 ?_
     refine AW.g ?_
     refine At.a 2 ?_
     refine At.sI 31 ((k : Int) + 1) (by omega) ?_
     refine At.z 1 ?_
     refine AW.g ?_
     refine At.a 2 ?_
     refine At.sI 12 ((k : Int) + 1) (by omega) ?_
     refine At.z 1 ?_
     exact ⟨(k + 1, ((k : Int) + 1), (o ++ ([(s.extract ((f).toNat) k)]))), (by exact ⟨by (try dsimp only); rw [show ((k : Int) + 1).toNat = k + 1 from by omega]; exact hW.hit he1 (by assumption), by (try dsimp only); omega⟩), (by simp only; omega), Sub.o [(129, 106)] [true, false, false, true, true, true]⟩
   refine AW.skip ?_
   refine AW.g ?_
   refine At.a 2 ?_
   refine At.sI 12 ((k : Int) + 1) (by omega) ?_
   refine At.z 1 ?_
   exact ⟨(k + 1, f, o), (by exact ⟨hW.pass he1 (by assumption), by omega⟩), (by simp only; omega), Sub.o [(106, 106)] [true, false, false, true, true, true]⟩
 refine AW.exit ?_
 refine AW.q 2 ?_
 refine AW.ret ?_
 refine ⟨_, Sub.refl _ _, ?_⟩
 refine KF.conv (fun w => .ref 0) (fun w => [.arr 9 1 (w.map encS)]) (show (o) = (pcs 32 s) from hW.done (by assumption)) ?_
 exact KF.n [(106, 0)]
def K_spec_l12Read (rs : List ResultVar) (s : ByteArray) (w0_ : Int) (w1_ : Bool) : Exit → Sg → Prop := KF Tryz.prog 0 rs (.tup [.int .i64 w0_, .bool w1_]) []
theorem spec_l12Read_spec  (s : ByteArray) (hs : s.size ≤ 1048576) : FnSpec Tryz.prog 64 [.str s] [] (.tup [.int .i64 ((rd4 s.data.toList).1), .bool ((rd4 s.data.toList).2)]) [] := by
 have hdl : s.data.toList.length = s.size := Array.length_toList
 refine FnSpec.of 55 Tryz.func64 rfl Tryz.ntmps64 (by simp) (AW.weakK ?_)
 refine AW.q 2 ?_
 refine AW.q 1 ?_
 refine AW.seq ?_
 refine AW.r ?_
 refine At.a 4 ?_
 by_cases h1 : (s.size : Int) > 0
 · refine At.sB 10 _ _ (sayT h1) ?_
   refine At.a 1 ?_
   refine Exists.elim (show ∃ e, s.data[0]? = some e from ⟨_, Array.getElem?_eq_getElem (by show _ < s.size; omega)⟩) fun e1 he1 => ?_
   have hbe1 := UInt8.toNat_lt e1
   have hle1 := strGet he1
   refine At.idxStr (t := 9) (d := 12) (x := .tmp 11) (y := .const (.int .i64 0)) (s := s) (kd := .i64) (i := 0) e1 (by kernel_rfl) (by kernel_rfl) (by kernel_rfl) (by kernel_rfl) (by omega) he1 ?_
   refine At.z 2 ?_
   refine AW.cE (e1.toNat : Int) (45 : Int) (fun h2 => ?_) (fun h2 => ?_)
   · refine AW.gq 1 ?_
     refine AW.seq ?_
     refine AW.r ?_
     refine At.a 4 ?_
     refine At.sI 18 ((s.size : Int) - 1) (by omega) ?_
     refine At.c (spec_l1In_spec  ((s.size : Int) - 1) 1 4 ) Tryz.call52 true [] [] [] trivial ?_
     refine At.z 1 ?_
     refine AW.cNB (inR ((s.size : Int) - 1) 1 4) (fun h3 => ?_) (fun h3 => ?_)
     · refine AW.q 2 ?_
       exact AW.ret (rf (k2 (K_spec_l12Read _ s) (show (0) = ((rd4 s.data.toList).1) from by rw [rd4_no (by first | exact minus_1 (strGet he1) (by assumption) | exact minus_0 (strGet he1) (by assumption) | exact minus_n (by assumption)) (by assumption)]) (show (false) = ((rd4 s.data.toList).2) from by rw [rd4_no (by first | exact minus_1 (strGet he1) (by assumption) | exact minus_0 (strGet he1) (by assumption) | exact minus_n (by assumption)) (by assumption)]) (KF.n [])))
     have h3i := inR_iff.1 h3
     have hin := inR_iff.1 h3
     refine AW.skip ?_
     refine AW.q 1 ?_
     refine AW.seq ?_
     refine AW.q 2 ?_
     refine AW.block ?_
     refine AW.loopW (fun (x : Nat × Int) => match x with | (k, x) => Go.Sy.mk [.str s, .un, .un, .un, .int .i64 1, .int .i64 x, .int .i64 (k : Int)] []) (fun (x : Nat × Int) => match x with | (k, x) => (1 ≤ k ∧ k ≤ s.size) ∧ (0 ≤ x ∧ x < 10 ^ (k - 1)) ∧ dgo 0 (s.data.toList.drop 1) = dgo x (s.data.toList.drop k)) (fun (x : Nat × Int) => match x with | (k, x) => s.size - k) (1, 0) ⟨by omega, by simp, rfl⟩ (Sub.o [] [true, false, false, false, true, true, true]) ?_
     rintro ⟨k, x⟩ ⟨hk, hx, hR⟩
     have hpw := pow_four (i := k - 1) (by omega)
     refine AW.seq ?_
     refine AW.q 4 ?_
     refine AW.cD ((k : Int) < (s.size : Int)) (fun h4 => ?_) (fun h4 => ?_)
     · refine AW.skip ?_
       refine AW.seq ?_
       refine AW.block ?_
       refine AW.seq ?_
       refine AW.r ?_
       refine At.a 2 ?_
       refine Exists.elim (show ∃ e, s.data[k]? = some e from ⟨_, Array.getElem?_eq_getElem (by show _ < s.size; omega)⟩) fun e2 he2 => ?_
       have hbe2 := UInt8.toNat_lt e2
       have hle2 := strGet he2
       refine At.idxStr (t := 9) (d := 30) (x := .tmp 28) (y := .tmp 29) (s := s) (kd := .i64) (i := (k : Int)) e2 (by kernel_rfl) (by kernel_rfl) (by kernel_rfl) (by kernel_rfl) (by omega) he2 ?_
       refine At.a 2 ?_
       by_cases h5 : (e2.toNat : Int) < 48
       · refine At.sB 32 _ _ (sayT h5) ?_
         refine At.z 5 ?_
         refine AW.cond true (by kernel_rfl) (fun _ => ?_) (fun h => by cases h)
         refine AW.q 2 ?_
         exact AW.ret (rf (k2 (K_spec_l12Read _ s) (show (0) = ((rd4 s.data.toList).1) from by rw [rd4_bad (by first | exact minus_1 (strGet he1) (by assumption) | exact minus_0 (strGet he1) (by assumption) | exact minus_n (by assumption)) (by assumption) (hR.trans (dgo_bad (by assumption) (by omega)))]) (show (false) = ((rd4 s.data.toList).2) from by rw [rd4_bad (by first | exact minus_1 (strGet he1) (by assumption) | exact minus_0 (strGet he1) (by assumption) | exact minus_n (by assumption)) (by assumption) (hR.trans (dgo_bad (by assumption) (by omega)))]) (KF.n [])))
       refine At.sB 32 _ _ (sayF h5) ?_
       refine At.a 2 ?_
       refine At.idxStr (t := 9) (d := 35) (x := .tmp 33) (y := .tmp 34) (s := s) (kd := .i64) (i := (k : Int)) e2 (by kernel_rfl) (by kernel_rfl) (by kernel_rfl) (by kernel_rfl) (by omega) he2 ?_
       refine At.z 2 ?_
       refine AW.cD ((e2.toNat : Int) > 57) (fun h6 => ?_) (fun h6 => ?_)
       · refine AW.q 2 ?_
         exact AW.ret (rf (k2 (K_spec_l12Read _ s) (show (0) = ((rd4 s.data.toList).1) from by rw [rd4_bad (by first | exact minus_1 (strGet he1) (by assumption) | exact minus_0 (strGet he1) (by assumption) | exact minus_n (by assumption)) (by assumption) (hR.trans (dgo_bad (by assumption) (by omega)))]) (show (false) = ((rd4 s.data.toList).2) from by rw [rd4_bad (by first | exact minus_1 (strGet he1) (by assumption) | exact minus_0 (strGet he1) (by assumption) | exact minus_n (by assumption)) (by assumption) (hR.trans (dgo_bad (by assumption) (by omega)))]) (KF.n [])))
       refine AW.skip ?_
       refine AW.g ?_
       refine At.a 2 ?_
       refine At.sI 39 (10 * x) (by omega) ?_
       refine At.a 2 ?_
       refine At.idxStr (t := 9) (d := 42) (x := .tmp 40) (y := .tmp 41) (s := s) (kd := .i64) (i := (k : Int)) e2 (by kernel_rfl) (by kernel_rfl) (by kernel_rfl) (by kernel_rfl) (by omega) he2 ?_
       refine At.conv (s := 5) (t := 3) (d := 43) (x := .tmp 42) (kd := .u8) (kd' := .i64) (a := (e2.toNat : Int)) (.int .i64 (e2.toNat : Int)) (by kernel_rfl) (by kernel_rfl) (by kernel_rfl) (by kernel_rfl) (sayI _ (by have := UInt8.toNat_lt e2; omega)) ?_
       refine At.a 1 ?_
       refine At.sI 44 ((10 * x) + (e2.toNat : Int)) (by omega) ?_
       refine At.a 1 ?_
       refine At.sI 45 (((10 * x) + (e2.toNat : Int)) - 48) (by omega) ?_
       refine At.z 1 ?_
       refine AW.g ?_
       refine At.a 2 ?_
       refine At.sI 27 ((k : Int) + 1) (by omega) ?_
       refine At.z 1 ?_
       exact ⟨(k + 1, (((10 * x) + (e2.toNat : Int)) - 48)), ⟨by omega, by rw [show k + 1 - 1 = (k - 1) + 1 from by omega, Int.pow_succ]; omega, by rw [hR]; exact dgo_step (by assumption) (by omega)⟩, (by simp only; omega), Sub.o [] [true, false, false, false, true, true, true]⟩
     refine AW.exit ?_
     refine AW.seq ?_
     refine AW.q 2 ?_
     refine AW.cE (1 : Int) (1 : Int) (fun h7 => ?_) (fun h7 => ?_)
     · refine AW.g ?_
       refine At.a 2 ?_
       refine At.sI 49 (0 - x) (by omega) ?_
       refine At.z 1 ?_
       refine AW.seq ?_
       refine AW.r ?_
       refine At.a 1 ?_
       refine At.c (spec_l12Num_spec  (0 - x) (by omega)) Tryz.call21 true [] [] [] trivial ?_
       refine At.z 2 ?_
       refine AW.cNE ((strOf (Lib.itoa (0 - x))).toList) (s.toList) (fun h8 => ?_) (fun h8 => ?_)
       · refine AW.q 2 ?_
         exact AW.ret (rf (k2 (K_spec_l12Read _ s) (show (0) = ((rd4 s.data.toList).1) from by rw [rd4_ne (by first | exact minus_1 (strGet he1) (by assumption) | exact minus_0 (strGet he1) (by assumption) | exact minus_n (by assumption)) (by assumption) (hR.trans (dgo_end (by omega))) (by first | exact if_pos rfl | exact if_neg (by decide)) (by assumption)]) (show (false) = ((rd4 s.data.toList).2) from by rw [rd4_ne (by first | exact minus_1 (strGet he1) (by assumption) | exact minus_0 (strGet he1) (by assumption) | exact minus_n (by assumption)) (by assumption) (hR.trans (dgo_end (by omega))) (by first | exact if_pos rfl | exact if_neg (by decide)) (by assumption)]) (KF.n [])))
       refine AW.skip ?_
       refine AW.q 3 ?_
       exact AW.ret (rf (k2 (K_spec_l12Read _ s) (show (0 - x) = ((rd4 s.data.toList).1) from by rw [rd4_ok (by first | exact minus_1 (strGet he1) (by assumption) | exact minus_0 (strGet he1) (by assumption) | exact minus_n (by assumption)) (by assumption) (hR.trans (dgo_end (by omega))) (by first | exact if_pos rfl | exact if_neg (by decide)) (by assumption)]) (show (true) = ((rd4 s.data.toList).2) from by rw [rd4_ok (by first | exact minus_1 (strGet he1) (by assumption) | exact minus_0 (strGet he1) (by assumption) | exact minus_n (by assumption)) (by assumption) (hR.trans (dgo_end (by omega))) (by first | exact if_pos rfl | exact if_neg (by decide)) (by assumption)]) (KF.n [])))
     refine AW.skip ?_
     refine AW.seq ?_
     refine AW.r ?_
     refine At.a 1 ?_
     refine At.c (spec_l12Num_spec  x (by omega)) Tryz.call21 true [] [] [] trivial ?_
     refine At.z 2 ?_
     refine AW.cNE ((strOf (Lib.itoa x)).toList) (s.toList) (fun h9 => ?_) (fun h9 => ?_)
     · refine AW.q 2 ?_
       exact AW.ret (rf (k2 (K_spec_l12Read _ s) (show (0) = ((rd4 s.data.toList).1) from by exfalso; omega) (show (false) = ((rd4 s.data.toList).2) from by exfalso; omega) (KF.n [])))
     refine AW.skip ?_
     refine AW.q 3 ?_
     exact AW.ret (rf (k2 (K_spec_l12Read _ s) (show (x) = ((rd4 s.data.toList).1) from by exfalso; omega) (show (true) = ((rd4 s.data.toList).2) from by exfalso; omega) (KF.n [])))
   refine AW.skip ?_
   refine AW.seq ?_
   refine AW.r ?_
   refine At.a 4 ?_
   refine At.sI 18 ((s.size : Int) - 0) (by omega) ?_
   refine At.c (spec_l1In_spec  ((s.size : Int) - 0) 1 4 ) Tryz.call52 true [] [] [] trivial ?_
   refine At.z 1 ?_
   refine AW.cNB (inR ((s.size : Int) - 0) 1 4) (fun h10 => ?_) (fun h10 => ?_)
   · refine AW.q 2 ?_
     exact AW.ret (rf (k2 (K_spec_l12Read _ s) (show (0) = ((rd4 s.data.toList).1) from by rw [rd4_no (by first | exact minus_1 (strGet he1) (by assumption) | exact minus_0 (strGet he1) (by assumption) | exact minus_n (by assumption)) (by assumption)]) (show (false) = ((rd4 s.data.toList).2) from by rw [rd4_no (by first | exact minus_1 (strGet he1) (by assumption) | exact minus_0 (strGet he1) (by assumption) | exact minus_n (by assumption)) (by assumption)]) (KF.n [])))
   have h10i := inR_iff.1 h10
   have hin := inR_iff.1 h10
   refine AW.skip ?_
   refine AW.q 1 ?_
   refine AW.seq ?_
   refine AW.q 2 ?_
   refine AW.block ?_
   refine AW.loopW (fun (x : Nat × Int) => match x with | (k, x) => Go.Sy.mk [.str s, .un, .un, .un, .int .i64 0, .int .i64 x, .int .i64 (k : Int)] []) (fun (x : Nat × Int) => match x with | (k, x) => (0 ≤ k ∧ k ≤ s.size) ∧ (0 ≤ x ∧ x < 10 ^ (k - 0)) ∧ dgo 0 (s.data.toList.drop 0) = dgo x (s.data.toList.drop k)) (fun (x : Nat × Int) => match x with | (k, x) => s.size - k) (0, 0) ⟨by omega, by simp, rfl⟩ (Sub.o [] [true, false, false, false, true, true, true]) ?_
   rintro ⟨k, x⟩ ⟨hk, hx, hR⟩
   have hpw := pow_four (i := k - 0) (by omega)
   refine AW.seq ?_
   refine AW.q 4 ?_
   refine AW.cD ((k : Int) < (s.size : Int)) (fun h11 => ?_) (fun h11 => ?_)
   · refine AW.skip ?_
     refine AW.seq ?_
     refine AW.block ?_
     refine AW.seq ?_
     refine AW.r ?_
     refine At.a 2 ?_
     refine Exists.elim (show ∃ e, s.data[k]? = some e from ⟨_, Array.getElem?_eq_getElem (by show _ < s.size; omega)⟩) fun e3 he3 => ?_
     have hbe3 := UInt8.toNat_lt e3
     have hle3 := strGet he3
     refine At.idxStr (t := 9) (d := 30) (x := .tmp 28) (y := .tmp 29) (s := s) (kd := .i64) (i := (k : Int)) e3 (by kernel_rfl) (by kernel_rfl) (by kernel_rfl) (by kernel_rfl) (by omega) he3 ?_
     refine At.a 2 ?_
     by_cases h12 : (e3.toNat : Int) < 48
     · refine At.sB 32 _ _ (sayT h12) ?_
       refine At.z 5 ?_
       refine AW.cond true (by kernel_rfl) (fun _ => ?_) (fun h => by cases h)
       refine AW.q 2 ?_
       exact AW.ret (rf (k2 (K_spec_l12Read _ s) (show (0) = ((rd4 s.data.toList).1) from by rw [rd4_bad (by first | exact minus_1 (strGet he1) (by assumption) | exact minus_0 (strGet he1) (by assumption) | exact minus_n (by assumption)) (by assumption) (hR.trans (dgo_bad (by assumption) (by omega)))]) (show (false) = ((rd4 s.data.toList).2) from by rw [rd4_bad (by first | exact minus_1 (strGet he1) (by assumption) | exact minus_0 (strGet he1) (by assumption) | exact minus_n (by assumption)) (by assumption) (hR.trans (dgo_bad (by assumption) (by omega)))]) (KF.n [])))
     refine At.sB 32 _ _ (sayF h12) ?_
     refine At.a 2 ?_
     refine At.idxStr (t := 9) (d := 35) (x := .tmp 33) (y := .tmp 34) (s := s) (kd := .i64) (i := (k : Int)) e3 (by kernel_rfl) (by kernel_rfl) (by kernel_rfl) (by kernel_rfl) (by omega) he3 ?_
     refine At.z 2 ?_
     refine AW.cD ((e3.toNat : Int) > 57) (fun h13 => ?_) (fun h13 => ?_)
     · refine AW.q 2 ?_
       exact AW.ret (rf (k2 (K_spec_l12Read _ s) (show (0) = ((rd4 s.data.toList).1) from by rw [rd4_bad (by first | exact minus_1 (strGet he1) (by assumption) | exact minus_0 (strGet he1) (by assumption) | exact minus_n (by assumption)) (by assumption) (hR.trans (dgo_bad (by assumption) (by omega)))]) (show (false) = ((rd4 s.data.toList).2) from by rw [rd4_bad (by first | exact minus_1 (strGet he1) (by assumption) | exact minus_0 (strGet he1) (by assumption) | exact minus_n (by assumption)) (by assumption) (hR.trans (dgo_bad (by assumption) (by omega)))]) (KF.n [])))
     refine AW.skip ?_
     refine AW.g ?_
     refine At.a 2 ?_
     refine At.sI 39 (10 * x) (by omega) ?_
     refine At.a 2 ?_
     refine At.idxStr (t := 9) (d := 42) (x := .tmp 40) (y := .tmp 41) (s := s) (kd := .i64) (i := (k : Int)) e3 (by kernel_rfl) (by kernel_rfl) (by kernel_rfl) (by kernel_rfl) (by omega) he3 ?_
     refine At.conv (s := 5) (t := 3) (d := 43) (x := .tmp 42) (kd := .u8) (kd' := .i64) (a := (e3.toNat : Int)) (.int .i64 (e3.toNat : Int)) (by kernel_rfl) (by kernel_rfl) (by kernel_rfl) (by kernel_rfl) (sayI _ (by have := UInt8.toNat_lt e3; omega)) ?_
     refine At.a 1 ?_
     refine At.sI 44 ((10 * x) + (e3.toNat : Int)) (by omega) ?_
     refine At.a 1 ?_
     refine At.sI 45 (((10 * x) + (e3.toNat : Int)) - 48) (by omega) ?_
     refine At.z 1 ?_
     refine AW.g ?_
     refine At.a 2 ?_
     refine At.sI 27 ((k : Int) + 1) (by omega) ?_
     refine At.z 1 ?_
     exact ⟨(k + 1, (((10 * x) + (e3.toNat : Int)) - 48)), ⟨by omega, by rw [show k + 1 - 0 = (k - 0) + 1 from by omega, Int.pow_succ]; omega, by rw [hR]; exact dgo_step (by assumption) (by omega)⟩, (by simp only; omega), Sub.o [] [true, false, false, false, true, true, true]⟩
   refine AW.exit ?_
   refine AW.seq ?_
   refine AW.q 2 ?_
   refine AW.cE (0 : Int) (1 : Int) (fun h14 => ?_) (fun h14 => ?_)
   · refine AW.g ?_
     refine At.a 2 ?_
     refine At.sI 49 (0 - x) (by omega) ?_
     refine At.z 1 ?_
     refine AW.seq ?_
     refine AW.r ?_
     refine At.a 1 ?_
     refine At.c (spec_l12Num_spec  (0 - x) (by omega)) Tryz.call21 true [] [] [] trivial ?_
     refine At.z 2 ?_
     refine AW.cNE ((strOf (Lib.itoa (0 - x))).toList) (s.toList) (fun h15 => ?_) (fun h15 => ?_)
     · refine AW.q 2 ?_
       exact AW.ret (rf (k2 (K_spec_l12Read _ s) (show (0) = ((rd4 s.data.toList).1) from by exfalso; omega) (show (false) = ((rd4 s.data.toList).2) from by exfalso; omega) (KF.n [])))
     refine AW.skip ?_
     refine AW.q 3 ?_
     exact AW.ret (rf (k2 (K_spec_l12Read _ s) (show (0 - x) = ((rd4 s.data.toList).1) from by exfalso; omega) (show (true) = ((rd4 s.data.toList).2) from by exfalso; omega) (KF.n [])))
   refine AW.skip ?_
   refine AW.seq ?_
   refine AW.r ?_
   refine At.a 1 ?_
   refine At.c (spec_l12Num_spec  x (by omega)) Tryz.call21 true [] [] [] trivial ?_
   refine At.z 2 ?_
   refine AW.cNE ((strOf (Lib.itoa x)).toList) (s.toList) (fun h16 => ?_) (fun h16 => ?_)
   · refine AW.q 2 ?_
     exact AW.ret (rf (k2 (K_spec_l12Read _ s) (show (0) = ((rd4 s.data.toList).1) from by rw [rd4_ne (by first | exact minus_1 (strGet he1) (by assumption) | exact minus_0 (strGet he1) (by assumption) | exact minus_n (by assumption)) (by assumption) (hR.trans (dgo_end (by omega))) (by first | exact if_pos rfl | exact if_neg (by decide)) (by assumption)]) (show (false) = ((rd4 s.data.toList).2) from by rw [rd4_ne (by first | exact minus_1 (strGet he1) (by assumption) | exact minus_0 (strGet he1) (by assumption) | exact minus_n (by assumption)) (by assumption) (hR.trans (dgo_end (by omega))) (by first | exact if_pos rfl | exact if_neg (by decide)) (by assumption)]) (KF.n [])))
   refine AW.skip ?_
   refine AW.q 3 ?_
   exact AW.ret (rf (k2 (K_spec_l12Read _ s) (show (x) = ((rd4 s.data.toList).1) from by rw [rd4_ok (by first | exact minus_1 (strGet he1) (by assumption) | exact minus_0 (strGet he1) (by assumption) | exact minus_n (by assumption)) (by assumption) (hR.trans (dgo_end (by omega))) (by first | exact if_pos rfl | exact if_neg (by decide)) (by assumption)]) (show (true) = ((rd4 s.data.toList).2) from by rw [rd4_ok (by first | exact minus_1 (strGet he1) (by assumption) | exact minus_0 (strGet he1) (by assumption) | exact minus_n (by assumption)) (by assumption) (hR.trans (dgo_end (by omega))) (by first | exact if_pos rfl | exact if_neg (by decide)) (by assumption)]) (KF.n [])))
 refine At.sB 10 _ _ (sayF h1) ?_
 refine At.z 4 ?_
 refine AW.cond false (by kernel_rfl) (fun h => by cases h) (fun _ => ?_)
 refine AW.skip ?_
 refine AW.seq ?_
 refine AW.r ?_
 refine At.a 4 ?_
 refine At.sI 18 ((s.size : Int) - 0) (by omega) ?_
 refine At.c (spec_l1In_spec  ((s.size : Int) - 0) 1 4 ) Tryz.call52 true [] [] [] trivial ?_
 refine At.z 1 ?_
 refine AW.cNB (inR ((s.size : Int) - 0) 1 4) (fun h17 => ?_) (fun h17 => ?_)
 · refine AW.q 2 ?_
   exact AW.ret (rf (k2 (K_spec_l12Read _ s) (show (0) = ((rd4 s.data.toList).1) from by rw [rd4_no (by first | exact minus_1 (strGet he1) (by assumption) | exact minus_0 (strGet he1) (by assumption) | exact minus_n (by assumption)) (by assumption)]) (show (false) = ((rd4 s.data.toList).2) from by rw [rd4_no (by first | exact minus_1 (strGet he1) (by assumption) | exact minus_0 (strGet he1) (by assumption) | exact minus_n (by assumption)) (by assumption)]) (KF.n [])))
 have h17i := inR_iff.1 h17
 have hin := inR_iff.1 h17
 refine AW.skip ?_
 refine AW.q 1 ?_
 refine AW.seq ?_
 refine AW.q 2 ?_
 refine AW.block ?_
 refine AW.loopW (fun (x : Nat × Int) => match x with | (k, x) => Go.Sy.mk [.str s, .un, .un, .un, .int .i64 0, .int .i64 x, .int .i64 (k : Int)] []) (fun (x : Nat × Int) => match x with | (k, x) => (0 ≤ k ∧ k ≤ s.size) ∧ (0 ≤ x ∧ x < 10 ^ (k - 0)) ∧ dgo 0 (s.data.toList.drop 0) = dgo x (s.data.toList.drop k)) (fun (x : Nat × Int) => match x with | (k, x) => s.size - k) (0, 0) ⟨by omega, by simp, rfl⟩ (Sub.o [] [true, false, false, false, true, true, true]) ?_
 rintro ⟨k, x⟩ ⟨hk, hx, hR⟩
 have hpw := pow_four (i := k - 0) (by omega)
 refine AW.seq ?_
 refine AW.q 4 ?_
 refine AW.cD ((k : Int) < (s.size : Int)) (fun h18 => ?_) (fun h18 => ?_)
 · refine AW.skip ?_
   refine AW.seq ?_
   refine AW.block ?_
   refine AW.seq ?_
   refine AW.r ?_
   refine At.a 2 ?_
   refine Exists.elim (show ∃ e, s.data[k]? = some e from ⟨_, Array.getElem?_eq_getElem (by show _ < s.size; omega)⟩) fun e4 he4 => ?_
   have hbe4 := UInt8.toNat_lt e4
   have hle4 := strGet he4
   refine At.idxStr (t := 9) (d := 30) (x := .tmp 28) (y := .tmp 29) (s := s) (kd := .i64) (i := (k : Int)) e4 (by kernel_rfl) (by kernel_rfl) (by kernel_rfl) (by kernel_rfl) (by omega) he4 ?_
   refine At.a 2 ?_
   by_cases h19 : (e4.toNat : Int) < 48
   · refine At.sB 32 _ _ (sayT h19) ?_
     refine At.z 5 ?_
     refine AW.cond true (by kernel_rfl) (fun _ => ?_) (fun h => by cases h)
     refine AW.q 2 ?_
     exact AW.ret (rf (k2 (K_spec_l12Read _ s) (show (0) = ((rd4 s.data.toList).1) from by exfalso; omega) (show (false) = ((rd4 s.data.toList).2) from by exfalso; omega) (KF.n [])))
   refine At.sB 32 _ _ (sayF h19) ?_
   refine At.a 2 ?_
   refine At.idxStr (t := 9) (d := 35) (x := .tmp 33) (y := .tmp 34) (s := s) (kd := .i64) (i := (k : Int)) e4 (by kernel_rfl) (by kernel_rfl) (by kernel_rfl) (by kernel_rfl) (by omega) he4 ?_
   refine At.z 2 ?_
   refine AW.cD ((e4.toNat : Int) > 57) (fun h20 => ?_) (fun h20 => ?_)
   · refine AW.q 2 ?_
     exact AW.ret (rf (k2 (K_spec_l12Read _ s) (show (0) = ((rd4 s.data.toList).1) from by exfalso; omega) (show (false) = ((rd4 s.data.toList).2) from by exfalso; omega) (KF.n [])))
   refine AW.skip ?_
   refine AW.g ?_
   refine At.a 2 ?_
   refine At.sI 39 (10 * x) (by omega) ?_
   refine At.a 2 ?_
   refine At.idxStr (t := 9) (d := 42) (x := .tmp 40) (y := .tmp 41) (s := s) (kd := .i64) (i := (k : Int)) e4 (by kernel_rfl) (by kernel_rfl) (by kernel_rfl) (by kernel_rfl) (by omega) he4 ?_
   refine At.conv (s := 5) (t := 3) (d := 43) (x := .tmp 42) (kd := .u8) (kd' := .i64) (a := (e4.toNat : Int)) (.int .i64 (e4.toNat : Int)) (by kernel_rfl) (by kernel_rfl) (by kernel_rfl) (by kernel_rfl) (sayI _ (by have := UInt8.toNat_lt e4; omega)) ?_
   refine At.a 1 ?_
   refine At.sI 44 ((10 * x) + (e4.toNat : Int)) (by omega) ?_
   refine At.a 1 ?_
   refine At.sI 45 (((10 * x) + (e4.toNat : Int)) - 48) (by omega) ?_
   refine At.z 1 ?_
   refine AW.g ?_
   refine At.a 2 ?_
   refine At.sI 27 ((k : Int) + 1) (by omega) ?_
   refine At.z 1 ?_
   exact ⟨(k + 1, (((10 * x) + (e4.toNat : Int)) - 48)), ⟨by omega, by rw [show k + 1 - 0 = (k - 0) + 1 from by omega, Int.pow_succ]; omega, by rw [hR]; exact dgo_step (by assumption) (by omega)⟩, (by simp only; omega), Sub.o [] [true, false, false, false, true, true, true]⟩
 refine AW.exit ?_
 refine AW.seq ?_
 refine AW.q 2 ?_
 refine AW.cE (0 : Int) (1 : Int) (fun h21 => ?_) (fun h21 => ?_)
 · refine AW.g ?_
   refine At.a 2 ?_
   refine At.sI 49 (0 - x) (by omega) ?_
   refine At.z 1 ?_
   refine AW.seq ?_
   refine AW.r ?_
   refine At.a 1 ?_
   refine At.c (spec_l12Num_spec  (0 - x) (by omega)) Tryz.call21 true [] [] [] trivial ?_
   refine At.z 2 ?_
   refine AW.cNE ((strOf (Lib.itoa (0 - x))).toList) (s.toList) (fun h22 => ?_) (fun h22 => ?_)
   · refine AW.q 2 ?_
     exact AW.ret (rf (k2 (K_spec_l12Read _ s) (show (0) = ((rd4 s.data.toList).1) from by exfalso; omega) (show (false) = ((rd4 s.data.toList).2) from by exfalso; omega) (KF.n [])))
   refine AW.skip ?_
   refine AW.q 3 ?_
   exact AW.ret (rf (k2 (K_spec_l12Read _ s) (show (0 - x) = ((rd4 s.data.toList).1) from by exfalso; omega) (show (true) = ((rd4 s.data.toList).2) from by exfalso; omega) (KF.n [])))
 refine AW.skip ?_
 refine AW.seq ?_
 refine AW.r ?_
 refine At.a 1 ?_
 refine At.c (spec_l12Num_spec  x (by omega)) Tryz.call21 true [] [] [] trivial ?_
 refine At.z 2 ?_
 refine AW.cNE ((strOf (Lib.itoa x)).toList) (s.toList) (fun h23 => ?_) (fun h23 => ?_)
 · refine AW.q 2 ?_
   exact AW.ret (rf (k2 (K_spec_l12Read _ s) (show (0) = ((rd4 s.data.toList).1) from by exfalso; omega) (show (false) = ((rd4 s.data.toList).2) from by exfalso; omega) (KF.n [])))
 refine AW.skip ?_
 refine AW.q 3 ?_
 exact AW.ret (rf (k2 (K_spec_l12Read _ s) (show (x) = ((rd4 s.data.toList).1) from by exfalso; omega) (show (true) = ((rd4 s.data.toList).2) from by exfalso; omega) (KF.n [])))
def K_spec_OnRead (rs : List ResultVar) (s : ByteArray) (w0_ : On) (w1_ : Bool) : Exit → Sg → Prop := KF Tryz.prog 0 rs (.tup [.agg [.int .i64 w0_.kind, .int .i64 w0_.day, .int .i64 w0_.week], .bool w1_]) []
theorem spec_OnRead_spec  (s : ByteArray) (hs : s.size ≤ 1048576) : FnSpec Tryz.prog 80 [.str s] [] (.tup [.agg [.int .i64 (((onRS s.data.toList).1).kind), .int .i64 (((onRS s.data.toList).1).day), .int .i64 (((onRS s.data.toList).1).week)], .bool ((onRS s.data.toList).2)]) [] := by
 refine FnSpec.of 70 Tryz.func80 rfl Tryz.ntmps80 (by simp) (AW.weakK ?_)
 refine AW.q 2 ?_
 refine AW.q 3 ?_
 refine AW.q 1 ?_
 refine AW.seq ?_
 refine AW.block ?_
 refine AW.r ?_
 refine At.a 4 ?_
 by_cases h1 : (s.size : Int) > 4
 · refine At.sB 19 _ _ (sayT h1) ?_
   refine At.a 1 ?_
   refine At.slStr (t := 9) (d := 21) (x := .tmp 20) (lx := none) (hx := some (.const (.int .i64 4))) (s := s) (vl := .un) (vh := .int .i64 4) 0 4 (by kernel_rfl) (by kernel_rfl) (by kernel_rfl) (by kernel_rfl) (.inl ⟨rfl, rfl⟩) (.inr ⟨_, _, rfl, rfl⟩) (by omega) (by omega) ?_
   refine At.z 3 ?_
   refine AW.cE ((s.extract 0 4).toList) ((⟨#[108, 97, 115, 116]⟩ : ByteArray).toList) (fun h2 => ?_) (fun h2 => ?_)
   · refine AW.q 2 ?_
     refine AW.g ?_
     refine At.a 1 ?_
     refine At.slStr (t := 9) (d := 27) (x := .tmp 26) (lx := some (.const (.int .i64 4))) (hx := none) (s := s) (vl := .int .i64 4) (vh := .un) 4 s.size (by kernel_rfl) (by kernel_rfl) (by kernel_rfl) (by kernel_rfl) (.inr ⟨_, _, rfl, rfl⟩) (.inl ⟨rfl, rfl⟩) (by omega) (by omega) ?_
     refine At.c (spec_l12Read_spec  (s.extract 4 s.size) (by rw [ByteArray.size_extract]; omega)) Tryz.call64 true [] [] [] trivial ?_
     refine At.z 6 ?_
     refine AW.seq ?_
     refine AW.r ?_
     refine At.a 3 ?_
     by_cases h3 : ((rd4 (s.extract 4 s.size).data.toList).2) = true
     · refine At.sB 63 (!((rd4 (s.extract 4 s.size).data.toList).2)) false (sayNF (sayB h3)) ?_
       refine At.a 1 ?_
       refine At.c (spec_OnOk_spec  (⟨2, 0, (rd4 (s.extract 4 s.size).data.toList).1⟩ : On) ) Tryz.call42 true [] [] [] trivial ?_
       refine At.z 2 ?_
       refine AW.cNB (onOk (⟨2, 0, (rd4 (s.extract 4 s.size).data.toList).1⟩ : On)) (fun h4 => ?_) (fun h4 => ?_)
       · refine AW.q 3 ?_
         exact AW.ret (rf (k2 (K_spec_OnRead _ s) (show ((⟨0, 0, 0⟩ : On)) = ((onRS s.data.toList).1) from by rw [rs_no (by first | exact raw_1 (by assumption) (by assumption) | exact raw_2 (by rintro ⟨q1, q2⟩; first | exact absurd q1 (by assumption) | exact absurd q2 (by assumption)) (by assumption) (by assumption) | exact raw_3 (by rintro ⟨q1, q2⟩; first | exact absurd q1 (by assumption) | exact absurd q2 (by assumption)) (by rintro ⟨q1, q2⟩; first | exact absurd q1 (by assumption) | exact absurd q2 (by assumption))) (by assumption)]; first | done | rfl) (show (false) = ((onRS s.data.toList).2) from by rw [rs_no (by first | exact raw_1 (by assumption) (by assumption) | exact raw_2 (by rintro ⟨q1, q2⟩; first | exact absurd q1 (by assumption) | exact absurd q2 (by assumption)) (by assumption) (by assumption) | exact raw_3 (by rintro ⟨q1, q2⟩; first | exact absurd q1 (by assumption) | exact absurd q2 (by assumption)) (by rintro ⟨q1, q2⟩; first | exact absurd q1 (by assumption) | exact absurd q2 (by assumption))) (by assumption)]; first | done | rfl) (KF.n [])))
       refine AW.skip ?_
       refine AW.q 3 ?_
       exact AW.ret (rf (k2 (K_spec_OnRead _ s) (show ((⟨2, 0, (rd4 (s.extract 4 s.size).data.toList).1⟩ : On)) = ((onRS s.data.toList).1) from by rw [rs_ok (by first | exact raw_1 (by assumption) (by assumption) | exact raw_2 (by rintro ⟨q1, q2⟩; first | exact absurd q1 (by assumption) | exact absurd q2 (by assumption)) (by assumption) (by assumption) | exact raw_3 (by rintro ⟨q1, q2⟩; first | exact absurd q1 (by assumption) | exact absurd q2 (by assumption)) (by rintro ⟨q1, q2⟩; first | exact absurd q1 (by assumption) | exact absurd q2 (by assumption))) (by simp only [*]; first | done | rfl | decide) (by assumption)]) (show (true) = ((onRS s.data.toList).2) from by rw [rs_ok (by first | exact raw_1 (by assumption) (by assumption) | exact raw_2 (by rintro ⟨q1, q2⟩; first | exact absurd q1 (by assumption) | exact absurd q2 (by assumption)) (by assumption) (by assumption) | exact raw_3 (by rintro ⟨q1, q2⟩; first | exact absurd q1 (by assumption) | exact absurd q2 (by assumption)) (by rintro ⟨q1, q2⟩; first | exact absurd q1 (by assumption) | exact absurd q2 (by assumption))) (by simp only [*]; first | done | rfl | decide) (by assumption)]) (KF.n [])))
     refine At.sB 63 (!((rd4 (s.extract 4 s.size).data.toList).2)) true (sayNT (sayB (Bool.eq_false_iff.2 h3))) ?_
     replace h3 := Bool.eq_false_iff.2 h3
     refine At.z 4 ?_
     refine AW.cond true (by kernel_rfl) (fun _ => ?_) (fun h => by cases h)
     refine AW.q 3 ?_
     exact AW.ret (rf (k2 (K_spec_OnRead _ s) (show ((⟨0, 0, 0⟩ : On)) = ((onRS s.data.toList).1) from by rw [rs_bad (by first | exact raw_1 (by assumption) (by assumption) | exact raw_2 (by rintro ⟨q1, q2⟩; first | exact absurd q1 (by assumption) | exact absurd q2 (by assumption)) (by assumption) (by assumption) | exact raw_3 (by rintro ⟨q1, q2⟩; first | exact absurd q1 (by assumption) | exact absurd q2 (by assumption)) (by rintro ⟨q1, q2⟩; first | exact absurd q1 (by assumption) | exact absurd q2 (by assumption))) (by simp only [*]; first | done | rfl | decide)]; first | done | rfl) (show (false) = ((onRS s.data.toList).2) from by rw [rs_bad (by first | exact raw_1 (by assumption) (by assumption) | exact raw_2 (by rintro ⟨q1, q2⟩; first | exact absurd q1 (by assumption) | exact absurd q2 (by assumption)) (by assumption) (by assumption) | exact raw_3 (by rintro ⟨q1, q2⟩; first | exact absurd q1 (by assumption) | exact absurd q2 (by assumption)) (by rintro ⟨q1, q2⟩; first | exact absurd q1 (by assumption) | exact absurd q2 (by assumption))) (by simp only [*]; first | done | rfl | decide)]; first | done | rfl) (KF.n [])))
   refine AW.r ?_
   refine At.a 4 ?_
   by_cases h5 : (s.size : Int) > 3
   · refine At.sB 36 _ _ (sayT h5) ?_
     refine At.a 1 ?_
     refine At.slStr (t := 9) (d := 38) (x := .tmp 37) (lx := some (.const (.int .i64 1))) (hx := some (.const (.int .i64 3))) (s := s) (vl := .int .i64 1) (vh := .int .i64 3) 1 3 (by kernel_rfl) (by kernel_rfl) (by kernel_rfl) (by kernel_rfl) (.inr ⟨_, _, rfl, rfl⟩) (.inr ⟨_, _, rfl, rfl⟩) (by omega) (by omega) ?_
     refine At.z 3 ?_
     refine AW.cE ((s.extract 1 3).toList) ((⟨#[62, 61]⟩ : ByteArray).toList) (fun h6 => ?_) (fun h6 => ?_)
     · refine AW.q 2 ?_
       refine AW.r ?_
       refine At.a 1 ?_
       refine At.slStr (t := 9) (d := 44) (x := .tmp 43) (lx := none) (hx := some (.const (.int .i64 1))) (s := s) (vl := .un) (vh := .int .i64 1) 0 1 (by kernel_rfl) (by kernel_rfl) (by kernel_rfl) (by kernel_rfl) (.inl ⟨rfl, rfl⟩) (.inr ⟨_, _, rfl, rfl⟩) (by omega) (by omega) ?_
       refine At.c (spec_l12Read_spec  (s.extract 0 1) (by rw [ByteArray.size_extract]; omega)) Tryz.call64 true [] [] [] trivial ?_
       refine At.z 6 ?_
       refine AW.r ?_
       refine At.a 1 ?_
       refine At.slStr (t := 9) (d := 51) (x := .tmp 50) (lx := some (.const (.int .i64 3))) (hx := none) (s := s) (vl := .int .i64 3) (vh := .un) 3 s.size (by kernel_rfl) (by kernel_rfl) (by kernel_rfl) (by kernel_rfl) (.inr ⟨_, _, rfl, rfl⟩) (.inl ⟨rfl, rfl⟩) (by omega) (by omega) ?_
       refine At.c (spec_l12Read_spec  (s.extract 3 s.size) (by rw [ByteArray.size_extract]; omega)) Tryz.call64 true [] [] [] trivial ?_
       refine At.z 5 ?_
       refine AW.q 3 ?_
       refine AW.g ?_
       refine At.a 2 ?_
       by_cases h7 : ((rd4 (s.extract 0 1).data.toList).2) = true
       · refine At.sB 58 ((rd4 (s.extract 0 1).data.toList).2) true (sayB h7) ?_
         refine At.z 3 ?_
         refine AW.seq ?_
         refine AW.r ?_
         refine At.a 3 ?_
         by_cases h8 : ((rd4 (s.extract 3 s.size).data.toList).2) = true
         · refine At.sB 63 (!((rd4 (s.extract 3 s.size).data.toList).2)) false (sayNF (sayB h8)) ?_
           refine At.a 1 ?_
           refine At.c (spec_OnOk_spec  (⟨3, (rd4 (s.extract 3 s.size).data.toList).1, (rd4 (s.extract 0 1).data.toList).1⟩ : On) ) Tryz.call42 true [] [] [] trivial ?_
           refine At.z 2 ?_
           refine AW.cNB (onOk (⟨3, (rd4 (s.extract 3 s.size).data.toList).1, (rd4 (s.extract 0 1).data.toList).1⟩ : On)) (fun h9 => ?_) (fun h9 => ?_)
           · refine AW.q 3 ?_
             exact AW.ret (rf (k2 (K_spec_OnRead _ s) (show ((⟨0, 0, 0⟩ : On)) = ((onRS s.data.toList).1) from by rw [rs_no (by first | exact raw_1 (by assumption) (by assumption) | exact raw_2 (by rintro ⟨q1, q2⟩; first | exact absurd q1 (by assumption) | exact absurd q2 (by assumption)) (by assumption) (by assumption) | exact raw_3 (by rintro ⟨q1, q2⟩; first | exact absurd q1 (by assumption) | exact absurd q2 (by assumption)) (by rintro ⟨q1, q2⟩; first | exact absurd q1 (by assumption) | exact absurd q2 (by assumption))) (by assumption)]; first | done | rfl) (show (false) = ((onRS s.data.toList).2) from by rw [rs_no (by first | exact raw_1 (by assumption) (by assumption) | exact raw_2 (by rintro ⟨q1, q2⟩; first | exact absurd q1 (by assumption) | exact absurd q2 (by assumption)) (by assumption) (by assumption) | exact raw_3 (by rintro ⟨q1, q2⟩; first | exact absurd q1 (by assumption) | exact absurd q2 (by assumption)) (by rintro ⟨q1, q2⟩; first | exact absurd q1 (by assumption) | exact absurd q2 (by assumption))) (by assumption)]; first | done | rfl) (KF.n [])))
           refine AW.skip ?_
           refine AW.q 3 ?_
           exact AW.ret (rf (k2 (K_spec_OnRead _ s) (show ((⟨3, (rd4 (s.extract 3 s.size).data.toList).1, (rd4 (s.extract 0 1).data.toList).1⟩ : On)) = ((onRS s.data.toList).1) from by rw [rs_ok (by first | exact raw_1 (by assumption) (by assumption) | exact raw_2 (by rintro ⟨q1, q2⟩; first | exact absurd q1 (by assumption) | exact absurd q2 (by assumption)) (by assumption) (by assumption) | exact raw_3 (by rintro ⟨q1, q2⟩; first | exact absurd q1 (by assumption) | exact absurd q2 (by assumption)) (by rintro ⟨q1, q2⟩; first | exact absurd q1 (by assumption) | exact absurd q2 (by assumption))) (by simp only [*]; first | done | rfl | decide) (by assumption)]) (show (true) = ((onRS s.data.toList).2) from by rw [rs_ok (by first | exact raw_1 (by assumption) (by assumption) | exact raw_2 (by rintro ⟨q1, q2⟩; first | exact absurd q1 (by assumption) | exact absurd q2 (by assumption)) (by assumption) (by assumption) | exact raw_3 (by rintro ⟨q1, q2⟩; first | exact absurd q1 (by assumption) | exact absurd q2 (by assumption)) (by rintro ⟨q1, q2⟩; first | exact absurd q1 (by assumption) | exact absurd q2 (by assumption))) (by simp only [*]; first | done | rfl | decide) (by assumption)]) (KF.n [])))
         refine At.sB 63 (!((rd4 (s.extract 3 s.size).data.toList).2)) true (sayNT (sayB (Bool.eq_false_iff.2 h8))) ?_
         replace h8 := Bool.eq_false_iff.2 h8
         refine At.z 4 ?_
         refine AW.cond true (by kernel_rfl) (fun _ => ?_) (fun h => by cases h)
         refine AW.q 3 ?_
         exact AW.ret (rf (k2 (K_spec_OnRead _ s) (show ((⟨0, 0, 0⟩ : On)) = ((onRS s.data.toList).1) from by rw [rs_bad (by first | exact raw_1 (by assumption) (by assumption) | exact raw_2 (by rintro ⟨q1, q2⟩; first | exact absurd q1 (by assumption) | exact absurd q2 (by assumption)) (by assumption) (by assumption) | exact raw_3 (by rintro ⟨q1, q2⟩; first | exact absurd q1 (by assumption) | exact absurd q2 (by assumption)) (by rintro ⟨q1, q2⟩; first | exact absurd q1 (by assumption) | exact absurd q2 (by assumption))) (by simp only [*]; first | done | rfl | decide)]; first | done | rfl) (show (false) = ((onRS s.data.toList).2) from by rw [rs_bad (by first | exact raw_1 (by assumption) (by assumption) | exact raw_2 (by rintro ⟨q1, q2⟩; first | exact absurd q1 (by assumption) | exact absurd q2 (by assumption)) (by assumption) (by assumption) | exact raw_3 (by rintro ⟨q1, q2⟩; first | exact absurd q1 (by assumption) | exact absurd q2 (by assumption)) (by rintro ⟨q1, q2⟩; first | exact absurd q1 (by assumption) | exact absurd q2 (by assumption))) (by simp only [*]; first | done | rfl | decide)]; first | done | rfl) (KF.n [])))
       refine At.sB 58 ((rd4 (s.extract 0 1).data.toList).2) false (sayB (Bool.eq_false_iff.2 h7)) ?_
       replace h7 := Bool.eq_false_iff.2 h7
       refine At.z 3 ?_
       refine AW.seq ?_
       refine AW.q 7 ?_
       refine AW.cond true (by kernel_rfl) (fun _ => ?_) (fun h => by cases h)
       refine AW.q 3 ?_
       exact AW.ret (rf (k2 (K_spec_OnRead _ s) (show ((⟨0, 0, 0⟩ : On)) = ((onRS s.data.toList).1) from by rw [rs_bad (by first | exact raw_1 (by assumption) (by assumption) | exact raw_2 (by rintro ⟨q1, q2⟩; first | exact absurd q1 (by assumption) | exact absurd q2 (by assumption)) (by assumption) (by assumption) | exact raw_3 (by rintro ⟨q1, q2⟩; first | exact absurd q1 (by assumption) | exact absurd q2 (by assumption)) (by rintro ⟨q1, q2⟩; first | exact absurd q1 (by assumption) | exact absurd q2 (by assumption))) (by simp only [*]; first | done | rfl | decide)]; first | done | rfl) (show (false) = ((onRS s.data.toList).2) from by rw [rs_bad (by first | exact raw_1 (by assumption) (by assumption) | exact raw_2 (by rintro ⟨q1, q2⟩; first | exact absurd q1 (by assumption) | exact absurd q2 (by assumption)) (by assumption) (by assumption) | exact raw_3 (by rintro ⟨q1, q2⟩; first | exact absurd q1 (by assumption) | exact absurd q2 (by assumption)) (by rintro ⟨q1, q2⟩; first | exact absurd q1 (by assumption) | exact absurd q2 (by assumption))) (by simp only [*]; first | done | rfl | decide)]; first | done | rfl) (KF.n [])))
     refine AW.g ?_
     refine At.a 1 ?_
     refine At.c (spec_l12Read_spec  s (by assumption)) Tryz.call64 true [] [] [] trivial ?_
     refine At.z 6 ?_
     refine AW.seq ?_
     refine AW.r ?_
     refine At.a 3 ?_
     by_cases h10 : ((rd4 s.data.toList).2) = true
     · refine At.sB 63 (!((rd4 s.data.toList).2)) false (sayNF (sayB h10)) ?_
       refine At.a 1 ?_
       refine At.c (spec_OnOk_spec  (⟨1, (rd4 s.data.toList).1, 0⟩ : On) ) Tryz.call42 true [] [] [] trivial ?_
       refine At.z 2 ?_
       refine AW.cNB (onOk (⟨1, (rd4 s.data.toList).1, 0⟩ : On)) (fun h11 => ?_) (fun h11 => ?_)
       · refine AW.q 3 ?_
         exact AW.ret (rf (k2 (K_spec_OnRead _ s) (show ((⟨0, 0, 0⟩ : On)) = ((onRS s.data.toList).1) from by rw [rs_no (by first | exact raw_1 (by assumption) (by assumption) | exact raw_2 (by rintro ⟨q1, q2⟩; first | exact absurd q1 (by assumption) | exact absurd q2 (by assumption)) (by assumption) (by assumption) | exact raw_3 (by rintro ⟨q1, q2⟩; first | exact absurd q1 (by assumption) | exact absurd q2 (by assumption)) (by rintro ⟨q1, q2⟩; first | exact absurd q1 (by assumption) | exact absurd q2 (by assumption))) (by assumption)]; first | done | rfl) (show (false) = ((onRS s.data.toList).2) from by rw [rs_no (by first | exact raw_1 (by assumption) (by assumption) | exact raw_2 (by rintro ⟨q1, q2⟩; first | exact absurd q1 (by assumption) | exact absurd q2 (by assumption)) (by assumption) (by assumption) | exact raw_3 (by rintro ⟨q1, q2⟩; first | exact absurd q1 (by assumption) | exact absurd q2 (by assumption)) (by rintro ⟨q1, q2⟩; first | exact absurd q1 (by assumption) | exact absurd q2 (by assumption))) (by assumption)]; first | done | rfl) (KF.n [])))
       refine AW.skip ?_
       refine AW.q 3 ?_
       exact AW.ret (rf (k2 (K_spec_OnRead _ s) (show ((⟨1, (rd4 s.data.toList).1, 0⟩ : On)) = ((onRS s.data.toList).1) from by rw [rs_ok (by first | exact raw_1 (by assumption) (by assumption) | exact raw_2 (by rintro ⟨q1, q2⟩; first | exact absurd q1 (by assumption) | exact absurd q2 (by assumption)) (by assumption) (by assumption) | exact raw_3 (by rintro ⟨q1, q2⟩; first | exact absurd q1 (by assumption) | exact absurd q2 (by assumption)) (by rintro ⟨q1, q2⟩; first | exact absurd q1 (by assumption) | exact absurd q2 (by assumption))) (by simp only [*]; first | done | rfl | decide) (by assumption)]) (show (true) = ((onRS s.data.toList).2) from by rw [rs_ok (by first | exact raw_1 (by assumption) (by assumption) | exact raw_2 (by rintro ⟨q1, q2⟩; first | exact absurd q1 (by assumption) | exact absurd q2 (by assumption)) (by assumption) (by assumption) | exact raw_3 (by rintro ⟨q1, q2⟩; first | exact absurd q1 (by assumption) | exact absurd q2 (by assumption)) (by rintro ⟨q1, q2⟩; first | exact absurd q1 (by assumption) | exact absurd q2 (by assumption))) (by simp only [*]; first | done | rfl | decide) (by assumption)]) (KF.n [])))
     refine At.sB 63 (!((rd4 s.data.toList).2)) true (sayNT (sayB (Bool.eq_false_iff.2 h10))) ?_
     replace h10 := Bool.eq_false_iff.2 h10
     refine At.z 4 ?_
     refine AW.cond true (by kernel_rfl) (fun _ => ?_) (fun h => by cases h)
     refine AW.q 3 ?_
     exact AW.ret (rf (k2 (K_spec_OnRead _ s) (show ((⟨0, 0, 0⟩ : On)) = ((onRS s.data.toList).1) from by rw [rs_bad (by first | exact raw_1 (by assumption) (by assumption) | exact raw_2 (by rintro ⟨q1, q2⟩; first | exact absurd q1 (by assumption) | exact absurd q2 (by assumption)) (by assumption) (by assumption) | exact raw_3 (by rintro ⟨q1, q2⟩; first | exact absurd q1 (by assumption) | exact absurd q2 (by assumption)) (by rintro ⟨q1, q2⟩; first | exact absurd q1 (by assumption) | exact absurd q2 (by assumption))) (by simp only [*]; first | done | rfl | decide)]; first | done | rfl) (show (false) = ((onRS s.data.toList).2) from by rw [rs_bad (by first | exact raw_1 (by assumption) (by assumption) | exact raw_2 (by rintro ⟨q1, q2⟩; first | exact absurd q1 (by assumption) | exact absurd q2 (by assumption)) (by assumption) (by assumption) | exact raw_3 (by rintro ⟨q1, q2⟩; first | exact absurd q1 (by assumption) | exact absurd q2 (by assumption)) (by rintro ⟨q1, q2⟩; first | exact absurd q1 (by assumption) | exact absurd q2 (by assumption))) (by simp only [*]; first | done | rfl | decide)]; first | done | rfl) (KF.n [])))
   refine At.sB 36 _ _ (sayF h5) ?_
   refine At.z 5 ?_
   refine AW.cond false (by kernel_rfl) (fun h => by cases h) (fun _ => ?_)
   refine AW.g ?_
   refine At.a 1 ?_
   refine At.c (spec_l12Read_spec  s (by assumption)) Tryz.call64 true [] [] [] trivial ?_
   refine At.z 6 ?_
   refine AW.seq ?_
   refine AW.r ?_
   refine At.a 3 ?_
   by_cases h12 : ((rd4 s.data.toList).2) = true
   · refine At.sB 63 (!((rd4 s.data.toList).2)) false (sayNF (sayB h12)) ?_
     refine At.a 1 ?_
     refine At.c (spec_OnOk_spec  (⟨1, (rd4 s.data.toList).1, 0⟩ : On) ) Tryz.call42 true [] [] [] trivial ?_
     refine At.z 2 ?_
     refine AW.cNB (onOk (⟨1, (rd4 s.data.toList).1, 0⟩ : On)) (fun h13 => ?_) (fun h13 => ?_)
     · refine AW.q 3 ?_
       exact AW.ret (rf (k2 (K_spec_OnRead _ s) (show ((⟨0, 0, 0⟩ : On)) = ((onRS s.data.toList).1) from by rw [rs_no (by first | exact raw_1 (by assumption) (by assumption) | exact raw_2 (by rintro ⟨q1, q2⟩; first | exact absurd q1 (by assumption) | exact absurd q2 (by assumption)) (by assumption) (by assumption) | exact raw_3 (by rintro ⟨q1, q2⟩; first | exact absurd q1 (by assumption) | exact absurd q2 (by assumption)) (by rintro ⟨q1, q2⟩; first | exact absurd q1 (by assumption) | exact absurd q2 (by assumption))) (by assumption)]; first | done | rfl) (show (false) = ((onRS s.data.toList).2) from by rw [rs_no (by first | exact raw_1 (by assumption) (by assumption) | exact raw_2 (by rintro ⟨q1, q2⟩; first | exact absurd q1 (by assumption) | exact absurd q2 (by assumption)) (by assumption) (by assumption) | exact raw_3 (by rintro ⟨q1, q2⟩; first | exact absurd q1 (by assumption) | exact absurd q2 (by assumption)) (by rintro ⟨q1, q2⟩; first | exact absurd q1 (by assumption) | exact absurd q2 (by assumption))) (by assumption)]; first | done | rfl) (KF.n [])))
     refine AW.skip ?_
     refine AW.q 3 ?_
     exact AW.ret (rf (k2 (K_spec_OnRead _ s) (show ((⟨1, (rd4 s.data.toList).1, 0⟩ : On)) = ((onRS s.data.toList).1) from by rw [rs_ok (by first | exact raw_1 (by assumption) (by assumption) | exact raw_2 (by rintro ⟨q1, q2⟩; first | exact absurd q1 (by assumption) | exact absurd q2 (by assumption)) (by assumption) (by assumption) | exact raw_3 (by rintro ⟨q1, q2⟩; first | exact absurd q1 (by assumption) | exact absurd q2 (by assumption)) (by rintro ⟨q1, q2⟩; first | exact absurd q1 (by assumption) | exact absurd q2 (by assumption))) (by simp only [*]; first | done | rfl | decide) (by assumption)]) (show (true) = ((onRS s.data.toList).2) from by rw [rs_ok (by first | exact raw_1 (by assumption) (by assumption) | exact raw_2 (by rintro ⟨q1, q2⟩; first | exact absurd q1 (by assumption) | exact absurd q2 (by assumption)) (by assumption) (by assumption) | exact raw_3 (by rintro ⟨q1, q2⟩; first | exact absurd q1 (by assumption) | exact absurd q2 (by assumption)) (by rintro ⟨q1, q2⟩; first | exact absurd q1 (by assumption) | exact absurd q2 (by assumption))) (by simp only [*]; first | done | rfl | decide) (by assumption)]) (KF.n [])))
   refine At.sB 63 (!((rd4 s.data.toList).2)) true (sayNT (sayB (Bool.eq_false_iff.2 h12))) ?_
   replace h12 := Bool.eq_false_iff.2 h12
   refine At.z 4 ?_
   refine AW.cond true (by kernel_rfl) (fun _ => ?_) (fun h => by cases h)
   refine AW.q 3 ?_
   exact AW.ret (rf (k2 (K_spec_OnRead _ s) (show ((⟨0, 0, 0⟩ : On)) = ((onRS s.data.toList).1) from by rw [rs_bad (by first | exact raw_1 (by assumption) (by assumption) | exact raw_2 (by rintro ⟨q1, q2⟩; first | exact absurd q1 (by assumption) | exact absurd q2 (by assumption)) (by assumption) (by assumption) | exact raw_3 (by rintro ⟨q1, q2⟩; first | exact absurd q1 (by assumption) | exact absurd q2 (by assumption)) (by rintro ⟨q1, q2⟩; first | exact absurd q1 (by assumption) | exact absurd q2 (by assumption))) (by simp only [*]; first | done | rfl | decide)]; first | done | rfl) (show (false) = ((onRS s.data.toList).2) from by rw [rs_bad (by first | exact raw_1 (by assumption) (by assumption) | exact raw_2 (by rintro ⟨q1, q2⟩; first | exact absurd q1 (by assumption) | exact absurd q2 (by assumption)) (by assumption) (by assumption) | exact raw_3 (by rintro ⟨q1, q2⟩; first | exact absurd q1 (by assumption) | exact absurd q2 (by assumption)) (by rintro ⟨q1, q2⟩; first | exact absurd q1 (by assumption) | exact absurd q2 (by assumption))) (by simp only [*]; first | done | rfl | decide)]; first | done | rfl) (KF.n [])))
 refine At.sB 19 _ _ (sayF h1) ?_
 refine At.z 5 ?_
 refine AW.cond false (by kernel_rfl) (fun h => by cases h) (fun _ => ?_)
 refine AW.r ?_
 refine At.a 4 ?_
 by_cases h14 : (s.size : Int) > 3
 · refine At.sB 36 _ _ (sayT h14) ?_
   refine At.a 1 ?_
   refine At.slStr (t := 9) (d := 38) (x := .tmp 37) (lx := some (.const (.int .i64 1))) (hx := some (.const (.int .i64 3))) (s := s) (vl := .int .i64 1) (vh := .int .i64 3) 1 3 (by kernel_rfl) (by kernel_rfl) (by kernel_rfl) (by kernel_rfl) (.inr ⟨_, _, rfl, rfl⟩) (.inr ⟨_, _, rfl, rfl⟩) (by omega) (by omega) ?_
   refine At.z 3 ?_
   refine AW.cE ((s.extract 1 3).toList) ((⟨#[62, 61]⟩ : ByteArray).toList) (fun h15 => ?_) (fun h15 => ?_)
   · refine AW.q 2 ?_
     refine AW.r ?_
     refine At.a 1 ?_
     refine At.slStr (t := 9) (d := 44) (x := .tmp 43) (lx := none) (hx := some (.const (.int .i64 1))) (s := s) (vl := .un) (vh := .int .i64 1) 0 1 (by kernel_rfl) (by kernel_rfl) (by kernel_rfl) (by kernel_rfl) (.inl ⟨rfl, rfl⟩) (.inr ⟨_, _, rfl, rfl⟩) (by omega) (by omega) ?_
     refine At.c (spec_l12Read_spec  (s.extract 0 1) (by rw [ByteArray.size_extract]; omega)) Tryz.call64 true [] [] [] trivial ?_
     refine At.z 6 ?_
     refine AW.r ?_
     refine At.a 1 ?_
     refine At.slStr (t := 9) (d := 51) (x := .tmp 50) (lx := some (.const (.int .i64 3))) (hx := none) (s := s) (vl := .int .i64 3) (vh := .un) 3 s.size (by kernel_rfl) (by kernel_rfl) (by kernel_rfl) (by kernel_rfl) (.inr ⟨_, _, rfl, rfl⟩) (.inl ⟨rfl, rfl⟩) (by omega) (by omega) ?_
     refine At.c (spec_l12Read_spec  (s.extract 3 s.size) (by rw [ByteArray.size_extract]; omega)) Tryz.call64 true [] [] [] trivial ?_
     refine At.z 5 ?_
     refine AW.q 3 ?_
     refine AW.g ?_
     refine At.a 2 ?_
     by_cases h16 : ((rd4 (s.extract 0 1).data.toList).2) = true
     · refine At.sB 58 ((rd4 (s.extract 0 1).data.toList).2) true (sayB h16) ?_
       refine At.z 3 ?_
       refine AW.seq ?_
       refine AW.r ?_
       refine At.a 3 ?_
       by_cases h17 : ((rd4 (s.extract 3 s.size).data.toList).2) = true
       · refine At.sB 63 (!((rd4 (s.extract 3 s.size).data.toList).2)) false (sayNF (sayB h17)) ?_
         refine At.a 1 ?_
         refine At.c (spec_OnOk_spec  (⟨3, (rd4 (s.extract 3 s.size).data.toList).1, (rd4 (s.extract 0 1).data.toList).1⟩ : On) ) Tryz.call42 true [] [] [] trivial ?_
         refine At.z 2 ?_
         refine AW.cNB (onOk (⟨3, (rd4 (s.extract 3 s.size).data.toList).1, (rd4 (s.extract 0 1).data.toList).1⟩ : On)) (fun h18 => ?_) (fun h18 => ?_)
         · refine AW.q 3 ?_
           exact AW.ret (rf (k2 (K_spec_OnRead _ s) (show ((⟨0, 0, 0⟩ : On)) = ((onRS s.data.toList).1) from by rw [rs_no (by first | exact raw_1 (by assumption) (by assumption) | exact raw_2 (by rintro ⟨q1, q2⟩; first | exact absurd q1 (by assumption) | exact absurd q2 (by assumption)) (by assumption) (by assumption) | exact raw_3 (by rintro ⟨q1, q2⟩; first | exact absurd q1 (by assumption) | exact absurd q2 (by assumption)) (by rintro ⟨q1, q2⟩; first | exact absurd q1 (by assumption) | exact absurd q2 (by assumption))) (by assumption)]; first | done | rfl) (show (false) = ((onRS s.data.toList).2) from by rw [rs_no (by first | exact raw_1 (by assumption) (by assumption) | exact raw_2 (by rintro ⟨q1, q2⟩; first | exact absurd q1 (by assumption) | exact absurd q2 (by assumption)) (by assumption) (by assumption) | exact raw_3 (by rintro ⟨q1, q2⟩; first | exact absurd q1 (by assumption) | exact absurd q2 (by assumption)) (by rintro ⟨q1, q2⟩; first | exact absurd q1 (by assumption) | exact absurd q2 (by assumption))) (by assumption)]; first | done | rfl) (KF.n [])))
         refine AW.skip ?_
         refine AW.q 3 ?_
         exact AW.ret (rf (k2 (K_spec_OnRead _ s) (show ((⟨3, (rd4 (s.extract 3 s.size).data.toList).1, (rd4 (s.extract 0 1).data.toList).1⟩ : On)) = ((onRS s.data.toList).1) from by rw [rs_ok (by first | exact raw_1 (by assumption) (by assumption) | exact raw_2 (by rintro ⟨q1, q2⟩; first | exact absurd q1 (by assumption) | exact absurd q2 (by assumption)) (by assumption) (by assumption) | exact raw_3 (by rintro ⟨q1, q2⟩; first | exact absurd q1 (by assumption) | exact absurd q2 (by assumption)) (by rintro ⟨q1, q2⟩; first | exact absurd q1 (by assumption) | exact absurd q2 (by assumption))) (by simp only [*]; first | done | rfl | decide) (by assumption)]) (show (true) = ((onRS s.data.toList).2) from by rw [rs_ok (by first | exact raw_1 (by assumption) (by assumption) | exact raw_2 (by rintro ⟨q1, q2⟩; first | exact absurd q1 (by assumption) | exact absurd q2 (by assumption)) (by assumption) (by assumption) | exact raw_3 (by rintro ⟨q1, q2⟩; first | exact absurd q1 (by assumption) | exact absurd q2 (by assumption)) (by rintro ⟨q1, q2⟩; first | exact absurd q1 (by assumption) | exact absurd q2 (by assumption))) (by simp only [*]; first | done | rfl | decide) (by assumption)]) (KF.n [])))
       refine At.sB 63 (!((rd4 (s.extract 3 s.size).data.toList).2)) true (sayNT (sayB (Bool.eq_false_iff.2 h17))) ?_
       replace h17 := Bool.eq_false_iff.2 h17
       refine At.z 4 ?_
       refine AW.cond true (by kernel_rfl) (fun _ => ?_) (fun h => by cases h)
       refine AW.q 3 ?_
       exact AW.ret (rf (k2 (K_spec_OnRead _ s) (show ((⟨0, 0, 0⟩ : On)) = ((onRS s.data.toList).1) from by rw [rs_bad (by first | exact raw_1 (by assumption) (by assumption) | exact raw_2 (by rintro ⟨q1, q2⟩; first | exact absurd q1 (by assumption) | exact absurd q2 (by assumption)) (by assumption) (by assumption) | exact raw_3 (by rintro ⟨q1, q2⟩; first | exact absurd q1 (by assumption) | exact absurd q2 (by assumption)) (by rintro ⟨q1, q2⟩; first | exact absurd q1 (by assumption) | exact absurd q2 (by assumption))) (by simp only [*]; first | done | rfl | decide)]; first | done | rfl) (show (false) = ((onRS s.data.toList).2) from by rw [rs_bad (by first | exact raw_1 (by assumption) (by assumption) | exact raw_2 (by rintro ⟨q1, q2⟩; first | exact absurd q1 (by assumption) | exact absurd q2 (by assumption)) (by assumption) (by assumption) | exact raw_3 (by rintro ⟨q1, q2⟩; first | exact absurd q1 (by assumption) | exact absurd q2 (by assumption)) (by rintro ⟨q1, q2⟩; first | exact absurd q1 (by assumption) | exact absurd q2 (by assumption))) (by simp only [*]; first | done | rfl | decide)]; first | done | rfl) (KF.n [])))
     refine At.sB 58 ((rd4 (s.extract 0 1).data.toList).2) false (sayB (Bool.eq_false_iff.2 h16)) ?_
     replace h16 := Bool.eq_false_iff.2 h16
     refine At.z 3 ?_
     refine AW.seq ?_
     refine AW.q 7 ?_
     refine AW.cond true (by kernel_rfl) (fun _ => ?_) (fun h => by cases h)
     refine AW.q 3 ?_
     exact AW.ret (rf (k2 (K_spec_OnRead _ s) (show ((⟨0, 0, 0⟩ : On)) = ((onRS s.data.toList).1) from by rw [rs_bad (by first | exact raw_1 (by assumption) (by assumption) | exact raw_2 (by rintro ⟨q1, q2⟩; first | exact absurd q1 (by assumption) | exact absurd q2 (by assumption)) (by assumption) (by assumption) | exact raw_3 (by rintro ⟨q1, q2⟩; first | exact absurd q1 (by assumption) | exact absurd q2 (by assumption)) (by rintro ⟨q1, q2⟩; first | exact absurd q1 (by assumption) | exact absurd q2 (by assumption))) (by simp only [*]; first | done | rfl | decide)]; first | done | rfl) (show (false) = ((onRS s.data.toList).2) from by rw [rs_bad (by first | exact raw_1 (by assumption) (by assumption) | exact raw_2 (by rintro ⟨q1, q2⟩; first | exact absurd q1 (by assumption) | exact absurd q2 (by assumption)) (by assumption) (by assumption) | exact raw_3 (by rintro ⟨q1, q2⟩; first | exact absurd q1 (by assumption) | exact absurd q2 (by assumption)) (by rintro ⟨q1, q2⟩; first | exact absurd q1 (by assumption) | exact absurd q2 (by assumption))) (by simp only [*]; first | done | rfl | decide)]; first | done | rfl) (KF.n [])))
   refine AW.g ?_
   refine At.a 1 ?_
   refine At.c (spec_l12Read_spec  s (by assumption)) Tryz.call64 true [] [] [] trivial ?_
   refine At.z 6 ?_
   refine AW.seq ?_
   refine AW.r ?_
   refine At.a 3 ?_
   by_cases h19 : ((rd4 s.data.toList).2) = true
   · refine At.sB 63 (!((rd4 s.data.toList).2)) false (sayNF (sayB h19)) ?_
     refine At.a 1 ?_
     refine At.c (spec_OnOk_spec  (⟨1, (rd4 s.data.toList).1, 0⟩ : On) ) Tryz.call42 true [] [] [] trivial ?_
     refine At.z 2 ?_
     refine AW.cNB (onOk (⟨1, (rd4 s.data.toList).1, 0⟩ : On)) (fun h20 => ?_) (fun h20 => ?_)
     · refine AW.q 3 ?_
       exact AW.ret (rf (k2 (K_spec_OnRead _ s) (show ((⟨0, 0, 0⟩ : On)) = ((onRS s.data.toList).1) from by rw [rs_no (by first | exact raw_1 (by assumption) (by assumption) | exact raw_2 (by rintro ⟨q1, q2⟩; first | exact absurd q1 (by assumption) | exact absurd q2 (by assumption)) (by assumption) (by assumption) | exact raw_3 (by rintro ⟨q1, q2⟩; first | exact absurd q1 (by assumption) | exact absurd q2 (by assumption)) (by rintro ⟨q1, q2⟩; first | exact absurd q1 (by assumption) | exact absurd q2 (by assumption))) (by assumption)]; first | done | rfl) (show (false) = ((onRS s.data.toList).2) from by rw [rs_no (by first | exact raw_1 (by assumption) (by assumption) | exact raw_2 (by rintro ⟨q1, q2⟩; first | exact absurd q1 (by assumption) | exact absurd q2 (by assumption)) (by assumption) (by assumption) | exact raw_3 (by rintro ⟨q1, q2⟩; first | exact absurd q1 (by assumption) | exact absurd q2 (by assumption)) (by rintro ⟨q1, q2⟩; first | exact absurd q1 (by assumption) | exact absurd q2 (by assumption))) (by assumption)]; first | done | rfl) (KF.n [])))
     refine AW.skip ?_
     refine AW.q 3 ?_
     exact AW.ret (rf (k2 (K_spec_OnRead _ s) (show ((⟨1, (rd4 s.data.toList).1, 0⟩ : On)) = ((onRS s.data.toList).1) from by rw [rs_ok (by first | exact raw_1 (by assumption) (by assumption) | exact raw_2 (by rintro ⟨q1, q2⟩; first | exact absurd q1 (by assumption) | exact absurd q2 (by assumption)) (by assumption) (by assumption) | exact raw_3 (by rintro ⟨q1, q2⟩; first | exact absurd q1 (by assumption) | exact absurd q2 (by assumption)) (by rintro ⟨q1, q2⟩; first | exact absurd q1 (by assumption) | exact absurd q2 (by assumption))) (by simp only [*]; first | done | rfl | decide) (by assumption)]) (show (true) = ((onRS s.data.toList).2) from by rw [rs_ok (by first | exact raw_1 (by assumption) (by assumption) | exact raw_2 (by rintro ⟨q1, q2⟩; first | exact absurd q1 (by assumption) | exact absurd q2 (by assumption)) (by assumption) (by assumption) | exact raw_3 (by rintro ⟨q1, q2⟩; first | exact absurd q1 (by assumption) | exact absurd q2 (by assumption)) (by rintro ⟨q1, q2⟩; first | exact absurd q1 (by assumption) | exact absurd q2 (by assumption))) (by simp only [*]; first | done | rfl | decide) (by assumption)]) (KF.n [])))
   refine At.sB 63 (!((rd4 s.data.toList).2)) true (sayNT (sayB (Bool.eq_false_iff.2 h19))) ?_
   replace h19 := Bool.eq_false_iff.2 h19
   refine At.z 4 ?_
   refine AW.cond true (by kernel_rfl) (fun _ => ?_) (fun h => by cases h)
   refine AW.q 3 ?_
   exact AW.ret (rf (k2 (K_spec_OnRead _ s) (show ((⟨0, 0, 0⟩ : On)) = ((onRS s.data.toList).1) from by rw [rs_bad (by first | exact raw_1 (by assumption) (by assumption) | exact raw_2 (by rintro ⟨q1, q2⟩; first | exact absurd q1 (by assumption) | exact absurd q2 (by assumption)) (by assumption) (by assumption) | exact raw_3 (by rintro ⟨q1, q2⟩; first | exact absurd q1 (by assumption) | exact absurd q2 (by assumption)) (by rintro ⟨q1, q2⟩; first | exact absurd q1 (by assumption) | exact absurd q2 (by assumption))) (by simp only [*]; first | done | rfl | decide)]; first | done | rfl) (show (false) = ((onRS s.data.toList).2) from by rw [rs_bad (by first | exact raw_1 (by assumption) (by assumption) | exact raw_2 (by rintro ⟨q1, q2⟩; first | exact absurd q1 (by assumption) | exact absurd q2 (by assumption)) (by assumption) (by assumption) | exact raw_3 (by rintro ⟨q1, q2⟩; first | exact absurd q1 (by assumption) | exact absurd q2 (by assumption)) (by rintro ⟨q1, q2⟩; first | exact absurd q1 (by assumption) | exact absurd q2 (by assumption))) (by simp only [*]; first | done | rfl | decide)]; first | done | rfl) (KF.n [])))
 refine At.sB 36 _ _ (sayF h14) ?_
 refine At.z 5 ?_
 refine AW.cond false (by kernel_rfl) (fun h => by cases h) (fun _ => ?_)
 refine AW.g ?_
 refine At.a 1 ?_
 refine At.c (spec_l12Read_spec  s (by assumption)) Tryz.call64 true [] [] [] trivial ?_
 refine At.z 6 ?_
 refine AW.seq ?_
 refine AW.r ?_
 refine At.a 3 ?_
 by_cases h21 : ((rd4 s.data.toList).2) = true
 · refine At.sB 63 (!((rd4 s.data.toList).2)) false (sayNF (sayB h21)) ?_
   refine At.a 1 ?_
   refine At.c (spec_OnOk_spec  (⟨1, (rd4 s.data.toList).1, 0⟩ : On) ) Tryz.call42 true [] [] [] trivial ?_
   refine At.z 2 ?_
   refine AW.cNB (onOk (⟨1, (rd4 s.data.toList).1, 0⟩ : On)) (fun h22 => ?_) (fun h22 => ?_)
   · refine AW.q 3 ?_
     exact AW.ret (rf (k2 (K_spec_OnRead _ s) (show ((⟨0, 0, 0⟩ : On)) = ((onRS s.data.toList).1) from by rw [rs_no (by first | exact raw_1 (by assumption) (by assumption) | exact raw_2 (by rintro ⟨q1, q2⟩; first | exact absurd q1 (by assumption) | exact absurd q2 (by assumption)) (by assumption) (by assumption) | exact raw_3 (by rintro ⟨q1, q2⟩; first | exact absurd q1 (by assumption) | exact absurd q2 (by assumption)) (by rintro ⟨q1, q2⟩; first | exact absurd q1 (by assumption) | exact absurd q2 (by assumption))) (by assumption)]; first | done | rfl) (show (false) = ((onRS s.data.toList).2) from by rw [rs_no (by first | exact raw_1 (by assumption) (by assumption) | exact raw_2 (by rintro ⟨q1, q2⟩; first | exact absurd q1 (by assumption) | exact absurd q2 (by assumption)) (by assumption) (by assumption) | exact raw_3 (by rintro ⟨q1, q2⟩; first | exact absurd q1 (by assumption) | exact absurd q2 (by assumption)) (by rintro ⟨q1, q2⟩; first | exact absurd q1 (by assumption) | exact absurd q2 (by assumption))) (by assumption)]; first | done | rfl) (KF.n [])))
   refine AW.skip ?_
   refine AW.q 3 ?_
   exact AW.ret (rf (k2 (K_spec_OnRead _ s) (show ((⟨1, (rd4 s.data.toList).1, 0⟩ : On)) = ((onRS s.data.toList).1) from by rw [rs_ok (by first | exact raw_1 (by assumption) (by assumption) | exact raw_2 (by rintro ⟨q1, q2⟩; first | exact absurd q1 (by assumption) | exact absurd q2 (by assumption)) (by assumption) (by assumption) | exact raw_3 (by rintro ⟨q1, q2⟩; first | exact absurd q1 (by assumption) | exact absurd q2 (by assumption)) (by rintro ⟨q1, q2⟩; first | exact absurd q1 (by assumption) | exact absurd q2 (by assumption))) (by simp only [*]; first | done | rfl | decide) (by assumption)]) (show (true) = ((onRS s.data.toList).2) from by rw [rs_ok (by first | exact raw_1 (by assumption) (by assumption) | exact raw_2 (by rintro ⟨q1, q2⟩; first | exact absurd q1 (by assumption) | exact absurd q2 (by assumption)) (by assumption) (by assumption) | exact raw_3 (by rintro ⟨q1, q2⟩; first | exact absurd q1 (by assumption) | exact absurd q2 (by assumption)) (by rintro ⟨q1, q2⟩; first | exact absurd q1 (by assumption) | exact absurd q2 (by assumption))) (by simp only [*]; first | done | rfl | decide) (by assumption)]) (KF.n [])))
 refine At.sB 63 (!((rd4 s.data.toList).2)) true (sayNT (sayB (Bool.eq_false_iff.2 h21))) ?_
 replace h21 := Bool.eq_false_iff.2 h21
 refine At.z 4 ?_
 refine AW.cond true (by kernel_rfl) (fun _ => ?_) (fun h => by cases h)
 refine AW.q 3 ?_
 exact AW.ret (rf (k2 (K_spec_OnRead _ s) (show ((⟨0, 0, 0⟩ : On)) = ((onRS s.data.toList).1) from by rw [rs_bad (by first | exact raw_1 (by assumption) (by assumption) | exact raw_2 (by rintro ⟨q1, q2⟩; first | exact absurd q1 (by assumption) | exact absurd q2 (by assumption)) (by assumption) (by assumption) | exact raw_3 (by rintro ⟨q1, q2⟩; first | exact absurd q1 (by assumption) | exact absurd q2 (by assumption)) (by rintro ⟨q1, q2⟩; first | exact absurd q1 (by assumption) | exact absurd q2 (by assumption))) (by simp only [*]; first | done | rfl | decide)]; first | done | rfl) (show (false) = ((onRS s.data.toList).2) from by rw [rs_bad (by first | exact raw_1 (by assumption) (by assumption) | exact raw_2 (by rintro ⟨q1, q2⟩; first | exact absurd q1 (by assumption) | exact absurd q2 (by assumption)) (by assumption) (by assumption) | exact raw_3 (by rintro ⟨q1, q2⟩; first | exact absurd q1 (by assumption) | exact absurd q2 (by assumption)) (by rintro ⟨q1, q2⟩; first | exact absurd q1 (by assumption) | exact absurd q2 (by assumption))) (by simp only [*]; first | done | rfl | decide)]; first | done | rfl) (KF.n [])))
theorem spec_l12Name_spec  (w : ByteArray) (d : Bool) : FnSpec Tryz.prog 65 [.str w, .bool d] [] (.int .i64 (nmX d w.data.toList)) [] := by
 refine FnSpec.of 16 Tryz.func65 rfl Tryz.ntmps65 (by simp) (AW.weakK ?_)
 refine AW.q 1 ?_
 refine AW.seq ?_
 refine AW.q 3 ?_
 refine AW.cU (w.size : Int) (1 : Int) (fun h1 => ?_) (fun h1 => ?_)
 · refine AW.q 1 ?_
   refine AW.ret ?_
   refine ⟨_, Sub.refl _ _, ?_⟩
   refine KF.conv (fun w => .int .i64 w) (fun w => []) (show (-1) = (nmX d w.data.toList) from by exact nmX_no (by assumption)) ?_
   exact KF.n []
 refine AW.skip ?_
 refine AW.seq ?_
 refine AW.r ?_
 refine At.a 2 ?_
 by_cases h2 : d = true
 · refine At.sB 9 d true (sayB h2) ?_
   refine At.z 3 ?_
   refine AW.cE (w.toList) ((⟨#[45]⟩ : ByteArray).toList) (fun h3 => ?_) (fun h3 => ?_)
   · refine AW.q 1 ?_
     refine AW.ret ?_
     refine ⟨_, Sub.refl _ _, ?_⟩
     refine KF.conv (fun w => .int .i64 w) (fun w => []) (show (0) = (nmX d w.data.toList) from by exact nmX_dash (by assumption) (by assumption)) ?_
     exact KF.n []
   refine AW.skip ?_
   refine AW.r ?_
   refine At.a 1 ?_
   refine Exists.elim (show ∃ e, w.data[0]? = some e from ⟨_, Array.getElem?_eq_getElem (by show _ < w.size; omega)⟩) fun e1 he1 => ?_
   refine At.idxStr (t := 9) (d := 14) (x := .tmp 13) (y := .const (.int .i64 0)) (s := w) (kd := .i64) (i := 0) e1 (by kernel_rfl) (by kernel_rfl) (by kernel_rfl) (by kernel_rfl) (by omega) he1 ?_
   refine At.conv (s := 5) (t := 3) (d := 15) (x := .tmp 14) (kd := .u8) (kd' := .i64) (a := (e1.toNat : Int)) (.int .i64 (e1.toNat : Int)) (by kernel_rfl) (by kernel_rfl) (by kernel_rfl) (by kernel_rfl) (sayI _ (by have := UInt8.toNat_lt e1; omega)) ?_
   refine At.z 1 ?_
   refine AW.ret ?_
   refine ⟨_, Sub.refl _ _, ?_⟩
   refine KF.conv (fun w => .int .i64 w) (fun w => []) (show ((e1.toNat : Int)) = (nmX d w.data.toList) from by exact nmX_one (by assumption) (by assumption) (by first | exact .inl (by assumption) | exact .inr (by assumption))) ?_
   exact KF.n []
 refine At.sB 9 d false (sayB (Bool.eq_false_iff.2 h2)) ?_
 replace h2 := Bool.eq_false_iff.2 h2
 refine At.z 3 ?_
 refine AW.cond false (by kernel_rfl) (fun h => by cases h) (fun _ => ?_)
 refine AW.skip ?_
 refine AW.r ?_
 refine At.a 1 ?_
 refine Exists.elim (show ∃ e, w.data[0]? = some e from ⟨_, Array.getElem?_eq_getElem (by show _ < w.size; omega)⟩) fun e2 he2 => ?_
 refine At.idxStr (t := 9) (d := 14) (x := .tmp 13) (y := .const (.int .i64 0)) (s := w) (kd := .i64) (i := 0) e2 (by kernel_rfl) (by kernel_rfl) (by kernel_rfl) (by kernel_rfl) (by omega) he2 ?_
 refine At.conv (s := 5) (t := 3) (d := 15) (x := .tmp 14) (kd := .u8) (kd' := .i64) (a := (e2.toNat : Int)) (.int .i64 (e2.toNat : Int)) (by kernel_rfl) (by kernel_rfl) (by kernel_rfl) (by kernel_rfl) (sayI _ (by have := UInt8.toNat_lt e2; omega)) ?_
 refine At.z 1 ?_
 refine AW.ret ?_
 refine ⟨_, Sub.refl _ _, ?_⟩
 refine KF.conv (fun w => .int .i64 w) (fun w => []) (show ((e2.toNat : Int)) = (nmX d w.data.toList) from by exact nmX_one (by assumption) (by assumption) (by first | exact .inl (by assumption) | exact .inr (by assumption))) ?_
 exact KF.n []
def K_spec_l12Rule (rs : List ResultVar) (ws : List ByteArray) (w0_ : Rul) (w1_ : Bool) : Exit → Sg → Prop := KF Tryz.prog 0 rs (.tup [.agg [.int .i64 w0_.name, .int .i64 w0_.from_, .int .i64 w0_.to, .int .i64 w0_.month, .int .i64 w0_.on.kind, .int .i64 w0_.on.day, .int .i64 w0_.on.week, .int .i64 w0_.at_, .int .i64 w0_.save], .bool w1_]) []
theorem spec_l12Rule_spec  (ws : List ByteArray) (hl : ws.length = 8) (hs : ∀ x ∈ ws, x.size ≤ 1048576) : FnSpec Tryz.prog 63 [.sl false 1 (ws.map encS)] [] (.tup [.agg [.int .i64 (((rulQ (wb ws)).1).name), .int .i64 (((rulQ (wb ws)).1).from_), .int .i64 (((rulQ (wb ws)).1).to), .int .i64 (((rulQ (wb ws)).1).month), .int .i64 (((rulQ (wb ws)).1).on.kind), .int .i64 (((rulQ (wb ws)).1).on.day), .int .i64 (((rulQ (wb ws)).1).on.week), .int .i64 (((rulQ (wb ws)).1).at_), .int .i64 (((rulQ (wb ws)).1).save)], .bool ((rulQ (wb ws)).2)]) [] := by
 refine FnSpec.of 69 Tryz.func63 rfl Tryz.ntmps63 (by simp) (AW.weakK ?_)
 refine AW.q 2 ?_
 refine AW.r ?_
 refine At.lit0 (t := 103) (d := 11) (e := 3) (es := 1) (bytes := 8) 111 (by kernel_rfl) (by kernel_rfl) (by kernel_rfl) (by kernel_rfl) ?_
 refine At.z 1 ?_
 refine AW.seq ?_
 refine AW.q 1 ?_
 refine AW.block ?_
 refine AW.loopW (fun (x : Nat × List Int) => match x with | (k, l) => Go.Sy.mk [.sl false 1 (ws.map encS), .un, .ptr 102 0 0, .un, .ref 111, .int .i64 (k : Int)] [(102, .box 43 [.int .i64 0, .int .i64 0, .int .i64 0, .int .i64 0, .int .i64 0, .int .i64 0, .int .i64 0, .int .i64 0, .int .i64 0]), (111, .arr 3 1 (l.map encI))]) (fun (x : Nat × List Int) => match x with | (k, l) => NInv (wb ws) k l) (fun (x : Nat × List Int) => match x with | (k, l) => 8 - k) (2, []) (NInv.start _) (Sub.o [(102, 102), (111, 111)] [true, false, true, false, true, true]) ?_
 rintro ⟨k, l⟩ hN
 have hNl := hN.len
 have hNb := hN.lo
 refine AW.seq ?_
 refine AW.q 2 ?_
 refine AW.cD ((k : Int) < 8) (fun h1 => ?_) (fun h1 => ?_)
 · refine AW.skip ?_
   refine AW.seq ?_
   refine AW.block ?_
   refine AW.r ?_
   refine At.a 2 ?_
   refine At.iSl 46 19 (.tmp 17) (.tmp 18) false 1 (ws.map encS) .i64 (k : Int) 9 (by omega) (by simp only [List.length_map]; omega) ?_
   refine Exists.elim (gE ws k (by omega)) fun e1 he1 => ?_
   have hwe1 := wb_at he1
   have hze1 := hs _ (List.mem_of_getElem? he1)
   refine At.lVp 9 20 (.tmp 19) false 1 (ws.map encS) k 0 false 1 (encS e1) (.str e1) (mapGet he1) ?_
   refine At.c (spec_l12Read_spec  e1 (by assumption)) Tryz.call64 true [] [] [] trivial ?_
   refine At.z 5 ?_
   refine AW.seq ?_
   refine AW.r ?_
   refine At.a 3 ?_
   by_cases h2 : ((rd4 e1.data.toList).2) = true
   · refine At.sB 26 (!((rd4 e1.data.toList).2)) false (sayNF (sayB h2)) ?_
     refine At.z 3 ?_
     refine AW.cond false (by kernel_rfl) (fun h => by cases h) (fun _ => ?_)
     refine AW.skip ?_
     refine AW.g ?_
     refine At.a 2 ?_
     refine At.ll 33 3 1 133 (0, 6) (([(rd4 e1.data.toList).1]).map encI) ?_
     refine At.apK 34 3 1 8 134 111 133 encI l ([(rd4 e1.data.toList).1]) (by simp only [List.length_map, List.length_append, List.length_take, List.length_drop, List.length_replicate, List.length_set, List.length_cons, List.length_nil]; omega) ?_
     refine At.z 1 ?_
     refine AW.g ?_
     refine At.a 2 ?_
     refine At.sI 15 ((k : Int) + 1) (by omega) ?_
     refine At.z 1 ?_
     exact ⟨(k + 1, (l ++ ([(rd4 e1.data.toList).1]))), (by exact hN.next he1 (by assumption) (.inl (by assumption))), (by simp only; omega), Sub.o [(102, 102), (134, 111)] [true, false, true, false, true, true]⟩
   refine At.sB 26 (!((rd4 e1.data.toList).2)) true (sayNT (sayB (Bool.eq_false_iff.2 h2))) ?_
   replace h2 := Bool.eq_false_iff.2 h2
   refine At.z 3 ?_
   refine AW.cU (k : Int) (5 : Int) (fun h3 => ?_) (fun h3 => ?_)
   · refine AW.q 3 ?_
     exact AW.ret (rf (k2 (K_spec_l12Rule _ ws) (show ((⟨0, 0, 0, 0, ⟨0, 0, 0⟩, 0, 0⟩ : Rul)) = ((rulQ (wb ws)).1) from by rw [hN.bad he1 (by assumption) (by assumption) (by assumption)]; first | done | rfl) (show (false) = ((rulQ (wb ws)).2) from by rw [hN.bad he1 (by assumption) (by assumption) (by assumption)]; first | done | rfl) (KF.n [])))
   refine AW.skip ?_
   refine AW.g ?_
   refine At.a 2 ?_
   refine At.ll 33 3 1 133 (0, 6) (([(rd4 e1.data.toList).1]).map encI) ?_
   refine At.apK 34 3 1 8 134 111 133 encI l ([(rd4 e1.data.toList).1]) (by simp only [List.length_map, List.length_append, List.length_take, List.length_drop, List.length_replicate, List.length_set, List.length_cons, List.length_nil]; omega) ?_
   refine At.z 1 ?_
   refine AW.g ?_
   refine At.a 2 ?_
   refine At.sI 15 ((k : Int) + 1) (by omega) ?_
   refine At.z 1 ?_
   exact ⟨(k + 1, (l ++ ([(rd4 e1.data.toList).1]))), (by exact hN.next he1 (by assumption) (.inr (by assumption))), (by simp only; omega), Sub.o [(102, 102), (134, 111)] [true, false, true, false, true, true]⟩
 refine AW.exit ?_
 refine AW.r ?_
 refine At.a 1 ?_
 refine At.iSl 46 37 (.tmp 36) (.const (.int .i64 5)) false 1 (ws.map encS) .i64 5 9 (by omega) (by simp only [List.length_map]; omega) ?_
 refine Exists.elim (gE ws 5 (by omega)) fun e2 he2 => ?_
 have hwe2 := wb_at he2
 have hze2 := hs _ (List.mem_of_getElem? he2)
 refine At.lVp 9 38 (.tmp 37) false 1 (ws.map encS) 5 0 false 1 (encS e2) (.str e2) (mapGet he2) ?_
 refine At.c (spec_OnRead_spec  e2 (by assumption)) Tryz.call80 true [] [] [] trivial ?_
 refine At.z 6 ?_
 refine AW.seq ?_
 refine AW.gD Tryz_mix ?_
 refine At.a 1 ?_
 refine At.iSl 46 43 (.tmp 42) (.const (.int .i64 1)) false 1 (ws.map encS) .i64 1 9 (by omega) (by simp only [List.length_map]; omega) ?_
 refine Exists.elim (gE ws 1 (by omega)) fun e3 he3 => ?_
 have hwe3 := wb_at he3
 have hze3 := hs _ (List.mem_of_getElem? he3)
 refine At.lVp 9 44 (.tmp 43) false 1 (ws.map encS) 1 0 false 1 (encS e3) (.str e3) (mapGet he3) ?_
 refine At.c (spec_l12Name_spec  e3 false ) Tryz.call65 true [] [] [] trivial ?_
 refine At.a 1 ?_
 refine At.iRf 103 47 (.tmp 46) (.const (.int .i64 0)) 111 (l.map encI) .i64 0 3 1 (by omega) (by simp only [List.length_map]; omega) ?_
 refine Exists.elim (gE l 0 (by omega)) fun e4 he4 => ?_
 have hve4 := hN.at he4
 refine At.lEl 3 48 (.tmp 47) 111 3 1 (l.map encI) 0 0 false 1 (encI e4) (.int .i64 e4) (mapGet he4) ?_
 refine At.a 1 ?_
 refine At.iRf 103 50 (.tmp 49) (.const (.int .i64 1)) 111 (l.map encI) .i64 1 3 1 (by omega) (by simp only [List.length_map]; omega) ?_
 refine Exists.elim (gE l 1 (by omega)) fun e5 he5 => ?_
 have hve5 := hN.at he5
 refine At.lEl 3 51 (.tmp 50) 111 3 1 (l.map encI) 1 0 false 1 (encI e5) (.int .i64 e5) (mapGet he5) ?_
 refine At.a 1 ?_
 refine At.iRf 103 53 (.tmp 52) (.const (.int .i64 2)) 111 (l.map encI) .i64 2 3 1 (by omega) (by simp only [List.length_map]; omega) ?_
 refine Exists.elim (gE l 2 (by omega)) fun e6 he6 => ?_
 have hve6 := hN.at he6
 refine At.lEl 3 54 (.tmp 53) 111 3 1 (l.map encI) 2 0 false 1 (encI e6) (.int .i64 e6) (mapGet he6) ?_
 refine At.a 2 ?_
 refine At.iRf 103 57 (.tmp 56) (.const (.int .i64 4)) 111 (l.map encI) .i64 4 3 1 (by omega) (by simp only [List.length_map]; omega) ?_
 refine Exists.elim (gE l 4 (by omega)) fun e7 he7 => ?_
 have hve7 := hN.at he7
 refine At.lEl 3 58 (.tmp 57) 111 3 1 (l.map encI) 4 0 false 1 (encI e7) (.int .i64 e7) (mapGet he7) ?_
 refine At.a 1 ?_
 refine At.iRf 103 60 (.tmp 59) (.const (.int .i64 5)) 111 (l.map encI) .i64 5 3 1 (by omega) (by simp only [List.length_map]; omega) ?_
 refine Exists.elim (gE l 5 (by omega)) fun e8 he8 => ?_
 have hve8 := hN.at he8
 refine At.lEl 3 61 (.tmp 60) 111 3 1 (l.map encI) 5 0 false 1 (encI e8) (.int .i64 e8) (mapGet he8) ?_
 refine At.zD 3 ?_
 refine AW.seq ?_
 refine AW.gD Tryz_mix ?_
 refine At.a 3 ?_
 by_cases h4 : ((onRS e2.data.toList).2) = true
 · refine At.sB 65 ((onRS e2.data.toList).2) true (sayB h4) ?_
   refine At.a 1 ?_
   refine At.c (spec_l12RuleOk_spec  (⟨nmX false e3.data.toList, e4, e5, e6, ((onRS e2.data.toList).1), e7, e8⟩ : Rul) ) Tryz.call28 true [] [] [] trivial ?_
   refine At.zD 3 ?_
   exact AW.ret (rf (k2 (K_spec_l12Rule _ ws) (show ((⟨nmX false e3.data.toList, e4, e5, e6, ((onRS e2.data.toList).1), e7, e8⟩ : Rul)) = ((rulQ (wb ws)).1) from by rw [rulQ_yes (hN.all (by assumption))]; unfold rulS; simp only [Nat.reduceAdd, hwe2, hwe3, hve4, hve5, hve6, hve7, hve8, ← nmX_f, Bool.true_and, Bool.false_and, *]) (show (ruleOk (⟨nmX false e3.data.toList, e4, e5, e6, ((onRS e2.data.toList).1), e7, e8⟩ : Rul)) = ((rulQ (wb ws)).2) from by rw [rulQ_yes (hN.all (by assumption))]; unfold rulS; simp only [Nat.reduceAdd, hwe2, hwe3, hve4, hve5, hve6, hve7, hve8, ← nmX_f, Bool.true_and, Bool.false_and, *]) (KF.n [])))
 refine At.sB 65 ((onRS e2.data.toList).2) false (sayB (Bool.eq_false_iff.2 h4)) ?_
 replace h4 := Bool.eq_false_iff.2 h4
 refine At.zD 5 ?_
 exact AW.ret (rf (k2 (K_spec_l12Rule _ ws) (show ((⟨nmX false e3.data.toList, e4, e5, e6, ((onRS e2.data.toList).1), e7, e8⟩ : Rul)) = ((rulQ (wb ws)).1) from by rw [rulQ_yes (hN.all (by assumption))]; unfold rulS; simp only [Nat.reduceAdd, hwe2, hwe3, hve4, hve5, hve6, hve7, hve8, ← nmX_f, Bool.true_and, Bool.false_and, *]) (show (false) = ((rulQ (wb ws)).2) from by rw [rulQ_yes (hN.all (by assumption))]; unfold rulS; simp only [Nat.reduceAdd, hwe2, hwe3, hve4, hve5, hve6, hve7, hve8, ← nmX_f, Bool.true_and, Bool.false_and, *]) (KF.n [])))
def K_spec_l12Line (rs : List ResultVar) (s : Srce) (l : ByteArray) (w0_ : Srce) (w1_ : Int) : Exit → Sg → Prop := KF Tryz.prog 3 rs (.tup [.agg [.ref 3, .ref 4, .ref 5], .int .i64 w1_]) [.dead, .dead, .dead, .arr 43 9 (w0_.rules.map encRul), .arr 49 3 (w0_.zones.map encZon), .arr 51 2 (w0_.links.map encLnk)]
theorem spec_l12Line_spec  (s : Srce) (l : ByteArray) (hz : (s.rules.length ≤ 1048576 ∧ s.zones.length ≤ 1048576 ∧ s.links.length ≤ 1048576)) (hs : l.size ≤ 1048576) : FnSpec Tryz.prog 34 [.agg [.ref 0, .ref 1, .ref 2], .str l] [.arr 43 9 (s.rules.map encRul), .arr 49 3 (s.zones.map encZon), .arr 51 2 (s.links.map encLnk)] (.tup [.agg [.ref 3, .ref 4, .ref 5], .int .i64 ((lineS s l.data.toList).2)]) [.dead, .dead, .dead, .arr 43 9 ((((lineS s l.data.toList).1).rules).map encRul), .arr 49 3 ((((lineS s l.data.toList).1).zones).map encZon), .arr 51 2 ((((lineS s l.data.toList).1).links).map encLnk)] := by
 have hfw := pcs_few 32 l
 refine FnSpec.of 157 Tryz.func34 rfl Tryz.ntmps34 (by simp) (AW.weakK ?_)
 refine AW.q 3 ?_
 refine AW.seq ?_
 refine AW.weak (Sub.nils [⟨true, 104, some 0, 5001, 43, 9⟩, ⟨true, 104, some 1, 5002, 49, 3⟩, ⟨true, 104, some 2, 5003, 51, 2⟩] (by kernel_rfl)) ?_
 refine AW.g ?_
 refine At.a 1 ?_
 refine At.c (spec_l12Words_spec  l hs) Tryz.call62 true [] [(1280, 0)] [] trivial ?_
 refine At.z 1 ?_
 refine AW.seq ?_
 refine AW.r ?_
 refine At.a 1 ?_
 refine At.iRf 46 16 (.tmp 15) (.const (.int .i64 0)) 1280 ((pcs 32 l).map encS) .i64 0 9 1 (by omega) (by simp only [List.length_map]; omega) ?_
 refine Exists.elim (gE (pcs 32 l) 0 (by omega)) fun e1 he1 => ?_
 have hwe1 := wb_at he1
 have hze1 := Nat.le_trans (pcs_small 32 l _ (List.mem_of_getElem? he1)) hs
 refine At.lEl 9 17 (.tmp 16) 1280 9 1 ((pcs 32 l).map encS) 0 0 false 1 (encS e1) (.str e1) (mapGet he1) ?_
 refine At.done rfl ?_
 refine AW.block ?_
 refine AW.q 2 ?_
 refine AW.cE (e1.toList) ((⟨#[114, 117, 108, 101]⟩ : ByteArray).toList) (fun h1 => ?_) (fun h1 => ?_)
 · refine AW.seq ?_
   refine AW.r ?_
   refine At.a 2 ?_
   refine At.sL 22 encS (pcs 32 l) ?_
   refine At.z 1 ?_
   refine AW.cU ((pcs 32 l).length : Int) (8 : Int) (fun h2 => ?_) (fun h2 => ?_)
   · refine AW.q 3 ?_
     refine AW.ret ?_
     refine ⟨_, (Sub.trans (Sub.trans (Sub.trans (Sub.refl _ _) (Sub.mv 0 8000 (by kernel_rfl) (by decide))) (Sub.mv 1 8001 (by kernel_rfl) (by decide))) (Sub.mv 2 8002 (by kernel_rfl) (by decide))), ?_⟩
     exact k2 (K_spec_l12Line _ s l) (show (s) = ((lineS s l.data.toList).1) from by rw [lineS_is, stepW_r4 ((wb_at he1).trans (seq_is (by assumption))) (by rw [wb_len]; omega)]; first | done | rfl) (show (4) = ((lineS s l.data.toList).2) from by rw [lineS_is, stepW_r4 ((wb_at he1).trans (seq_is (by assumption))) (by rw [wb_len]; omega)]; first | done | rfl) (KF.n [(0, 0), (1, 1), (2, 2), (8000, 3), (8001, 4), (8002, 5)])
   refine AW.skip ?_
   refine AW.r ?_
   refine At.a 1 ?_
   refine At.c (spec_l12Rule_spec  (pcs 32 l) (by omega) (fun x hx => Nat.le_trans (pcs_small 32 l x hx) hs)) Tryz.call63 false [] [] [(1280, 1, ((pcs 32 l).map encS))] ⟨rfl, ⟨9, ((pcs 32 l).map encS), by kernel_rfl, FrzIs.same (allP_encS _)⟩, trivial⟩ ?_
   refine At.z 6 ?_
   refine AW.seq ?_
   refine AW.q 2 ?_
   refine AW.cNB ((rulQ (wb (pcs 32 l))).2) (fun h3 => ?_) (fun h3 => ?_)
   · refine AW.q 3 ?_
     refine AW.ret ?_
     refine ⟨_, (Sub.trans (Sub.trans (Sub.trans (Sub.refl _ _) (Sub.mv 0 8000 (by kernel_rfl) (by decide))) (Sub.mv 1 8001 (by kernel_rfl) (by decide))) (Sub.mv 2 8002 (by kernel_rfl) (by decide))), ?_⟩
     exact k2 (K_spec_l12Line _ s l) (show (s) = ((lineS s l.data.toList).1) from by rw [lineS_is, stepW_rule ((wb_at he1).trans (seq_is (by assumption))) (by rw [wb_len]; omega), stepR_5 (rulQ_f (by assumption))]; first | done | rfl) (show (5) = ((lineS s l.data.toList).2) from by rw [lineS_is, stepW_rule ((wb_at he1).trans (seq_is (by assumption))) (by rw [wb_len]; omega), stepR_5 (rulQ_f (by assumption))]; first | done | rfl) (KF.n [(0, 0), (1, 1), (2, 2), (8000, 3), (8001, 4), (8002, 5)])
   refine AW.skip ?_
   refine AW.seq ?_
   refine AW.r ?_
   refine At.a 3 ?_
   refine At.sL 35 encZon s.zones ?_
   refine At.a 3 ?_
   refine At.sL 38 encLnk s.links ?_
   refine At.a 1 ?_
   refine At.sI 39 ((s.zones.length : Int) + (s.links.length : Int)) (by omega) ?_
   refine At.a 2 ?_
   by_cases h4 : ((s.zones.length : Int) + (s.links.length : Int)) > 0
   · refine At.sB 41 _ _ (sayT h4) ?_
     refine At.z 5 ?_
     refine AW.cond true (by kernel_rfl) (fun _ => ?_) (fun h => by cases h)
     refine AW.q 3 ?_
     refine AW.ret ?_
     refine ⟨_, (Sub.trans (Sub.trans (Sub.trans (Sub.refl _ _) (Sub.mv 0 8000 (by kernel_rfl) (by decide))) (Sub.mv 1 8001 (by kernel_rfl) (by decide))) (Sub.mv 2 8002 (by kernel_rfl) (by decide))), ?_⟩
     exact k2 (K_spec_l12Line _ s l) (show (s) = ((lineS s l.data.toList).1) from by rw [lineS_is, stepW_rule ((wb_at he1).trans (seq_is (by assumption))) (by rw [wb_len]; omega), stepR_6 (rulQ_t (by assumption)) (.inl (by assumption))]; first | done | rfl) (show (6) = ((lineS s l.data.toList).2) from by rw [lineS_is, stepW_rule ((wb_at he1).trans (seq_is (by assumption))) (by rw [wb_len]; omega), stepR_6 (rulQ_t (by assumption)) (.inl (by assumption))]; first | done | rfl) (KF.n [(0, 0), (1, 1), (2, 2), (8000, 3), (8001, 4), (8002, 5)])
   refine At.sB 41 _ _ (sayF h4) ?_
   refine At.a 3 ?_
   refine At.sL 44 encRul s.rules ?_
   refine At.z 2 ?_
   refine AW.cE (s.rules.length : Int) (20 : Int) (fun h5 => ?_) (fun h5 => ?_)
   · refine AW.q 3 ?_
     refine AW.ret ?_
     refine ⟨_, (Sub.trans (Sub.trans (Sub.trans (Sub.refl _ _) (Sub.mv 0 8000 (by kernel_rfl) (by decide))) (Sub.mv 1 8001 (by kernel_rfl) (by decide))) (Sub.mv 2 8002 (by kernel_rfl) (by decide))), ?_⟩
     exact k2 (K_spec_l12Line _ s l) (show (s) = ((lineS s l.data.toList).1) from by rw [lineS_is, stepW_rule ((wb_at he1).trans (seq_is (by assumption))) (by rw [wb_len]; omega), stepR_6 (rulQ_t (by assumption)) (.inr (by assumption))]; first | done | rfl) (show (6) = ((lineS s l.data.toList).2) from by rw [lineS_is, stepW_rule ((wb_at he1).trans (seq_is (by assumption))) (by rw [wb_len]; omega), stepR_6 (rulQ_t (by assumption)) (.inr (by assumption))]; first | done | rfl) (KF.n [(0, 0), (1, 1), (2, 2), (8000, 3), (8001, 4), (8002, 5)])
   refine AW.skip ?_
   refine AW.g ?_
   refine At.a 3 ?_
   refine At.ll 51 43 9 151 (0, 6) (([((rulQ (wb (pcs 32 l))).1)]).map encRul) ?_
   refine At.apK 52 43 9 72 152 0 151 encRul s.rules ([((rulQ (wb (pcs 32 l))).1)]) (by simp only [List.length_map, List.length_append, List.length_take, List.length_drop, List.length_replicate, List.length_set, List.length_cons, List.length_nil]; omega) ?_
   refine At.z 2 ?_
   refine AW.q 3 ?_
   refine AW.ret ?_
   refine ⟨_, (Sub.trans (Sub.trans (Sub.refl _ _) (Sub.mv 1 8001 (by kernel_rfl) (by decide))) (Sub.mv 2 8002 (by kernel_rfl) (by decide))), ?_⟩
   exact k2 (K_spec_l12Line _ s l) (show ((⟨s.rules ++ ([((rulQ (wb (pcs 32 l))).1)]), s.zones, s.links⟩ : Srce)) = ((lineS s l.data.toList).1) from by rw [lineS_is, stepW_rule ((wb_at he1).trans (seq_is (by assumption))) (by rw [wb_len]; omega), stepR_0 (rulQ_t (by assumption)) (by assumption) (by assumption), (rulQ_ok _).2 (rulQ_t (by assumption))]; first | done | rfl) (show (0) = ((lineS s l.data.toList).2) from by rw [lineS_is, stepW_rule ((wb_at he1).trans (seq_is (by assumption))) (by rw [wb_len]; omega), stepR_0 (rulQ_t (by assumption)) (by assumption) (by assumption)]; first | done | rfl) (KF.n [(0, 0), (1, 1), (2, 2), (152, 3), (8001, 4), (8002, 5)])
 refine AW.q 2 ?_
 refine AW.cE (e1.toList) ((⟨#[122, 111, 110, 101]⟩ : ByteArray).toList) (fun h6 => ?_) (fun h6 => ?_)
 · refine AW.seq ?_
   refine AW.r ?_
   refine At.a 2 ?_
   refine At.sL 57 encS (pcs 32 l) ?_
   refine At.z 1 ?_
   refine AW.cU ((pcs 32 l).length : Int) (4 : Int) (fun h7 => ?_) (fun h7 => ?_)
   · refine AW.q 3 ?_
     refine AW.ret ?_
     refine ⟨_, (Sub.trans (Sub.trans (Sub.trans (Sub.refl _ _) (Sub.mv 0 8000 (by kernel_rfl) (by decide))) (Sub.mv 1 8001 (by kernel_rfl) (by decide))) (Sub.mv 2 8002 (by kernel_rfl) (by decide))), ?_⟩
     exact k2 (K_spec_l12Line _ s l) (show (s) = ((lineS s l.data.toList).1) from by rw [lineS_is, stepW_z4 ((wb_at he1).trans (seq_is (by assumption))) (by rw [wb_len]; omega)]; first | done | rfl) (show (4) = ((lineS s l.data.toList).2) from by rw [lineS_is, stepW_z4 ((wb_at he1).trans (seq_is (by assumption))) (by rw [wb_len]; omega)]; first | done | rfl) (KF.n [(0, 0), (1, 1), (2, 2), (8000, 3), (8001, 4), (8002, 5)])
   refine AW.skip ?_
   refine AW.r ?_
   refine At.a 1 ?_
   refine At.iRf 46 62 (.tmp 61) (.const (.int .i64 2)) 1280 ((pcs 32 l).map encS) .i64 2 9 1 (by omega) (by simp only [List.length_map]; omega) ?_
   refine Exists.elim (gE (pcs 32 l) 2 (by omega)) fun e2 he2 => ?_
   have hwe2 := wb_at he2
   have hze2 := Nat.le_trans (pcs_small 32 l _ (List.mem_of_getElem? he2)) hs
   refine At.lEl 9 63 (.tmp 62) 1280 9 1 ((pcs 32 l).map encS) 2 0 false 1 (encS e2) (.str e2) (mapGet he2) ?_
   refine At.c (spec_l12Read_spec  e2 (by assumption)) Tryz.call64 true [] [] [] trivial ?_
   refine At.z 5 ?_
   refine AW.seq ?_
   refine AW.gD Tryz_mix ?_
   refine At.a 1 ?_
   refine At.iRf 46 68 (.tmp 67) (.const (.int .i64 1)) 1280 ((pcs 32 l).map encS) .i64 1 9 1 (by omega) (by simp only [List.length_map]; omega) ?_
   refine Exists.elim (gE (pcs 32 l) 1 (by omega)) fun e3 he3 => ?_
   have hwe3 := wb_at he3
   have hze3 := Nat.le_trans (pcs_small 32 l _ (List.mem_of_getElem? he3)) hs
   refine At.lEl 9 69 (.tmp 68) 1280 9 1 ((pcs 32 l).map encS) 1 0 false 1 (encS e3) (.str e3) (mapGet he3) ?_
   refine At.c (spec_l12Name_spec  e3 false ) Tryz.call65 true [] [] [] trivial ?_
   refine At.a 2 ?_
   refine At.iRf 46 73 (.tmp 72) (.const (.int .i64 3)) 1280 ((pcs 32 l).map encS) .i64 3 9 1 (by omega) (by simp only [List.length_map]; omega) ?_
   refine Exists.elim (gE (pcs 32 l) 3 (by omega)) fun e4 he4 => ?_
   have hwe4 := wb_at he4
   have hze4 := Nat.le_trans (pcs_small 32 l _ (List.mem_of_getElem? he4)) hs
   refine At.lEl 9 74 (.tmp 73) 1280 9 1 ((pcs 32 l).map encS) 3 0 false 1 (encS e4) (.str e4) (mapGet he4) ?_
   refine At.c (spec_l12Name_spec  e4 true ) Tryz.call65 true [] [] [] trivial ?_
   have hZ := zS_is hwe3 hwe2 hwe4
   refine At.zD 3 ?_
   refine AW.seq ?_
   refine AW.r ?_
   refine At.a 3 ?_
   by_cases h8 : ((rd4 e2.data.toList).2) = true
   · refine At.sB 79 (!((rd4 e2.data.toList).2)) false (sayNF (sayB h8)) ?_
     refine At.a 2 ?_
     refine At.c (spec_l12Great_spec  (nmX false e3.data.toList) ) Tryz.call53 true [] [] [] trivial ?_
     refine At.a 3 ?_
     by_cases h9 : (inR (nmX false e3.data.toList) 65 90) = true
     · refine At.sB 85 (!(inR (nmX false e3.data.toList) 65 90)) false (sayNF (sayB h9)) ?_
       have h9i := inR_iff.1 h9
       refine At.a 1 ?_
       refine At.c (spec_l1In_spec  ((rd4 e2.data.toList).1) (-900) 900 ) Tryz.call52 true [] [] [] trivial ?_
       refine At.a 3 ?_
       by_cases h10 : (inR ((rd4 e2.data.toList).1) (-900) 900) = true
       · refine At.sB 90 (!(inR ((rd4 e2.data.toList).1) (-900) 900)) false (sayNF (sayB h10)) ?_
         have h10i := inR_iff.1 h10
         refine At.a 4 ?_
         by_cases h11 : nmX true e4.data.toList = 0
         · refine At.sB 94 _ _ (sayUF h11) ?_
           refine At.z 6 ?_
           refine AW.cond false (by kernel_rfl) (fun h => by cases h) (fun _ => ?_)
           refine AW.skip ?_
           refine AW.seq ?_
           refine AW.r ?_
           refine At.a 3 ?_
           refine At.sL 104 encLnk s.links ?_
           refine At.a 2 ?_
           by_cases h12 : (s.links.length : Int) > 0
           · refine At.sB 106 _ _ (sayT h12) ?_
             refine At.z 5 ?_
             refine AW.cond true (by kernel_rfl) (fun _ => ?_) (fun h => by cases h)
             refine AW.q 3 ?_
             refine AW.ret ?_
             refine ⟨_, (Sub.trans (Sub.trans (Sub.trans (Sub.refl _ _) (Sub.mv 0 8000 (by kernel_rfl) (by decide))) (Sub.mv 1 8001 (by kernel_rfl) (by decide))) (Sub.mv 2 8002 (by kernel_rfl) (by decide))), ?_⟩
             exact k2 (K_spec_l12Line _ s l) (show (s) = ((lineS s l.data.toList).1) from by rw [lineS_is, stepW_zone ((wb_at he1).trans (seq_is (by assumption))) (by rw [wb_len]; omega), stepZ_6 (zonOkS_t (by rw [hwe2]; assumption) (by rw [hZ]; assumption) (by rw [hZ]; assumption) (by rw [hZ]; first | exact .inl (by assumption) | exact .inr (by assumption))) (.inl (by assumption))]; first | done | rfl) (show (6) = ((lineS s l.data.toList).2) from by rw [lineS_is, stepW_zone ((wb_at he1).trans (seq_is (by assumption))) (by rw [wb_len]; omega), stepZ_6 (zonOkS_t (by rw [hwe2]; assumption) (by rw [hZ]; assumption) (by rw [hZ]; assumption) (by rw [hZ]; first | exact .inl (by assumption) | exact .inr (by assumption))) (.inl (by assumption))]; first | done | rfl) (KF.n [(0, 0), (1, 1), (2, 2), (8000, 3), (8001, 4), (8002, 5)])
           refine At.sB 106 _ _ (sayF h12) ?_
           refine At.a 2 ?_
           refine At.c (spec_l12Zone_spec  s (⟨nmX false e3.data.toList, (rd4 e2.data.toList).1, nmX true e4.data.toList⟩ : Zon) hz) Tryz.call29 false [] [] [(0, 9, (s.rules.map encRul)), (1, 3, (s.zones.map encZon)), (2, 2, (s.links.map encLnk))] ⟨rfl, ⟨43, (s.rules.map encRul), by kernel_rfl, FrzIs.same (allP_encRul _)⟩, rfl, ⟨49, (s.zones.map encZon), by kernel_rfl, FrzIs.same (allP_encZon _)⟩, rfl, ⟨51, (s.links.map encLnk), by kernel_rfl, FrzIs.same (allP_encLnk _)⟩, trivial⟩ ?_
           refine At.z 2 ?_
           refine AW.cNB (zone1 s.rules (lastZ s.zones) (⟨nmX false e3.data.toList, (rd4 e2.data.toList).1, nmX true e4.data.toList⟩ : Zon)) (fun h13 => ?_) (fun h13 => ?_)
           · refine AW.q 3 ?_
             refine AW.ret ?_
             refine ⟨_, (Sub.trans (Sub.trans (Sub.trans (Sub.refl _ _) (Sub.mv 0 8000 (by kernel_rfl) (by decide))) (Sub.mv 1 8001 (by kernel_rfl) (by decide))) (Sub.mv 2 8002 (by kernel_rfl) (by decide))), ?_⟩
             exact k2 (K_spec_l12Line _ s l) (show (s) = ((lineS s l.data.toList).1) from by rw [lineS_is, stepW_zone ((wb_at he1).trans (seq_is (by assumption))) (by rw [wb_len]; omega), stepZ_6 (zonOkS_t (by rw [hwe2]; assumption) (by rw [hZ]; assumption) (by rw [hZ]; assumption) (by rw [hZ]; first | exact .inl (by assumption) | exact .inr (by assumption))) (.inr (by rw [hZ]; assumption))]; first | done | rfl) (show (6) = ((lineS s l.data.toList).2) from by rw [lineS_is, stepW_zone ((wb_at he1).trans (seq_is (by assumption))) (by rw [wb_len]; omega), stepZ_6 (zonOkS_t (by rw [hwe2]; assumption) (by rw [hZ]; assumption) (by rw [hZ]; assumption) (by rw [hZ]; first | exact .inl (by assumption) | exact .inr (by assumption))) (.inr (by rw [hZ]; assumption))]; first | done | rfl) (KF.n [(0, 0), (1, 1), (2, 2), (8000, 3), (8001, 4), (8002, 5)])
           refine AW.skip ?_
           refine AW.g ?_
           refine At.a 3 ?_
           refine At.ll 116 49 3 216 (0, 6) (([(⟨nmX false e3.data.toList, (rd4 e2.data.toList).1, nmX true e4.data.toList⟩ : Zon)]).map encZon) ?_
           refine At.apK 117 49 3 24 217 1 216 encZon s.zones ([(⟨nmX false e3.data.toList, (rd4 e2.data.toList).1, nmX true e4.data.toList⟩ : Zon)]) (by simp only [List.length_map, List.length_append, List.length_take, List.length_drop, List.length_replicate, List.length_set, List.length_cons, List.length_nil]; omega) ?_
           refine At.z 2 ?_
           refine AW.q 3 ?_
           refine AW.ret ?_
           refine ⟨_, (Sub.trans (Sub.trans (Sub.refl _ _) (Sub.mv 0 8000 (by kernel_rfl) (by decide))) (Sub.mv 2 8002 (by kernel_rfl) (by decide))), ?_⟩
           exact k2 (K_spec_l12Line _ s l) (show ((⟨s.rules, s.zones ++ ([(⟨nmX false e3.data.toList, (rd4 e2.data.toList).1, nmX true e4.data.toList⟩ : Zon)]), s.links⟩ : Srce)) = ((lineS s l.data.toList).1) from by rw [lineS_is, stepW_zone ((wb_at he1).trans (seq_is (by assumption))) (by rw [wb_len]; omega), stepZ_0 (zonOkS_t (by rw [hwe2]; assumption) (by rw [hZ]; assumption) (by rw [hZ]; assumption) (by rw [hZ]; first | exact .inl (by assumption) | exact .inr (by assumption))) (by assumption) (by rw [hZ]; assumption), hZ]; first | done | rfl) (show (0) = ((lineS s l.data.toList).2) from by rw [lineS_is, stepW_zone ((wb_at he1).trans (seq_is (by assumption))) (by rw [wb_len]; omega), stepZ_0 (zonOkS_t (by rw [hwe2]; assumption) (by rw [hZ]; assumption) (by rw [hZ]; assumption) (by rw [hZ]; first | exact .inl (by assumption) | exact .inr (by assumption))) (by assumption) (by rw [hZ]; assumption), hZ]; first | done | rfl) (KF.n [(0, 0), (1, 1), (2, 2), (8000, 3), (217, 4), (8002, 5)])
         refine At.sB 94 _ _ (sayUT h11) ?_
         refine At.a 2 ?_
         refine At.c (spec_l12Small_spec  (nmX true e4.data.toList) ) Tryz.call50 true [] [] [] trivial ?_
         refine At.z 3 ?_
         refine AW.cNB (inR (nmX true e4.data.toList) 97 122) (fun h14 => ?_) (fun h14 => ?_)
         · refine AW.q 3 ?_
           refine AW.ret ?_
           refine ⟨_, (Sub.trans (Sub.trans (Sub.trans (Sub.refl _ _) (Sub.mv 0 8000 (by kernel_rfl) (by decide))) (Sub.mv 1 8001 (by kernel_rfl) (by decide))) (Sub.mv 2 8002 (by kernel_rfl) (by decide))), ?_⟩
           exact k2 (K_spec_l12Line _ s l) (show (s) = ((lineS s l.data.toList).1) from by rw [lineS_is, stepW_zone ((wb_at he1).trans (seq_is (by assumption))) (by rw [wb_len]; omega), stepZ_5 (zonOkS_4 (by rw [hZ]; assumption) (by rw [hZ]; assumption))]; first | done | rfl) (show (5) = ((lineS s l.data.toList).2) from by rw [lineS_is, stepW_zone ((wb_at he1).trans (seq_is (by assumption))) (by rw [wb_len]; omega), stepZ_5 (zonOkS_4 (by rw [hZ]; assumption) (by rw [hZ]; assumption))]; first | done | rfl) (KF.n [(0, 0), (1, 1), (2, 2), (8000, 3), (8001, 4), (8002, 5)])
         have h14i := inR_iff.1 h14
         refine AW.skip ?_
         refine AW.seq ?_
         refine AW.r ?_
         refine At.a 3 ?_
         refine At.sL 104 encLnk s.links ?_
         refine At.a 2 ?_
         by_cases h15 : (s.links.length : Int) > 0
         · refine At.sB 106 _ _ (sayT h15) ?_
           refine At.z 5 ?_
           refine AW.cond true (by kernel_rfl) (fun _ => ?_) (fun h => by cases h)
           refine AW.q 3 ?_
           refine AW.ret ?_
           refine ⟨_, (Sub.trans (Sub.trans (Sub.trans (Sub.refl _ _) (Sub.mv 0 8000 (by kernel_rfl) (by decide))) (Sub.mv 1 8001 (by kernel_rfl) (by decide))) (Sub.mv 2 8002 (by kernel_rfl) (by decide))), ?_⟩
           exact k2 (K_spec_l12Line _ s l) (show (s) = ((lineS s l.data.toList).1) from by rw [lineS_is, stepW_zone ((wb_at he1).trans (seq_is (by assumption))) (by rw [wb_len]; omega), stepZ_6 (zonOkS_t (by rw [hwe2]; assumption) (by rw [hZ]; assumption) (by rw [hZ]; assumption) (by rw [hZ]; first | exact .inl (by assumption) | exact .inr (by assumption))) (.inl (by assumption))]; first | done | rfl) (show (6) = ((lineS s l.data.toList).2) from by rw [lineS_is, stepW_zone ((wb_at he1).trans (seq_is (by assumption))) (by rw [wb_len]; omega), stepZ_6 (zonOkS_t (by rw [hwe2]; assumption) (by rw [hZ]; assumption) (by rw [hZ]; assumption) (by rw [hZ]; first | exact .inl (by assumption) | exact .inr (by assumption))) (.inl (by assumption))]; first | done | rfl) (KF.n [(0, 0), (1, 1), (2, 2), (8000, 3), (8001, 4), (8002, 5)])
         refine At.sB 106 _ _ (sayF h15) ?_
         refine At.a 2 ?_
         refine At.c (spec_l12Zone_spec  s (⟨nmX false e3.data.toList, (rd4 e2.data.toList).1, nmX true e4.data.toList⟩ : Zon) hz) Tryz.call29 false [] [] [(0, 9, (s.rules.map encRul)), (1, 3, (s.zones.map encZon)), (2, 2, (s.links.map encLnk))] ⟨rfl, ⟨43, (s.rules.map encRul), by kernel_rfl, FrzIs.same (allP_encRul _)⟩, rfl, ⟨49, (s.zones.map encZon), by kernel_rfl, FrzIs.same (allP_encZon _)⟩, rfl, ⟨51, (s.links.map encLnk), by kernel_rfl, FrzIs.same (allP_encLnk _)⟩, trivial⟩ ?_
         refine At.z 2 ?_
         refine AW.cNB (zone1 s.rules (lastZ s.zones) (⟨nmX false e3.data.toList, (rd4 e2.data.toList).1, nmX true e4.data.toList⟩ : Zon)) (fun h16 => ?_) (fun h16 => ?_)
         · refine AW.q 3 ?_
           refine AW.ret ?_
           refine ⟨_, (Sub.trans (Sub.trans (Sub.trans (Sub.refl _ _) (Sub.mv 0 8000 (by kernel_rfl) (by decide))) (Sub.mv 1 8001 (by kernel_rfl) (by decide))) (Sub.mv 2 8002 (by kernel_rfl) (by decide))), ?_⟩
           exact k2 (K_spec_l12Line _ s l) (show (s) = ((lineS s l.data.toList).1) from by rw [lineS_is, stepW_zone ((wb_at he1).trans (seq_is (by assumption))) (by rw [wb_len]; omega), stepZ_6 (zonOkS_t (by rw [hwe2]; assumption) (by rw [hZ]; assumption) (by rw [hZ]; assumption) (by rw [hZ]; first | exact .inl (by assumption) | exact .inr (by assumption))) (.inr (by rw [hZ]; assumption))]; first | done | rfl) (show (6) = ((lineS s l.data.toList).2) from by rw [lineS_is, stepW_zone ((wb_at he1).trans (seq_is (by assumption))) (by rw [wb_len]; omega), stepZ_6 (zonOkS_t (by rw [hwe2]; assumption) (by rw [hZ]; assumption) (by rw [hZ]; assumption) (by rw [hZ]; first | exact .inl (by assumption) | exact .inr (by assumption))) (.inr (by rw [hZ]; assumption))]; first | done | rfl) (KF.n [(0, 0), (1, 1), (2, 2), (8000, 3), (8001, 4), (8002, 5)])
         refine AW.skip ?_
         refine AW.g ?_
         refine At.a 3 ?_
         refine At.ll 116 49 3 216 (0, 6) (([(⟨nmX false e3.data.toList, (rd4 e2.data.toList).1, nmX true e4.data.toList⟩ : Zon)]).map encZon) ?_
         refine At.apK 117 49 3 24 217 1 216 encZon s.zones ([(⟨nmX false e3.data.toList, (rd4 e2.data.toList).1, nmX true e4.data.toList⟩ : Zon)]) (by simp only [List.length_map, List.length_append, List.length_take, List.length_drop, List.length_replicate, List.length_set, List.length_cons, List.length_nil]; omega) ?_
         refine At.z 2 ?_
         refine AW.q 3 ?_
         refine AW.ret ?_
         refine ⟨_, (Sub.trans (Sub.trans (Sub.refl _ _) (Sub.mv 0 8000 (by kernel_rfl) (by decide))) (Sub.mv 2 8002 (by kernel_rfl) (by decide))), ?_⟩
         exact k2 (K_spec_l12Line _ s l) (show ((⟨s.rules, s.zones ++ ([(⟨nmX false e3.data.toList, (rd4 e2.data.toList).1, nmX true e4.data.toList⟩ : Zon)]), s.links⟩ : Srce)) = ((lineS s l.data.toList).1) from by rw [lineS_is, stepW_zone ((wb_at he1).trans (seq_is (by assumption))) (by rw [wb_len]; omega), stepZ_0 (zonOkS_t (by rw [hwe2]; assumption) (by rw [hZ]; assumption) (by rw [hZ]; assumption) (by rw [hZ]; first | exact .inl (by assumption) | exact .inr (by assumption))) (by assumption) (by rw [hZ]; assumption), hZ]; first | done | rfl) (show (0) = ((lineS s l.data.toList).2) from by rw [lineS_is, stepW_zone ((wb_at he1).trans (seq_is (by assumption))) (by rw [wb_len]; omega), stepZ_0 (zonOkS_t (by rw [hwe2]; assumption) (by rw [hZ]; assumption) (by rw [hZ]; assumption) (by rw [hZ]; first | exact .inl (by assumption) | exact .inr (by assumption))) (by assumption) (by rw [hZ]; assumption), hZ]; first | done | rfl) (KF.n [(0, 0), (1, 1), (2, 2), (8000, 3), (217, 4), (8002, 5)])
       refine At.sB 90 (!(inR ((rd4 e2.data.toList).1) (-900) 900)) true (sayNT (sayB (Bool.eq_false_iff.2 h10))) ?_
       replace h10 := Bool.eq_false_iff.2 h10
       refine At.z 10 ?_
       refine AW.cond true (by kernel_rfl) (fun _ => ?_) (fun h => by cases h)
       refine AW.q 3 ?_
       refine AW.ret ?_
       refine ⟨_, (Sub.trans (Sub.trans (Sub.trans (Sub.refl _ _) (Sub.mv 0 8000 (by kernel_rfl) (by decide))) (Sub.mv 1 8001 (by kernel_rfl) (by decide))) (Sub.mv 2 8002 (by kernel_rfl) (by decide))), ?_⟩
       exact k2 (K_spec_l12Line _ s l) (show (s) = ((lineS s l.data.toList).1) from by rw [lineS_is, stepW_zone ((wb_at he1).trans (seq_is (by assumption))) (by rw [wb_len]; omega), stepZ_5 (zonOkS_3 (by rw [hZ]; assumption))]; first | done | rfl) (show (5) = ((lineS s l.data.toList).2) from by rw [lineS_is, stepW_zone ((wb_at he1).trans (seq_is (by assumption))) (by rw [wb_len]; omega), stepZ_5 (zonOkS_3 (by rw [hZ]; assumption))]; first | done | rfl) (KF.n [(0, 0), (1, 1), (2, 2), (8000, 3), (8001, 4), (8002, 5)])
     refine At.sB 85 (!(inR (nmX false e3.data.toList) 65 90)) true (sayNT (sayB (Bool.eq_false_iff.2 h9))) ?_
     replace h9 := Bool.eq_false_iff.2 h9
     refine At.z 15 ?_
     refine AW.cond true (by kernel_rfl) (fun _ => ?_) (fun h => by cases h)
     refine AW.q 3 ?_
     refine AW.ret ?_
     refine ⟨_, (Sub.trans (Sub.trans (Sub.trans (Sub.refl _ _) (Sub.mv 0 8000 (by kernel_rfl) (by decide))) (Sub.mv 1 8001 (by kernel_rfl) (by decide))) (Sub.mv 2 8002 (by kernel_rfl) (by decide))), ?_⟩
     exact k2 (K_spec_l12Line _ s l) (show (s) = ((lineS s l.data.toList).1) from by rw [lineS_is, stepW_zone ((wb_at he1).trans (seq_is (by assumption))) (by rw [wb_len]; omega), stepZ_5 (zonOkS_2 (by rw [hZ]; assumption))]; first | done | rfl) (show (5) = ((lineS s l.data.toList).2) from by rw [lineS_is, stepW_zone ((wb_at he1).trans (seq_is (by assumption))) (by rw [wb_len]; omega), stepZ_5 (zonOkS_2 (by rw [hZ]; assumption))]; first | done | rfl) (KF.n [(0, 0), (1, 1), (2, 2), (8000, 3), (8001, 4), (8002, 5)])
   refine At.sB 79 (!((rd4 e2.data.toList).2)) true (sayNT (sayB (Bool.eq_false_iff.2 h8))) ?_
   replace h8 := Bool.eq_false_iff.2 h8
   refine At.z 21 ?_
   refine AW.cond true (by kernel_rfl) (fun _ => ?_) (fun h => by cases h)
   refine AW.q 3 ?_
   refine AW.ret ?_
   refine ⟨_, (Sub.trans (Sub.trans (Sub.trans (Sub.refl _ _) (Sub.mv 0 8000 (by kernel_rfl) (by decide))) (Sub.mv 1 8001 (by kernel_rfl) (by decide))) (Sub.mv 2 8002 (by kernel_rfl) (by decide))), ?_⟩
   exact k2 (K_spec_l12Line _ s l) (show (s) = ((lineS s l.data.toList).1) from by rw [lineS_is, stepW_zone ((wb_at he1).trans (seq_is (by assumption))) (by rw [wb_len]; omega), stepZ_5 (zonOkS_1 (by rw [hwe2]; assumption))]; first | done | rfl) (show (5) = ((lineS s l.data.toList).2) from by rw [lineS_is, stepW_zone ((wb_at he1).trans (seq_is (by assumption))) (by rw [wb_len]; omega), stepZ_5 (zonOkS_1 (by rw [hwe2]; assumption))]; first | done | rfl) (KF.n [(0, 0), (1, 1), (2, 2), (8000, 3), (8001, 4), (8002, 5)])
 refine AW.q 2 ?_
 refine AW.cE (e1.toList) ((⟨#[108, 105, 110, 107]⟩ : ByteArray).toList) (fun h17 => ?_) (fun h17 => ?_)
 · refine AW.seq ?_
   refine AW.r ?_
   refine At.a 2 ?_
   refine At.sL 122 encS (pcs 32 l) ?_
   refine At.z 1 ?_
   refine AW.cU ((pcs 32 l).length : Int) (3 : Int) (fun h18 => ?_) (fun h18 => ?_)
   · refine AW.q 3 ?_
     refine AW.ret ?_
     refine ⟨_, (Sub.trans (Sub.trans (Sub.trans (Sub.refl _ _) (Sub.mv 0 8000 (by kernel_rfl) (by decide))) (Sub.mv 1 8001 (by kernel_rfl) (by decide))) (Sub.mv 2 8002 (by kernel_rfl) (by decide))), ?_⟩
     exact k2 (K_spec_l12Line _ s l) (show (s) = ((lineS s l.data.toList).1) from by rw [lineS_is, stepW_l4 ((wb_at he1).trans (seq_is (by assumption))) (by rw [wb_len]; omega)]; first | done | rfl) (show (4) = ((lineS s l.data.toList).2) from by rw [lineS_is, stepW_l4 ((wb_at he1).trans (seq_is (by assumption))) (by rw [wb_len]; omega)]; first | done | rfl) (KF.n [(0, 0), (1, 1), (2, 2), (8000, 3), (8001, 4), (8002, 5)])
   refine AW.skip ?_
   refine AW.seq ?_
   refine AW.gD Tryz_mix ?_
   refine At.a 1 ?_
   refine At.iRf 46 126 (.tmp 125) (.const (.int .i64 1)) 1280 ((pcs 32 l).map encS) .i64 1 9 1 (by omega) (by simp only [List.length_map]; omega) ?_
   refine Exists.elim (gE (pcs 32 l) 1 (by omega)) fun e5 he5 => ?_
   have hwe5 := wb_at he5
   have hze5 := Nat.le_trans (pcs_small 32 l _ (List.mem_of_getElem? he5)) hs
   refine At.lEl 9 127 (.tmp 126) 1280 9 1 ((pcs 32 l).map encS) 1 0 false 1 (encS e5) (.str e5) (mapGet he5) ?_
   refine At.c (spec_l12Name_spec  e5 false ) Tryz.call65 true [] [] [] trivial ?_
   refine At.a 1 ?_
   refine At.iRf 46 130 (.tmp 129) (.const (.int .i64 2)) 1280 ((pcs 32 l).map encS) .i64 2 9 1 (by omega) (by simp only [List.length_map]; omega) ?_
   refine Exists.elim (gE (pcs 32 l) 2 (by omega)) fun e6 he6 => ?_
   have hwe6 := wb_at he6
   have hze6 := Nat.le_trans (pcs_small 32 l _ (List.mem_of_getElem? he6)) hs
   refine At.lEl 9 131 (.tmp 130) 1280 9 1 ((pcs 32 l).map encS) 2 0 false 1 (encS e6) (.str e6) (mapGet he6) ?_
   refine At.c (spec_l12Name_spec  e6 false ) Tryz.call65 true [] [] [] trivial ?_
   refine At.zD 3 ?_
   refine AW.seq ?_
   refine AW.r ?_
   refine At.a 2 ?_
   refine At.c (spec_l12Great_spec  (nmX false e5.data.toList) ) Tryz.call53 true [] [] [] trivial ?_
   refine At.a 2 ?_
   by_cases h19 : (inR (nmX false e5.data.toList) 65 90) = true
   · refine At.sB 138 (!(inR (nmX false e5.data.toList) 65 90)) false (sayNF (sayB h19)) ?_
     have h19i := inR_iff.1 h19
     refine At.a 2 ?_
     refine At.c (spec_l12Great_spec  (nmX false e6.data.toList) ) Tryz.call53 true [] [] [] trivial ?_
     refine At.z 2 ?_
     refine AW.cNB (inR (nmX false e6.data.toList) 65 90) (fun h20 => ?_) (fun h20 => ?_)
     · refine AW.q 3 ?_
       refine AW.ret ?_
       refine ⟨_, (Sub.trans (Sub.trans (Sub.trans (Sub.refl _ _) (Sub.mv 0 8000 (by kernel_rfl) (by decide))) (Sub.mv 1 8001 (by kernel_rfl) (by decide))) (Sub.mv 2 8002 (by kernel_rfl) (by decide))), ?_⟩
       exact k2 (K_spec_l12Line _ s l) (show (s) = ((lineS s l.data.toList).1) from by rw [lineS_is, stepW_link ((wb_at he1).trans (seq_is (by assumption))) (by rw [wb_len]; omega), stepL_5 (lS_2 hwe6 (by assumption))]; first | done | rfl) (show (5) = ((lineS s l.data.toList).2) from by rw [lineS_is, stepW_link ((wb_at he1).trans (seq_is (by assumption))) (by rw [wb_len]; omega), stepL_5 (lS_2 hwe6 (by assumption))]; first | done | rfl) (KF.n [(0, 0), (1, 1), (2, 2), (8000, 3), (8001, 4), (8002, 5)])
     have h20i := inR_iff.1 h20
     refine AW.skip ?_
     refine AW.seq ?_
     refine AW.r ?_
     refine At.a 2 ?_
     refine At.c (spec_l12Link_spec  s (⟨nmX false e5.data.toList, nmX false e6.data.toList⟩ : Lnk) hz) Tryz.call30 false [] [] [(0, 9, (s.rules.map encRul)), (1, 3, (s.zones.map encZon)), (2, 2, (s.links.map encLnk))] ⟨rfl, ⟨43, (s.rules.map encRul), by kernel_rfl, FrzIs.same (allP_encRul _)⟩, rfl, ⟨49, (s.zones.map encZon), by kernel_rfl, FrzIs.same (allP_encZon _)⟩, rfl, ⟨51, (s.links.map encLnk), by kernel_rfl, FrzIs.same (allP_encLnk _)⟩, trivial⟩ ?_
     refine At.z 1 ?_
     refine AW.cNB (link1 s.zones (lastL s.links) (⟨nmX false e5.data.toList, nmX false e6.data.toList⟩ : Lnk)) (fun h21 => ?_) (fun h21 => ?_)
     · refine AW.q 3 ?_
       refine AW.ret ?_
       refine ⟨_, (Sub.trans (Sub.trans (Sub.trans (Sub.refl _ _) (Sub.mv 0 8000 (by kernel_rfl) (by decide))) (Sub.mv 1 8001 (by kernel_rfl) (by decide))) (Sub.mv 2 8002 (by kernel_rfl) (by decide))), ?_⟩
       exact k2 (K_spec_l12Line _ s l) (show (s) = ((lineS s l.data.toList).1) from by rw [lineS_is, stepW_link ((wb_at he1).trans (seq_is (by assumption))) (by rw [wb_len]; omega), stepL_6 (lS_t hwe5 hwe6 (by assumption) (by assumption)) (by rw [lS_is hwe5 hwe6 (by assumption) (by assumption)]; assumption)]; first | done | rfl) (show (6) = ((lineS s l.data.toList).2) from by rw [lineS_is, stepW_link ((wb_at he1).trans (seq_is (by assumption))) (by rw [wb_len]; omega), stepL_6 (lS_t hwe5 hwe6 (by assumption) (by assumption)) (by rw [lS_is hwe5 hwe6 (by assumption) (by assumption)]; assumption)]; first | done | rfl) (KF.n [(0, 0), (1, 1), (2, 2), (8000, 3), (8001, 4), (8002, 5)])
     refine AW.skip ?_
     refine AW.g ?_
     refine At.a 3 ?_
     refine At.ll 153 51 2 253 (0, 6) (([(⟨nmX false e5.data.toList, nmX false e6.data.toList⟩ : Lnk)]).map encLnk) ?_
     refine At.apK 154 51 2 16 254 2 253 encLnk s.links ([(⟨nmX false e5.data.toList, nmX false e6.data.toList⟩ : Lnk)]) (by simp only [List.length_map, List.length_append, List.length_take, List.length_drop, List.length_replicate, List.length_set, List.length_cons, List.length_nil]; omega) ?_
     refine At.z 2 ?_
     refine AW.q 3 ?_
     refine AW.ret ?_
     refine ⟨_, (Sub.trans (Sub.trans (Sub.refl _ _) (Sub.mv 0 8000 (by kernel_rfl) (by decide))) (Sub.mv 1 8001 (by kernel_rfl) (by decide))), ?_⟩
     exact k2 (K_spec_l12Line _ s l) (show ((⟨s.rules, s.zones, s.links ++ ([(⟨nmX false e5.data.toList, nmX false e6.data.toList⟩ : Lnk)])⟩ : Srce)) = ((lineS s l.data.toList).1) from by rw [lineS_is, stepW_link ((wb_at he1).trans (seq_is (by assumption))) (by rw [wb_len]; omega), stepL_0 (lS_t hwe5 hwe6 (by assumption) (by assumption)) (by rw [lS_is hwe5 hwe6 (by assumption) (by assumption)]; assumption), lS_is hwe5 hwe6 (by assumption) (by assumption)]; first | done | rfl) (show (0) = ((lineS s l.data.toList).2) from by rw [lineS_is, stepW_link ((wb_at he1).trans (seq_is (by assumption))) (by rw [wb_len]; omega), stepL_0 (lS_t hwe5 hwe6 (by assumption) (by assumption)) (by rw [lS_is hwe5 hwe6 (by assumption) (by assumption)]; assumption), lS_is hwe5 hwe6 (by assumption) (by assumption)]; first | done | rfl) (KF.n [(0, 0), (1, 1), (2, 2), (8000, 3), (8001, 4), (254, 5)])
   refine At.sB 138 (!(inR (nmX false e5.data.toList) 65 90)) true (sayNT (sayB (Bool.eq_false_iff.2 h19))) ?_
   replace h19 := Bool.eq_false_iff.2 h19
   refine At.z 5 ?_
   refine AW.cond true (by kernel_rfl) (fun _ => ?_) (fun h => by cases h)
   refine AW.q 3 ?_
   refine AW.ret ?_
   refine ⟨_, (Sub.trans (Sub.trans (Sub.trans (Sub.refl _ _) (Sub.mv 0 8000 (by kernel_rfl) (by decide))) (Sub.mv 1 8001 (by kernel_rfl) (by decide))) (Sub.mv 2 8002 (by kernel_rfl) (by decide))), ?_⟩
   exact k2 (K_spec_l12Line _ s l) (show (s) = ((lineS s l.data.toList).1) from by rw [lineS_is, stepW_link ((wb_at he1).trans (seq_is (by assumption))) (by rw [wb_len]; omega), stepL_5 (lS_1 hwe5 (by assumption))]; first | done | rfl) (show (5) = ((lineS s l.data.toList).2) from by rw [lineS_is, stepW_link ((wb_at he1).trans (seq_is (by assumption))) (by rw [wb_len]; omega), stepL_5 (lS_1 hwe5 (by assumption))]; first | done | rfl) (KF.n [(0, 0), (1, 1), (2, 2), (8000, 3), (8001, 4), (8002, 5)])
 refine AW.q 3 ?_
 refine AW.ret ?_
 refine ⟨_, (Sub.trans (Sub.trans (Sub.trans (Sub.refl _ _) (Sub.mv 0 8000 (by kernel_rfl) (by decide))) (Sub.mv 1 8001 (by kernel_rfl) (by decide))) (Sub.mv 2 8002 (by kernel_rfl) (by decide))), ?_⟩
 exact k2 (K_spec_l12Line _ s l) (show (s) = ((lineS s l.data.toList).1) from by rw [lineS_is, stepW_3 (fun q => seq_not (s := e1) (a := #[114, 117, 108, 101]) (by assumption) ((wb_at he1).symm.trans q)) (fun q => seq_not (s := e1) (a := #[122, 111, 110, 101]) (by assumption) ((wb_at he1).symm.trans q)) (fun q => seq_not (s := e1) (a := #[108, 105, 110, 107]) (by assumption) ((wb_at he1).symm.trans q))]; first | done | rfl) (show (3) = ((lineS s l.data.toList).2) from by rw [lineS_is, stepW_3 (fun q => seq_not (s := e1) (a := #[114, 117, 108, 101]) (by assumption) ((wb_at he1).symm.trans q)) (fun q => seq_not (s := e1) (a := #[122, 111, 110, 101]) (by assumption) ((wb_at he1).symm.trans q)) (fun q => seq_not (s := e1) (a := #[108, 105, 110, 107]) (by assumption) ((wb_at he1).symm.trans q))]; first | done | rfl) (KF.n [(0, 0), (1, 1), (2, 2), (8000, 3), (8001, 4), (8002, 5)])
def K_spec_SourceParse (rs : List ResultVar) (t : ByteArray) (w0_ : Srce) (w1_ : Int) (w2_ : Int) : Exit → Sg → Prop := KF Tryz.prog 0 rs (.tup [.agg [.ref 0, .ref 1, .ref 2], .int .i64 w1_, .int .i64 w2_]) [.arr 43 9 (w0_.rules.map encRul), .arr 49 3 (w0_.zones.map encZon), .arr 51 2 (w0_.links.map encLnk)]
theorem spec_SourceParse_spec  (t : ByteArray) (hs : t.size ≤ 1048576) : FnSpec Tryz.prog 13 [.str t] [] (.tup [.agg [.ref 0, .ref 1, .ref 2], .int .i64 ((parP lineS t.data.toList).2.1), .int .i64 ((parP lineS t.data.toList).2.2)]) [.arr 43 9 ((((parP lineS t.data.toList).1).rules).map encRul), .arr 49 3 ((((parP lineS t.data.toList).1).zones).map encZon), .arr 51 2 ((((parP lineS t.data.toList).1).links).map encLnk)] := by
 refine FnSpec.of 71 Tryz.func13 rfl Tryz.ntmps13 (by simp) (AW.weakK ?_)
 refine AW.q 3 ?_
 refine AW.seq ?_
 refine AW.weak (Sub.nils [⟨true, 102, some 0, 5001, 43, 9⟩, ⟨true, 102, some 1, 5002, 49, 3⟩, ⟨true, 102, some 2, 5003, 51, 2⟩] (by kernel_rfl)) ?_
 refine AW.gq 3 ?_
 refine AW.seq ?_
 refine AW.seq ?_
 refine AW.weak (Sub.nils [⟨true, 105, some 0, 5004, 43, 9⟩, ⟨true, 105, some 1, 5005, 49, 3⟩, ⟨true, 105, some 2, 5006, 51, 2⟩] (by kernel_rfl)) ?_
 refine AW.gq 3 ?_
 refine AW.cD ((t.size : Int) > 1000) (fun h1 => ?_) (fun h1 => ?_)
 · refine AW.q 4 ?_
   exact AW.ret (rf (k3 (K_spec_SourceParse _ t) (show ((⟨[], [], []⟩ : Srce)) = ((parP lineS t.data.toList).1) from by rw [par_long (by assumption)]; first | done | rfl) (show (0) = ((parP lineS t.data.toList).2.1) from by rw [par_long (by assumption)]; first | done | rfl) (show (1) = ((parP lineS t.data.toList).2.2) from by rw [par_long (by assumption)]; first | done | rfl) (KF.n [(5004, 0), (5005, 1), (5006, 2)])))
 refine AW.skip ?_
 refine AW.q 3 ?_
 refine AW.seq ?_
 refine AW.weak (Sub.nils [⟨true, 106, some 0, 5007, 43, 9⟩, ⟨true, 106, some 1, 5008, 49, 3⟩, ⟨true, 106, some 2, 5009, 51, 2⟩] (by kernel_rfl)) ?_
 refine AW.gq 1 ?_
 refine AW.q 1 ?_
 refine AW.seq ?_
 refine AW.block ?_
 refine AW.loopW (fun (x : Nat × Srce × Int) => match x with | (k, s, n) => Go.Sy.mk [.str t, .un, .ptr 102 0 0, .un, .un, .ptr 105 0 0, .ptr 106 0 0, .int .i64 n, .int .i64 (k : Int)] [(102, .box 28 [.ref 5001, .ref 5002, .ref 5003]), (105, .box 28 [.ref 5004, .ref 5005, .ref 5006]), (106, .box 28 [.ref 5007, .ref 5008, .ref 5009]), (5001, .arr 43 9 []), (5002, .arr 49 3 []), (5003, .arr 51 2 []), (5004, .arr 43 9 []), (5005, .arr 49 3 []), (5006, .arr 51 2 []), (5007, .arr 43 9 (s.rules.map encRul)), (5008, .arr 49 3 (s.zones.map encZon)), (5009, .arr 51 2 (s.links.map encLnk))]) (fun (x : Nat × Srce × Int) => match x with | (k, s, n) => PInv lineS t k s n ∧ k ≤ t.size) (fun (x : Nat × Srce × Int) => match x with | (k, s, n) => t.size - k) (0, zSrc, 0) ⟨PInv.start _ t, by omega⟩ (Sub.o [(102, 102), (105, 105), (106, 106), (5001, 5001), (5002, 5002), (5003, 5003), (5004, 5004), (5005, 5005), (5006, 5006), (5007, 5007), (5008, 5008), (5009, 5009)] [true, false, true, false, false, true, true, true, true]) ?_
 rintro ⟨k, s, n⟩ ⟨hP, hkz⟩
 have hPz := hP.sz
 have hPn := hP.n0
 refine AW.seq ?_
 refine AW.q 4 ?_
 refine AW.cD ((k : Int) < (t.size : Int)) (fun h2 => ?_) (fun h2 => ?_)
 · refine AW.skip ?_
   refine AW.block ?_
   refine AW.q 2 ?_
   refine AW.seq ?_
   refine AW.block ?_
   refine AW.loopW (fun (i : Nat) => Go.Sy.mk [.str t, .un, .ptr 102 0 0, .un, .un, .ptr 105 0 0, .ptr 106 0 0, .int .i64 n, .int .i64 (k : Int), .int .i64 (i : Int)] [(102, .box 28 [.ref 5001, .ref 5002, .ref 5003]), (105, .box 28 [.ref 5004, .ref 5005, .ref 5006]), (106, .box 28 [.ref 5007, .ref 5008, .ref 5009]), (5001, .arr 43 9 []), (5002, .arr 49 3 []), (5003, .arr 51 2 []), (5004, .arr 43 9 []), (5005, .arr 49 3 []), (5006, .arr 51 2 []), (5007, .arr 43 9 (s.rules.map encRul)), (5008, .arr 49 3 (s.zones.map encZon)), (5009, .arr 51 2 (s.links.map encLnk))]) (fun (i : Nat) => (k ≤ i ∧ i ≤ t.size) ∧ NoB 10 t k i) (fun (i : Nat) => t.size - i) k ⟨by omega, NoB.start _ _ _⟩ (Sub.o [(102, 102), (105, 105), (106, 106), (5001, 5001), (5002, 5002), (5003, 5003), (5004, 5004), (5005, 5005), (5006, 5006), (5007, 5007), (5008, 5008), (5009, 5009)] [true, false, true, false, false, true, true, true, true, true]) ?_
   rintro i ⟨hi, hB⟩
   refine AW.seq ?_
   refine AW.r ?_
   refine At.a 5 ?_
   by_cases h3 : (i : Int) < (t.size : Int)
   · refine At.sB 28 _ _ (sayT h3) ?_
     refine At.a 2 ?_
     refine Exists.elim (show ∃ e, t.data[i]? = some e from ⟨_, Array.getElem?_eq_getElem (by show _ < t.size; omega)⟩) fun e1 he1 => ?_
     refine At.idxStr (t := 9) (d := 31) (x := .tmp 29) (y := .tmp 30) (s := t) (kd := .i64) (i := (i : Int)) e1 (by kernel_rfl) (by kernel_rfl) (by kernel_rfl) (by kernel_rfl) (by omega) he1 ?_
     refine At.z 2 ?_
     refine AW.cU (e1.toNat : Int) (10 : Int) (fun h4 => ?_) (fun h4 => ?_)
     · refine AW.skip ?_
       refine AW.block ?_
       refine AW.g ?_
       refine At.a 2 ?_
       refine At.sI 35 ((i : Int) + 1) (by omega) ?_
       refine At.z 1 ?_
       exact ⟨i + 1, ⟨by omega, hB.next hi.1 he1 (by assumption)⟩, (by omega), Sub.o [(102, 102), (105, 105), (106, 106), (5001, 5001), (5002, 5002), (5003, 5003), (5004, 5004), (5005, 5005), (5006, 5006), (5007, 5007), (5008, 5008), (5009, 5009)] [true, false, true, false, false, true, true, true, true, true]⟩
     refine AW.exit ?_
     refine AW.seq ?_
     refine AW.q 4 ?_
     refine AW.condF ((i : Int) == (t.size : Int)) (by kernel_rfl) (beq_eq_false_iff_ne.2 (by omega)) ?_
     refine AW.skip ?_
     refine AW.r ?_
     refine At.a 3 ?_
     refine At.slStr (t := 9) (d := 45) (x := .tmp 42) (lx := some (.tmp 43)) (hx := some (.tmp 44)) (s := t) (vl := .int .i64 (k : Int)) (vh := .int .i64 (i : Int)) k i (by kernel_rfl) (by kernel_rfl) (by kernel_rfl) (by kernel_rfl) (.inr ⟨_, _, rfl, rfl⟩) (.inr ⟨_, _, rfl, rfl⟩) (by omega) (by omega) ?_
     refine At.z 1 ?_
     refine AW.seq ?_
     refine AW.r ?_
     refine At.a 3 ?_
     by_cases h5 : (t.extract k i).toList = (⟨#[]⟩ : ByteArray).toList
     · refine At.sB 48 (!((t.extract k i).toList == (⟨#[]⟩ : ByteArray).toList)) false (sayNF (sayET h5)) ?_
       refine At.z 4 ?_
       refine AW.cond false (by kernel_rfl) (fun h => by cases h) (fun _ => ?_)
       refine AW.skip ?_
       refine AW.r ?_
       refine At.a 2 ?_
       refine At.sI 66 (n + 1) (by omega) ?_
       refine At.z 1 ?_
       refine AW.g ?_
       refine At.a 2 ?_
       refine At.sI 68 ((i : Int) + 1) (by omega) ?_
       refine At.z 1 ?_
       exact ⟨(i + 1, s, (n + 1)), (by exact ⟨hP.skip hB (by omega) he1 (by assumption) (.inl (nil_is (by assumption))), by first | omega | (dsimp only; omega)⟩), (by simp only; omega), Sub.o [(102, 102), (105, 105), (106, 106), (5001, 5001), (5002, 5002), (5003, 5003), (5004, 5004), (5005, 5005), (5006, 5006), (5007, 5007), (5008, 5008), (5009, 5009)] [true, false, true, false, false, true, true, true, true]⟩
     refine At.sB 48 (!((t.extract k i).toList == (⟨#[]⟩ : ByteArray).toList)) true (sayNT (sayEF h5)) ?_
     have hne := nil_size h5
     refine At.a 1 ?_
     refine Exists.elim (show ∃ e, (t.extract k i).data[0]? = some e from ⟨_, Array.getElem?_eq_getElem (by show _ < (t.extract k i).size; omega)⟩) fun e2 he2 => ?_
     refine At.idxStr (t := 9) (d := 50) (x := .tmp 49) (y := .const (.int .i64 0)) (s := (t.extract k i)) (kd := .i64) (i := 0) e2 (by kernel_rfl) (by kernel_rfl) (by kernel_rfl) (by kernel_rfl) (by omega) he2 ?_
     refine At.z 2 ?_
     refine AW.cU (e2.toNat : Int) (35 : Int) (fun h6 => ?_) (fun h6 => ?_)
     · refine AW.r ?_
       refine At.a 2 ?_
       refine At.c (spec_l12Line_spec  s (t.extract k i) (by omega) (by rw [ByteArray.size_extract]; omega)) Tryz.call34 true [(5007, 0), (5008, 1), (5009, 2)] [(2120, 3), (2121, 4), (2122, 5)] [] trivial ?_
       refine At.z 6 ?_
       refine AW.seq ?_
       refine AW.q 2 ?_
       refine AW.cU ((lineS s (t.extract k i).data.toList).2) (0 : Int) (fun h7 => ?_) (fun h7 => ?_)
       · refine AW.q 6 ?_
         exact AW.ret (rf (k3 (K_spec_SourceParse _ t) (show ((⟨[], [], []⟩ : Srce)) = ((parP lineS t.data.toList).1) from by rw [hP.bad hB (by omega) he1 (by assumption) (nil_size (by assumption)).2 (hash_not (by assumption) (by assumption)) (by assumption) (by assumption)]; first | done | rfl) (show (n) = ((parP lineS t.data.toList).2.1) from by rw [hP.bad hB (by omega) he1 (by assumption) (nil_size (by assumption)).2 (hash_not (by assumption) (by assumption)) (by assumption) (by assumption)]; first | done | rfl) (show ((lineS s (t.extract k i).data.toList).2) = ((parP lineS t.data.toList).2.2) from by rw [hP.bad hB (by omega) he1 (by assumption) (nil_size (by assumption)).2 (hash_not (by assumption) (by assumption)) (by assumption) (by assumption)]; first | done | rfl) (KF.n [(5004, 0), (5005, 1), (5006, 2)])))
       refine AW.skip ?_
       refine AW.gq 2 ?_
       refine AW.r ?_
       refine At.a 2 ?_
       refine At.sI 66 (n + 1) (by omega) ?_
       refine At.z 1 ?_
       refine AW.g ?_
       refine At.a 2 ?_
       refine At.sI 68 ((i : Int) + 1) (by omega) ?_
       refine At.z 1 ?_
       exact ⟨(i + 1, ((lineS s (t.extract k i).data.toList).1), (n + 1)), (by exact ⟨hP.go hB (by omega) he1 (by assumption) (nil_size (by assumption)).2 (hash_not (by assumption) (by assumption)) (by assumption) (step_len _ _ _ _), by first | omega | (dsimp only; omega)⟩), (by simp only; omega), Sub.o [(102, 102), (105, 105), (106, 106), (5001, 5001), (5002, 5002), (5003, 5003), (5004, 5004), (5005, 5005), (5006, 5006), (2120, 5007), (2121, 5008), (2122, 5009)] [true, false, true, false, false, true, true, true, true]⟩
     refine AW.skip ?_
     refine AW.r ?_
     refine At.a 2 ?_
     refine At.sI 66 (n + 1) (by omega) ?_
     refine At.z 1 ?_
     refine AW.g ?_
     refine At.a 2 ?_
     refine At.sI 68 ((i : Int) + 1) (by omega) ?_
     refine At.z 1 ?_
     exact ⟨(i + 1, s, (n + 1)), (by exact ⟨hP.skip hB (by omega) he1 (by assumption) (.inr (hash_is (by assumption) (by assumption))), by first | omega | (dsimp only; omega)⟩), (by simp only; omega), Sub.o [(102, 102), (105, 105), (106, 106), (5001, 5001), (5002, 5002), (5003, 5003), (5004, 5004), (5005, 5005), (5006, 5006), (5007, 5007), (5008, 5008), (5009, 5009)] [true, false, true, false, false, true, true, true, true]⟩
   refine At.sB 28 _ _ (sayF h3) ?_
   refine At.z 5 ?_
   refine AW.cond false (by kernel_rfl) (fun h => by cases h) (fun _ => ?_)
   refine AW.exit ?_
   refine AW.seq ?_
   refine AW.q 4 ?_
   refine AW.condT ((i : Int) == (t.size : Int)) (by kernel_rfl) (beq_iff_eq.2 (by omega)) ?_
   refine AW.q 5 ?_
   exact AW.ret (rf (k3 (K_spec_SourceParse _ t) (show ((⟨[], [], []⟩ : Srce)) = ((parP lineS t.data.toList).1) from by rw [hP.endl hB (by omega) (by assumption) (by omega) (by assumption)]; first | done | rfl) (show (n) = ((parP lineS t.data.toList).2.1) from by rw [hP.endl hB (by omega) (by assumption) (by omega) (by assumption)]; first | done | rfl) (show (2) = ((parP lineS t.data.toList).2.2) from by rw [hP.endl hB (by omega) (by assumption) (by omega) (by assumption)]; first | done | rfl) (KF.n [(5004, 0), (5005, 1), (5006, 2)])))
 refine AW.exit ?_
 refine AW.q 5 ?_
 exact AW.ret (rf (k3 (K_spec_SourceParse _ t) (show (s) = ((parP lineS t.data.toList).1) from by rw [hP.done (by omega) (by assumption)]; first | done | rfl) (show (n) = ((parP lineS t.data.toList).2.1) from by rw [hP.done (by omega) (by assumption)]; first | done | rfl) (show (0) = ((parP lineS t.data.toList).2.2) from by rw [hP.done (by omega) (by assumption)]; first | done | rfl) (KF.n [(5007, 0), (5008, 1), (5009, 2)])))
end Go.Proofs.YtahackghhalfeaaGreatDoor
