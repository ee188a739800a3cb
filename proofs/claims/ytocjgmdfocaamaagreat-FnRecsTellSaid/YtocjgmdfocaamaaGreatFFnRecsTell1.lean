/- The contracts of the functions that FnRecsTell reaches (each: what it answers, said over values), printed by a program of this session (wip/sy/g/gen.py). -/
import Derived.Test.YtocjgmdfocaamaaGreatSRecsTellZc
import Derived.Test.YtocjgmdfocaamaaGreatProg
set_option linter.unusedVariables false
set_option linter.unusedSimpArgs false
set_option maxRecDepth 100000
set_option maxHeartbeats 4000000
namespace Go.Proofs.YtocjgmdfocaamaaGreat
open Go Go.Sy Go.Proofs
def encOut (o : Out) : V := encOutWith (.own 45 6 (o.msg.entries.map encEnt)) o
theorem frzOut (l : List Out) : FrzIs (l.map encOut) (l.map encOutV) := frzOf _ (fun _ => ⟨rfl, frz17 _⟩)
theorem frzOutT (l : List Out) : FrzT (l.map encOut) (l.map encOutT) := frzTOf _ (fun o => ⟨rfl, frzT17 o⟩)
def encRaft (r : Raft) : V := encRaftWith (.own 45 6 (r.hard.log.map encEnt)) (.own 3 1 (r.yes.map encI)) (.own 3 1 (r.next.map encI)) (.own 3 1 (r.match_.map encI)) r
theorem Tryz_mix : Tryz.prog.follows .mixedOrders = true := by kernel_rfl
theorem laws_big_spec (code : List UInt8) (hc : code.length ≤ 9223372036854775807) : FnSpec Tryz.prog 4 [.sl false 1 (code.map encU8)] [] (.bool (decide ((code.length : Int) > 1048576))) []:= by
 refine FnSpec.of 6 Tryz.func4 rfl Tryz.ntmps4 (by simp) (AW.weakK ?_)
 exact AW.q 1 <| AW.r <| At.a 2 <| At.sL 4 encU8 code <| At.z 2 <| AW.ret (rf (KF.n []))
theorem spec_l1New_spec (data : List UInt8) (hd : data.length ≤ 1048576) : ∃ rho_ : Int, (True) ∧ FnSpec Tryz.prog 16 [.sl false 1 (data.map encU8)] [] (.ptr 0 0 0) [.box 71 [.sl false 1 (data.map encU8), nI 0, nI rho_]]:= by
 refine dv (fun h_ => FnSpec.of 32 Tryz.func16 rfl Tryz.ntmps16 (by simp) (AW.weakK h_)) ?_
 refine dv (AW.q 1 <| AW.r <| At.a 2 <| At.sL 6 encU8 data <| At.a 1 ·) ?_
 refine dv (At.sI 7 (10677 + (data.length : Int)) (by omega) ·) ?_
 refine dv (At.z 1 <| AW.seq <| AW.q 1 <| AW.block ·) ?_
 refine DW.loopQ (fun (x : Nat × Int) => match x with | (k, s) => Go.Sy.mk [.sl false 1 (data.map encU8), .un, .un, nI s, nI (k : Int)] []) (fun (k, s) => k ≤ data.length) (fun (k, s) => data.length - k) (0, (10677 + (data.length : Int))) (by simp) (Sub.o [] (bs 5 25)) ?_
 rintro ⟨k, s⟩ hk ih1
 refine dv (AW.seq <| AW.r <| At.a 3 <| At.sL 10 encU8 data <| At.a 2 ·) ?_
 by_cases h1 : (k : Int) < (data.length : Int)
 · refine dv (At.sB 12 _ _ (sayT h1) <| At.z 3 ·) ?_
   by_cases h2 : (k : Int) < 4000
   · refine dv (AW.dT h2 <| AW.skip <| AW.seq <| AW.block <| AW.g <| At.a 4 ·) ?_
     refine dv (At.iSl 22 22 (.tmp 20) (.tmp 21) false 1 (data.map encU8) .i64 (k : Int) 5 (by omega) (by simp only [List.length_map]; omega) ·) ?_
     refine Exists.elim (gE data k (by omega)) fun e1 he1 => ?_
     refine dv (At.lVp 5 23 (.tmp 22) false 1 (data.map encU8) k 0 false 1 (encU8 e1) (.int .u8 (e1.toNat : Int)) (mapGet he1) ·) ?_
     refine dv (At.conv (s := 5) (t := 3) (d := 24) (x := .tmp 23) (kd := .u8) (kd' := .i64) (a := (e1.toNat : Int)) (nI (e1.toNat : Int)) (by kernel_rfl) (by kernel_rfl) (by kernel_rfl) (by kernel_rfl) (sayI _ (by have := UInt8.toNat_lt e1; omega)) ·) ?_
     refine dv (At.a 2 ·) ?_
     refine dv (At.bt 3 3 27 .and (.tmp 26) (.const (.int .i64 1073741823)) .i64 _ 1073741823 ((IntKind.i64.wrap ((IntKind.i64.wrap ((IntKind.i64.wrap (s * 131)) + (e1.toNat : Int))) + 7)) % 1073741824) (andM 30 1073741824 _ _ (by decide) (by decide) (by decide)) ·) ?_
     refine dv (At.z 1 <| AW.g <| At.a 2 ·) ?_
     refine dv (At.sI 17 ((k : Int) + 1) (by omega) ·) ?_
     refine dv (At.z 1 ·) ?_
     exact dw (fun _ h_ => AWL.weak (Sub.o [] (bs 5 25)) h_) (ih1 (k + 1, ((IntKind.i64.wrap ((IntKind.i64.wrap ((IntKind.i64.wrap (s * 131)) + (e1.toNat : Int))) + 7)) % 1073741824)) (by simp only; omega) (by simp only; omega))
   refine dv (AW.dF h2 <| AW.exit <| AW.q 5 <| AW.ret ·) ?_
   refine dv (⟨_, Sub.refl _ _, ·⟩) ?_
   exact ⟨(s), trivial, KF.n [(131, 0)]⟩
 refine dv (At.sB 12 _ _ (sayF h1) <| At.z 3 ·) ?_
 refine dv (fun h_ => AW.cond false (by kernel_rfl) (fun h => by cases h) (fun _ => h_)) ?_
 refine dv (AW.exit <| AW.q 5 <| AW.ret ·) ?_
 refine dv (⟨_, Sub.refl _ _, ·⟩) ?_
 exact ⟨(s), trivial, KF.n [(131, 0)]⟩
theorem spec_l1Long_spec (code : List UInt8) (least : Int) (most : Int) (hl : code.length ≤ 1048576) (hb : 0 ≤ least ∧ least ≤ 1000000) : FnSpec Tryz.prog 44 [.sl false 1 (code.map encU8), nI least, nI most] [] (nI (min (least + (code.length : Int) / 4) most)) []:= by
 refine FnSpec.of 18 Tryz.func44 rfl Tryz.ntmps44 (by simp) (AW.weakK ?_)
 refine AW.q 1 <| AW.r <| At.a 3 <| At.sL 10 encU8 code <| At.div (t := 3) (u := 3) (d := 11) (op := .quo) (x := .tmp 10) (y := .const (.int .i64 4)) (kd := .i64) (a := (code.length : Int)) (b := 4) (by kernel_rfl) (by kernel_rfl) (by kernel_rfl) (by kernel_rfl) (by omega) (nI (IntKind.i64.wrap ((code.length : Int).tdiv 4))) (.inl ⟨rfl, rfl⟩) <| At.say 11 (nI (IntKind.i64.wrap ((code.length : Int).tdiv 4))) (nI ((code.length : Int) / 4)) (by kernel_rfl) (sayQuo (by omega) (by omega) (by omega)) <| At.a 1 <| At.sI 12 (least + ((code.length : Int) / 4)) (by omega) <| At.z 1 <| AW.seq <| AW.q 3 <| AW.cD ((least + ((code.length : Int) / 4)) > most) (fun h1 => ?_) (fun h1 => ?_)
 · refine AW.q 2 <| AW.ret ?_
   refine ⟨_, Sub.refl _ _, ?_⟩
   refine KF.conv (fun w => nI w) (fun w => []) (show (most) = (min (least + (code.length : Int) / 4) most) from by omega) ?_
   exact KF.n []
 refine AW.skip <| AW.q 2 <| AW.ret ?_
 refine ⟨_, Sub.refl _ _, ?_⟩
 refine KF.conv (fun w => nI w) (fun w => []) (show (least + ((code.length : Int) / 4)) = (min (least + (code.length : Int) / 4) most) from by omega) ?_
 exact KF.n []
theorem spec_l1Byte_spec (c : Cur) (hp : 0 ≤ c.pos ∧ c.pos ≤ c.data.length ∧ c.data.length ≤ 1048576) : ∃ rho_ : Int × Int × Int, (0 ≤ rho_.1 ∧ rho_.1 ≤ c.data.length ∧ 0 ≤ rho_.2.2 ∧ rho_.2.2 ≤ 255) ∧ FnSpec Tryz.prog 85 [.ptr 0 0 0] [.box 71 [.sl false 1 (c.data.map encU8), nI c.pos, nI c.seed]] (nI rho_.2.2) [.box 71 [.sl false 1 (c.data.map encU8), nI rho_.1, nI rho_.2.1]]:= by
 refine dv (fun h_ => FnSpec.of 58 Tryz.func85 rfl Tryz.ntmps85 (by simp) (AW.weakK h_)) ?_
 refine dv (AW.q 1 <| AW.q 10 <| AW.seq <| AW.gD Tryz_mix <| At.a 4 ·) ?_
 refine dv (At.shift (t := 3) (u := 114) (d := 17) (op := .shr) (x := .tmp 16) (y := .const (.int .u64 33)) (kd := .i64) (kd' := .u64) (a := IntKind.i64.wrap ((IntKind.i64.wrap (c.seed * 6364136223846793005)) + 1442695040888963407)) (b := 33) (shV .shr .i64 (IntKind.i64.wrap ((IntKind.i64.wrap (c.seed * 6364136223846793005)) + 1442695040888963407)) 33) (by kernel_rfl) (by kernel_rfl) (by kernel_rfl) (by kernel_rfl) (by omega) (shS_shr _ _ _) ·) ?_
 refine dv (At.a 4 ·) ?_
 refine dv (At.shift (t := 3) (u := 114) (d := 22) (op := .shr) (x := .tmp 21) (y := .const (.int .u64 45)) (kd := .i64) (kd' := .u64) (a := IntKind.i64.wrap ((IntKind.i64.wrap (c.seed * 6364136223846793005)) + 1442695040888963407)) (b := 45) (shV .shr .i64 (IntKind.i64.wrap ((IntKind.i64.wrap (c.seed * 6364136223846793005)) + 1442695040888963407)) 45) (by kernel_rfl) (by kernel_rfl) (by kernel_rfl) (by kernel_rfl) (by omega) (shS_shr _ _ _) ·) ?_
 refine dv (At.bt 3 3 23 .xor (.tmp 17) (.tmp 22) .i64 _ _ (bitV .xor .i64 (shV .shr .i64 (IntKind.i64.wrap ((IntKind.i64.wrap (c.seed * 6364136223846793005)) + 1442695040888963407)) 33) (shV .shr .i64 (IntKind.i64.wrap ((IntKind.i64.wrap (c.seed * 6364136223846793005)) + 1442695040888963407)) 45)) (bitS_xor _ _ _) ·) ?_
 refine dv (At.bt 3 3 24 .and (.tmp 23) (.const (.int .i64 255)) .i64 _ 255 ((bitV .xor .i64 (shV .shr .i64 (IntKind.i64.wrap ((IntKind.i64.wrap (c.seed * 6364136223846793005)) + 1442695040888963407)) 33) (shV .shr .i64 (IntKind.i64.wrap ((IntKind.i64.wrap (c.seed * 6364136223846793005)) + 1442695040888963407)) 45)) % 256) (andM 8 256 _ _ (by decide) (by decide) (by decide)) ·) ?_
 refine dv (At.zD 1 <| AW.seq <| AW.seq <| AW.gD Tryz_mix <| At.a 9 <| At.sL 33 encU8 c.data <| At.zD 1 ·) ?_
 by_cases h1 : c.pos < (c.data.length : Int)
 · refine dv (AW.dT h1 <| AW.seq <| AW.gD Tryz_mix <| At.a 9 ·) ?_
   refine dv (At.iSl 22 44 (.tmp 39) (.tmp 43) false 1 (c.data.map encU8) .i64 c.pos 5 (by omega) (by simp only [List.length_map]; omega) ·) ?_
   refine Exists.elim (gE c.data ((c.pos).toNat) (by omega)) fun e1 he1 => ?_
   have hbe1 := UInt8.toNat_lt e1
   refine dv (At.lVp 5 45 (.tmp 44) false 1 (c.data.map encU8) ((c.pos).toNat) 0 false 1 (encU8 e1) (.int .u8 (e1.toNat : Int)) (mapGet he1) ·) ?_
   refine dv (At.conv (s := 5) (t := 3) (d := 46) (x := .tmp 45) (kd := .u8) (kd' := .i64) (a := (e1.toNat : Int)) (nI (e1.toNat : Int)) (by kernel_rfl) (by kernel_rfl) (by kernel_rfl) (by kernel_rfl) (sayI _ (by have := UInt8.toNat_lt e1; omega)) ·) ?_
   refine dv (At.a 1 ·) ?_
   refine dv (At.sI 47 (((bitV .xor .i64 (shV .shr .i64 (IntKind.i64.wrap ((IntKind.i64.wrap (c.seed * 6364136223846793005)) + 1442695040888963407)) 33) (shV .shr .i64 (IntKind.i64.wrap ((IntKind.i64.wrap (c.seed * 6364136223846793005)) + 1442695040888963407)) 45)) % 256) + (e1.toNat : Int)) (by omega) ·) ?_
   refine dv (At.bt 3 3 48 .and (.tmp 47) (.const (.int .i64 255)) .i64 _ 255 ((((bitV .xor .i64 (shV .shr .i64 (IntKind.i64.wrap ((IntKind.i64.wrap (c.seed * 6364136223846793005)) + 1442695040888963407)) 33) (shV .shr .i64 (IntKind.i64.wrap ((IntKind.i64.wrap (c.seed * 6364136223846793005)) + 1442695040888963407)) 45)) % 256) + (e1.toNat : Int)) % 256) (andM 8 256 _ _ (by decide) (by decide) (by decide)) ·) ?_
   refine dv (At.zD 1 <| AW.g <| At.a 6 ·) ?_
   refine dv (At.sI 54 (c.pos + 1) (by omega) ·) ?_
   refine dv (At.z 3 <| AW.q 2 <| AW.ret ·) ?_
   refine dv (⟨_, Sub.refl _ _, ·⟩) ?_
   exact ⟨(c.pos + 1, IntKind.i64.wrap ((IntKind.i64.wrap (c.seed * 6364136223846793005)) + 1442695040888963407), (((bitV .xor .i64 (shV .shr .i64 (IntKind.i64.wrap ((IntKind.i64.wrap (c.seed * 6364136223846793005)) + 1442695040888963407)) 33) (shV .shr .i64 (IntKind.i64.wrap ((IntKind.i64.wrap (c.seed * 6364136223846793005)) + 1442695040888963407)) 45)) % 256) + (e1.toNat : Int)) % 256), (by dsimp only; omega), KF.n [(0, 0)]⟩
 refine dv (AW.dF h1 <| AW.skip <| AW.q 2 <| AW.ret ·) ?_
 refine dv (⟨_, Sub.refl _ _, ·⟩) ?_
 exact ⟨(c.pos, IntKind.i64.wrap ((IntKind.i64.wrap (c.seed * 6364136223846793005)) + 1442695040888963407), (bitV .xor .i64 (shV .shr .i64 (IntKind.i64.wrap ((IntKind.i64.wrap (c.seed * 6364136223846793005)) + 1442695040888963407)) 33) (shV .shr .i64 (IntKind.i64.wrap ((IntKind.i64.wrap (c.seed * 6364136223846793005)) + 1442695040888963407)) 45)) % 256), (by dsimp only; omega), KF.n [(0, 0)]⟩
theorem spec_l1Below_spec (c : Cur) (n : Int) (hp : 0 ≤ c.pos ∧ c.pos ≤ c.data.length ∧ c.data.length ≤ 1048576) : ∃ rho_ : Int × Int × Int, (0 ≤ rho_.1 ∧ rho_.1 ≤ c.data.length ∧ 0 ≤ rho_.2.2 ∧ (0 < n → rho_.2.2 < n) ∧ (n ≤ 0 → rho_.2.2 = 0)) ∧ FnSpec Tryz.prog 45 [.ptr 0 0 0, nI n] [.box 71 [.sl false 1 (c.data.map encU8), nI c.pos, nI c.seed]] (nI rho_.2.2) [.box 71 [.sl false 1 (c.data.map encU8), nI rho_.1, nI rho_.2.1]]:= by
 refine dv (fun h_ => FnSpec.of 37 Tryz.func45 rfl Tryz.ntmps45 (by simp) (AW.weakK h_)) ?_
 refine dv (AW.q 1 <| AW.seq <| AW.q 2 ·) ?_
 by_cases h1 : n ≤ 0
 · refine dv (AW.dT h1 <| AW.q 1 <| AW.ret ·) ?_
   refine dv (⟨_, Sub.refl _ _, ·⟩) ?_
   exact ⟨(c.pos, c.seed, 0), (by refine ⟨by dsimp only; omega, by dsimp only; omega, ?_⟩; dsimp only; omega), KF.n [(0, 0)]⟩
 refine dv (AW.dF h1 <| AW.skip <| AW.seq <| AW.q 2 ·) ?_
 by_cases h2 : n ≤ 256
 · refine dv (AW.dT h2 <| AW.r <| At.a 1 ·) ?_
   refine exE (spec_l1Byte_spec c (by omega)) fun r1_ qr1_ hr1_ => ?_
   try dsimp only at qr1_
   refine dv (At.c (hr1_) Tryz.call85 true [(0, 0)] [] [] trivial <| At.a 1 ·) ?_
   refine dv (At.div (t := 3) (u := 3) (d := 16) (op := .rem) (x := .tmp 14) (y := .tmp 15) (kd := .i64) (a := r1_.2.2) (b := n) (by kernel_rfl) (by kernel_rfl) (by kernel_rfl) (by kernel_rfl) (by omega) (nI (r1_.2.2.tmod n)) (.inr ⟨rfl, rfl⟩) ·) ?_
   refine dv (At.say 16 (nI (r1_.2.2.tmod n)) (nI (r1_.2.2 % n)) (by kernel_rfl) (sayRem (by omega)) ·) ?_
   refine dv (At.z 1 <| AW.ret ·) ?_
   refine dv (⟨_, Sub.refl _ _, ·⟩) ?_
   exact ⟨(r1_.1, r1_.2.1, r1_.2.2 % n), (by refine ⟨by dsimp only; omega, by dsimp only; omega, ?_⟩; dsimp only; exact ⟨Int.emod_nonneg _ (by omega), fun _ => Int.emod_lt_of_pos _ (by omega), fun _ => by omega⟩), KF.n [(0, 0)]⟩
 refine dv (AW.dF h2 <| AW.skip <| AW.r <| At.a 1 ·) ?_
 refine exE (spec_l1Byte_spec c (by omega)) fun r1_ qr1_ hr1_ => ?_
 try dsimp only at qr1_
 refine dv (At.c (hr1_) Tryz.call85 true [(0, 0)] [] [] trivial <| At.z 1 <| AW.r <| At.a 1 ·) ?_
 refine exE (spec_l1Byte_spec ⟨c.data, r1_.1, r1_.2.1⟩ (by dsimp only; omega)) fun r2_ qr2_ hr2_ => ?_
 try dsimp only at qr2_
 refine dv (At.c (hr2_) Tryz.call85 true [(0, 0)] [] [] trivial <| At.z 1 <| AW.r <| At.a 1 ·) ?_
 refine exE (spec_l1Byte_spec ⟨c.data, r2_.1, r2_.2.1⟩ (by dsimp only; omega)) fun r3_ qr3_ hr3_ => ?_
 try dsimp only at qr3_
 refine dv (At.c (hr3_) Tryz.call85 true [(0, 0)] [] [] trivial <| At.z 1 <| AW.r <| At.a 1 ·) ?_
 refine exE (spec_l1Byte_spec ⟨c.data, r3_.1, r3_.2.1⟩ (by dsimp only; omega)) fun r4_ qr4_ hr4_ => ?_
 try dsimp only at qr4_
 refine dv (At.c (hr4_) Tryz.call85 true [(0, 0)] [] [] trivial <| At.z 1 <| AW.r <| At.a 2 ·) ?_
 refine dv (At.sI 26 (r1_.2.2 * 16777216) (by omega) ·) ?_
 refine dv (At.a 2 ·) ?_
 refine dv (At.sI 28 (r2_.2.2 * 65536) (by omega) ·) ?_
 refine dv (At.a 1 ·) ?_
 refine dv (At.sI 29 ((r1_.2.2 * 16777216) + (r2_.2.2 * 65536)) (by omega) ·) ?_
 refine dv (At.a 2 ·) ?_
 refine dv (At.sI 31 (r3_.2.2 * 256) (by omega) ·) ?_
 refine dv (At.a 1 ·) ?_
 refine dv (At.sI 32 (((r1_.2.2 * 16777216) + (r2_.2.2 * 65536)) + (r3_.2.2 * 256)) (by omega) ·) ?_
 refine dv (At.a 2 ·) ?_
 refine dv (At.sI 34 ((((r1_.2.2 * 16777216) + (r2_.2.2 * 65536)) + (r3_.2.2 * 256)) + r4_.2.2) (by omega) ·) ?_
 refine dv (At.a 1 ·) ?_
 refine dv (At.div (t := 3) (u := 3) (d := 36) (op := .rem) (x := .tmp 34) (y := .tmp 35) (kd := .i64) (a := (((r1_.2.2 * 16777216) + (r2_.2.2 * 65536)) + (r3_.2.2 * 256)) + r4_.2.2) (b := n) (by kernel_rfl) (by kernel_rfl) (by kernel_rfl) (by kernel_rfl) (by omega) (nI (((((r1_.2.2 * 16777216) + (r2_.2.2 * 65536)) + (r3_.2.2 * 256)) + r4_.2.2).tmod n)) (.inr ⟨rfl, rfl⟩) ·) ?_
 refine dv (At.say 36 (nI (((((r1_.2.2 * 16777216) + (r2_.2.2 * 65536)) + (r3_.2.2 * 256)) + r4_.2.2).tmod n)) (nI (((((r1_.2.2 * 16777216) + (r2_.2.2 * 65536)) + (r3_.2.2 * 256)) + r4_.2.2) % n)) (by kernel_rfl) (sayRem (by omega)) ·) ?_
 refine dv (At.z 1 <| AW.ret ·) ?_
 refine dv (⟨_, Sub.refl _ _, ·⟩) ?_
 exact ⟨(r4_.1, r4_.2.1, ((((r1_.2.2 * 16777216) + (r2_.2.2 * 65536)) + (r3_.2.2 * 256)) + r4_.2.2) % n), (by refine ⟨by dsimp only; omega, by dsimp only; omega, ?_⟩; dsimp only; exact ⟨Int.emod_nonneg _ (by omega), fun _ => Int.emod_lt_of_pos _ (by omega), fun _ => by omega⟩), KF.n [(0, 0)]⟩
theorem spec_l1PickInt_spec (c : Cur) (list : List Int) (hp : 0 ≤ c.pos ∧ c.pos ≤ c.data.length ∧ c.data.length ≤ 1048576) (hl : 0 < list.length ∧ list.length ≤ 1000) : ∃ rho_ : Int × Int × Int, (0 ≤ rho_.1 ∧ rho_.1 ≤ c.data.length ∧ rho_.2.2 ∈ list) ∧ FnSpec Tryz.prog 78 [.ptr 0 0 0, .ref 1] [.box 71 [.sl false 1 (c.data.map encU8), nI c.pos, nI c.seed], .arr 3 1 (list.map encI)] (nI rho_.2.2) [.box 71 [.sl false 1 (c.data.map encU8), nI rho_.1, nI rho_.2.1], .arr 3 1 (list.map encI)]:= by
 refine dv (fun h_ => FnSpec.of 12 Tryz.func78 rfl Tryz.ntmps78 (by simp) (AW.weakK h_)) ?_
 refine dv (AW.q 1 <| AW.r <| At.a 4 <| At.sL 8 encI list ·) ?_
 refine exE (spec_l1Below_spec c (list.length : Int) (by omega)) fun r1_ qr1_ hr1_ => ?_
 try simp only [Int.reduceLT, Int.reduceLE, true_implies, false_implies, and_true] at qr1_
 refine dv (At.c (hr1_) Tryz.call45 true [(0, 0)] [] [] trivial ·) ?_
 refine dv (At.iRf 27 10 (.tmp 5) (.tmp 9) 1 (list.map encI) .i64 r1_.2.2 3 1 (by omega) (by simp only [List.length_map]; omega) ·) ?_
 refine Exists.elim (gE list ((r1_.2.2).toNat) (by omega)) fun e1 he1 => ?_
 refine dv (At.lEl 3 11 (.tmp 10) 1 3 1 (list.map encI) ((r1_.2.2).toNat) 0 false 1 (encI e1) (nI e1) (mapGet he1) <| At.z 1 <| AW.ret ·) ?_
 refine dv (⟨_, Sub.refl _ _, ·⟩) ?_
 exact ⟨(r1_.1, r1_.2.1, e1), ⟨by dsimp only; omega, by dsimp only; omega, List.mem_of_getElem? he1⟩, KF.n (dg [0, 1])⟩
theorem spec_l6Copy_spec (h : Hard) (hl : h.log.length ≤ 1048576) : FnSpec Tryz.prog 38 [.agg [nI h.term, nI h.vote, .sl false 6 (h.log.map encEnt)]] [] (.agg [nI h.term, nI h.vote, .ref 0]) [.arr 45 6 (h.log.map encEnt)]:= by
 refine FnSpec.of 12 Tryz.func38 rfl Tryz.ntmps38 (by simp) (AW.weakK ?_)
 exact AW.q 2 <| AW.seq <| AW.weak (Sub.nils [⟨true, 102, some 2, 5001, 45, 6⟩] (by kernel_rfl)) <| AW.gD Tryz_mix <| At.a 4 <| At.l0 24 7 45 6 56 107 <| At.a 2 <| At.append (t := 24) (d := 10) (e := 45) (es := 6) (bytes := 56) (s := .tmp 7) (x := .tmp 9) (S := .ref 107) (T := .sl false 6 (h.log.map encEnt)) (xs := []) (ys := (h.log.map encEnt)) 110 [107] [] (h.log.map encEnt) (by kernel_rfl) (by kernel_rfl) (by kernel_rfl) (by kernel_rfl) ⟨by kernel_rfl, rfl⟩ ⟨rfl, rfl, (allP_encEnt _), rfl⟩ (by kernel_rfl) (by kernel_rfl) (by simp) (by simp only [List.length_map, lens]; omega) (by simp only [List.length_map, lens]; omega) <| At.zD 2 <| AW.ret (rf (KF.n [(110, 0)]))
theorem spec_l7Of_spec (of : Int) : FnSpec Tryz.prog 26 [nI of] [] (.bool (ofOk of)) []:= by
 refine FnSpec.of 13 Tryz.func26 rfl Tryz.ntmps26 (by simp) (AW.weakK ?_)
 refine AW.q 1 <| AW.r <| At.a 3 ?_
 by_cases h1 : of = 1
 · refine At.sB 5 _ _ (sayET h1) <| At.z 8 <| AW.ret ?_
   refine ⟨_, Sub.refl _ _, ?_⟩
   refine KF.conv (fun w => .bool w) (fun w => []) (show (true) = (ofOk of) from by simp_all [ofOk]) ?_
   exact KF.n []
 refine At.sB 5 _ _ (sayEF h1) <| At.a 4 ?_
 by_cases h2 : of = 3
 · refine At.sB 9 _ _ (sayET h2) <| At.z 4 <| AW.ret ?_
   refine ⟨_, Sub.refl _ _, ?_⟩
   refine KF.conv (fun w => .bool w) (fun w => []) (show (true) = (ofOk of) from by simp_all [ofOk]) ?_
   exact KF.n []
 refine At.sB 9 _ _ (sayEF h2) <| At.z 4 <| AW.ret ?_
 refine ⟨_, Sub.refl _ _, ?_⟩
 refine KF.conv (fun w => .bool w) (fun w => []) (show (of == 5) = (ofOk of) from by simp_all [ofOk]) ?_
 exact KF.n []
theorem spec_l1In_spec (x : Int) (lo : Int) (hi : Int) : FnSpec Tryz.prog 27 [nI x, nI lo, nI hi] [] (.bool (inR x lo hi)) []:= by
 refine FnSpec.of 15 Tryz.func27 rfl Tryz.ntmps27 (by simp) (AW.weakK ?_)
 refine AW.q 1 <| AW.r <| At.a 4 ?_
 by_cases h1 : x ≥ lo
 · refine At.sB 10 _ _ (sayT h1) <| At.z 5 <| AW.ret ?_
   refine ⟨_, Sub.refl _ _, ?_⟩
   refine KF.conv (fun w => .bool w) (fun w => []) (show (decide (x ≤ hi)) = (inR x lo hi) from by simp [inR, *]) ?_
   exact KF.n []
 refine At.sB 10 _ _ (sayF h1) <| At.z 5 <| AW.ret ?_
 refine ⟨_, Sub.refl _ _, ?_⟩
 refine KF.conv (fun w => .bool w) (fun w => []) (show (false) = (inR x lo hi) from by simp [inR, *]) ?_
 exact KF.n []
theorem spec_l1Whole_spec (x : Int) : FnSpec Tryz.prog 68 [nI x] [] (.bool (inR x 0 1000000000)) []:= by
 refine FnSpec.of 5 Tryz.func68 rfl Tryz.ntmps68 (by simp) (AW.weakK ?_)
 exact AW.q 1 <| AW.r <| At.a 1 <| At.c (spec_l1In_spec x 0 1000000000) Tryz.call27 true [] [] [] trivial <| At.z 1 <| AW.ret (rf (KF.n []))
def K_spec_CmdOk (rs : List ResultVar) (c : Cmd) (w0_ : Bool) : Exit → Sg → Prop := KF Tryz.prog 0 rs (.bool w0_) []
theorem spec_CmdOk_spec (c : Cmd) : FnSpec Tryz.prog 99 [.agg [nI c.kind, nI c.release, nI c.node, nI c.size, .str c.digest]] [] (.bool (cmdOk c)) []:= by
 refine FnSpec.of 60 Tryz.func99 rfl Tryz.ntmps99 (by simp) (AW.weakK ?_)
 refine AW.q 2 <| AW.q 5 <| AW.seq <| AW.q 3 <| AW.cE c.kind (1 : Int) (fun h1 => ?_) (fun h1 => ?_)
 · exact AW.r <| At.a 2 <| At.eqA (t := 31) (u := 31) (d := 12) (op := .eql) (x := .tmp 10) (y := .tmp 11) (X := [nI c.kind, nI c.release, nI c.node, nI c.size, .str c.digest]) (Y := [nI c.kind, nI 0, nI 0, nI 0, .str eB]) (cmdEq c (⟨c.kind, 0, 0, 0, eB⟩ : Cmd)) (by kernel_rfl) (by kernel_rfl) (by kernel_rfl) (by kernel_rfl) (by kernel_rfl) (.bool (cmdEq c (⟨c.kind, 0, 0, 0, eB⟩ : Cmd))) (.inl ⟨rfl, rfl⟩) <| At.z 1 <| AW.ret (rf (k1 (K_spec_CmdOk _ c) (show (cmdEq c (⟨c.kind, 0, 0, 0, eB⟩ : Cmd)) = _ from by (try simp only [inR_iff, inR_not] at *); rw [Bool.eq_iff_iff]; simp only [cmdOk, cmdEq, noBytes]; (repeat' split) <;> (try simp [inR_iff]) <;> grind) (KF.n [])))
 refine AW.skip <| AW.seq <| AW.r <| At.a 2 <| At.c (spec_l1In_spec c.kind 2 5) Tryz.call27 true [] [] [] trivial <| At.a 2 ?_
 by_cases h2 : (inR c.kind 2 5) = true
 · refine At.sB 17 (!(inR c.kind 2 5)) false (sayNF (sayB h2)) <| At.a 2 <| At.c (spec_l1In_spec c.release 1 1000) Tryz.call27 true [] [] [] trivial <| At.z 2 <| AW.cNB (inR c.release 1 1000) (fun h3 => ?_) (fun h3 => ?_)
   · exact AW.q 1 <| AW.ret (rf (k1 (K_spec_CmdOk _ c) (show (false) = _ from by (try simp only [inR_iff, inR_not] at *); rw [Bool.eq_iff_iff]; simp only [cmdOk, cmdEq, noBytes]; (repeat' split) <;> (try simp [inR_iff]) <;> grind) (KF.n [])))
   refine AW.skip <| AW.q 4 <| AW.seq <| AW.q 2 <| AW.block <| AW.q 2 <| AW.cE c.kind (2 : Int) (fun h4 => ?_) (fun h4 => ?_)
   · refine AW.r <| At.a 2 <| At.c (spec_l1In_spec c.size 0 1000) Tryz.call27 true [] [] [] trivial <| At.a 1 ?_
     by_cases h5 : (inR c.size 0 1000) = true
     · refine At.sB 33 (inR c.size 0 1000) true (sayB h5) <| At.a 6 ?_
       by_cases h6 : (c.digest.size : Int) = 32
       · exact At.sB 39 _ _ (sayET h6) <| At.z 5 <| AW.ret (rf (k1 (K_spec_CmdOk _ c) (show (c.node == 0) = _ from by (try simp only [inR_iff, inR_not] at *); rw [Bool.eq_iff_iff]; simp only [cmdOk, cmdEq, noBytes]; (repeat' split) <;> (try simp [inR_iff]) <;> grind) (KF.n [])))
       exact At.sB 39 _ _ (sayEF h6) <| At.z 5 <| AW.ret (rf (k1 (K_spec_CmdOk _ c) (show (false) = _ from by (try simp only [inR_iff, inR_not] at *); rw [Bool.eq_iff_iff]; simp only [cmdOk, cmdEq, noBytes]; (repeat' split) <;> (try simp [inR_iff]) <;> grind) (KF.n [])))
     refine At.sB 33 (inR c.size 0 1000) false (sayB (Bool.eq_false_iff.2 h5)) ?_
     replace h5 := Bool.eq_false_iff.2 h5
     exact At.z 11 <| AW.ret (rf (k1 (K_spec_CmdOk _ c) (show (false) = _ from by (try simp only [inR_iff, inR_not] at *); rw [Bool.eq_iff_iff]; simp only [cmdOk, cmdEq, noBytes]; (repeat' split) <;> (try simp [inR_iff]) <;> grind) (KF.n [])))
   refine AW.q 2 <| AW.cE c.kind (3 : Int) (fun h7 => ?_) (fun h7 => ?_)
   · refine AW.q 4 <| AW.r <| At.a 2 <| At.c (spec_l1In_spec c.node 0 4) Tryz.call27 true [] [] [] trivial <| At.a 1 ?_
     by_cases h8 : (inR c.node 0 4) = true
     · exact At.sB 52 (inR c.node 0 4) true (sayB h8) <| At.a 2 <| At.eqA (t := 31) (u := 31) (d := 55) (op := .eql) (x := .tmp 53) (y := .tmp 54) (X := [nI c.kind, nI c.release, nI c.node, nI c.size, .str c.digest]) (Y := [nI c.kind, nI c.release, nI c.node, nI 0, .str eB]) (cmdEq c (⟨c.kind, c.release, c.node, 0, eB⟩ : Cmd)) (by kernel_rfl) (by kernel_rfl) (by kernel_rfl) (by kernel_rfl) (by kernel_rfl) (.bool (cmdEq c (⟨c.kind, c.release, c.node, 0, eB⟩ : Cmd))) (.inl ⟨rfl, rfl⟩) <| At.z 2 <| AW.ret (rf (k1 (K_spec_CmdOk _ c) (show (cmdEq c (⟨c.kind, c.release, c.node, 0, eB⟩ : Cmd)) = _ from by (try simp only [inR_iff, inR_not] at *); rw [Bool.eq_iff_iff]; simp only [cmdOk, cmdEq, noBytes]; (repeat' split) <;> (try simp [inR_iff]) <;> grind) (KF.n [])))
     refine At.sB 52 (inR c.node 0 4) false (sayB (Bool.eq_false_iff.2 h8)) ?_
     replace h8 := Bool.eq_false_iff.2 h8
     exact At.z 5 <| AW.ret (rf (k1 (K_spec_CmdOk _ c) (show (false) = _ from by (try simp only [inR_iff, inR_not] at *); rw [Bool.eq_iff_iff]; simp only [cmdOk, cmdEq, noBytes]; (repeat' split) <;> (try simp [inR_iff]) <;> grind) (KF.n [])))
   exact AW.skip <| AW.r <| At.a 2 <| At.eqA (t := 31) (u := 31) (d := 59) (op := .eql) (x := .tmp 57) (y := .tmp 58) (X := [nI c.kind, nI c.release, nI c.node, nI c.size, .str c.digest]) (Y := [nI c.kind, nI c.release, nI 0, nI 0, .str eB]) (cmdEq c (⟨c.kind, c.release, 0, 0, eB⟩ : Cmd)) (by kernel_rfl) (by kernel_rfl) (by kernel_rfl) (by kernel_rfl) (by kernel_rfl) (.bool (cmdEq c (⟨c.kind, c.release, 0, 0, eB⟩ : Cmd))) (.inl ⟨rfl, rfl⟩) <| At.z 1 <| AW.ret (rf (k1 (K_spec_CmdOk _ c) (show (cmdEq c (⟨c.kind, c.release, 0, 0, eB⟩ : Cmd)) = _ from by (try simp only [inR_iff, inR_not] at *); rw [Bool.eq_iff_iff]; simp only [cmdOk, cmdEq, noBytes]; (repeat' split) <;> (try simp [inR_iff]) <;> grind) (KF.n [])))
 refine At.sB 17 (!(inR c.kind 2 5)) true (sayNT (sayB (Bool.eq_false_iff.2 h2))) ?_
 replace h2 := Bool.eq_false_iff.2 h2
 refine At.z 5 <| AW.cond true (by kernel_rfl) (fun _ => ?_) (fun h => by cases h)
 exact AW.q 1 <| AW.ret (rf (k1 (K_spec_CmdOk _ c) (show (false) = _ from by (try simp only [inR_iff, inR_not] at *); rw [Bool.eq_iff_iff]; simp only [cmdOk, cmdEq, noBytes]; (repeat' split) <;> (try simp [inR_iff]) <;> grind) (KF.n [])))
theorem spec_l6Entry_spec (e : Ent) : FnSpec Tryz.prog 69 [.agg [nI e.term, nI e.cmd.kind, nI e.cmd.release, nI e.cmd.node, nI e.cmd.size, .str e.cmd.digest]] [] (.bool (entOk e)) []:= by
 refine FnSpec.of 11 Tryz.func69 rfl Tryz.ntmps69 (by simp) (AW.weakK ?_)
 refine AW.q 2 <| AW.r <| At.a 2 <| At.c (spec_l1In_spec e.term 1 1000000000) Tryz.call27 true [] [] [] trivial <| At.a 1 ?_
 by_cases h1 : (inR e.term 1 1000000000) = true
 · refine At.sB 6 (inR e.term 1 1000000000) true (sayB h1) ?_
   have h1i := inR_iff.1 h1
   refine At.a 2 <| At.c (spec_CmdOk_spec e.cmd) Tryz.call99 true [] [] [] trivial <| At.z 2 <| AW.ret ?_
   refine ⟨_, Sub.refl _ _, ?_⟩
   refine KF.conv (fun w => .bool w) (fun w => []) (show (cmdOk e.cmd) = (entOk e) from by (try simp only [inR_iff, inR_not] at *); rw [Bool.eq_iff_iff]; simp only [entOk, noBytes]; (repeat' split) <;> (try simp [inR_iff]) <;> grind) ?_
   exact KF.n []
 refine At.sB 6 (inR e.term 1 1000000000) false (sayB (Bool.eq_false_iff.2 h1)) ?_
 replace h1 := Bool.eq_false_iff.2 h1
 refine At.z 5 <| AW.ret ?_
 refine ⟨_, Sub.refl _ _, ?_⟩
 refine KF.conv (fun w => .bool w) (fun w => []) (show (false) = (entOk e) from by (try simp only [inR_iff, inR_not] at *); rw [Bool.eq_iff_iff]; simp only [entOk, noBytes]; (repeat' split) <;> (try simp [inR_iff]) <;> grind) ?_
 exact KF.n []
def K_spec_HardOk (rs : List ResultVar) (h : Hard) (w0_ : Bool) : Exit → Sg → Prop := KF Tryz.prog 0 rs (.bool w0_) []
theorem spec_HardOk_spec (h : Hard) (hl : h.log.length ≤ 1048576) : FnSpec Tryz.prog 28 [.agg [nI h.term, nI h.vote, .sl false 6 (h.log.map encEnt)]] [] (.bool (hardOk h)) []:= by
 refine FnSpec.of 65 Tryz.func28 rfl Tryz.ntmps28 (by simp) (AW.weakK ?_)
 refine AW.q 2 <| AW.seq <| AW.r <| At.a 2 <| At.c (spec_l1Whole_spec h.term) Tryz.call68 true [] [] [] trivial <| At.a 2 ?_
 by_cases h1 : (inR h.term 0 1000000000) = true
 · refine At.sB 8 (!(inR h.term 0 1000000000)) false (sayNF (sayB h1)) ?_
   have h1i := inR_iff.1 h1
   refine At.a 2 <| At.c (spec_l1In_spec h.vote 0 5) Tryz.call27 true [] [] [] trivial <| At.a 3 ?_
   by_cases h2 : (inR h.vote 0 5) = true
   · refine At.sB 14 (!(inR h.vote 0 5)) false (sayNF (sayB h2)) ?_
     have h2i := inR_iff.1 h2
     refine At.a 3 <| At.sL 17 encEnt h.log <| At.z 2 <| AW.cD ((h.log.length : Int) > 80) (fun h3 => ?_) (fun h3 => ?_)
     · exact AW.q 1 <| AW.ret (rf (k1 (K_spec_HardOk _ h) (show (false) = _ from by have : ¬ h.log.length ≤ 80 := (by omega); simp [hardOk, this]) (KF.n [])))
     refine AW.skip <| AW.seq <| AW.q 1 <| AW.block <| AW.loopW (fun (k : Nat) => Go.Sy.mk [.un, .ptr 101 0 0, .un, nI (k : Int)] [(101, .box 26 [nI h.term, nI h.vote, .sl false 6 (h.log.map encEnt)])]) (fun k => k ≤ h.log.length ∧ logOk h.term 0 h.log = logOk h.term (lastT (h.log.take k)) (h.log.drop k)) (fun k => h.log.length - k) 0 ⟨by omega, by simp [lastT]⟩ (Sub.o [(101, 101)] (bs 4 10)) ?_
     rintro k ⟨hk, hR⟩
     refine AW.seq <| AW.r <| At.a 4 <| At.sL 23 encEnt h.log <| At.z 1 <| AW.cD ((k : Int) < (h.log.length : Int)) (fun h4 => ?_) (fun h4 => ?_)
     · refine AW.skip <| AW.seq <| AW.block <| AW.seq <| AW.gD Tryz_mix <| At.a 3 <| At.iSl 24 30 (.tmp 28) (.tmp 29) false 6 (h.log.map encEnt) .i64 (k : Int) 45 (by omega) (by simp only [List.length_map]; omega) ?_
       refine Exists.elim (gE h.log k (by omega)) fun e1 he1 => ?_
       refine At.lVp 45 31 (.tmp 30) false 6 (h.log.map encEnt) k 0 true 6 (encEnt e1) (.agg [nI e1.term, nI e1.cmd.kind, nI e1.cmd.release, nI e1.cmd.node, nI e1.cmd.size, .str e1.cmd.digest]) (mapGet he1) <| At.c (spec_l6Entry_spec e1) Tryz.call69 true [] [] [] trivial <| At.a 2 ?_
       by_cases h5 : (entOk e1) = true
       · refine At.sB 34 (!(entOk e1)) false (sayNF (sayB h5)) ?_
         have h5n := entOk_nums h5
         refine At.a 3 <| At.iSl 24 38 (.tmp 36) (.tmp 37) false 6 (h.log.map encEnt) .i64 (k : Int) 45 (by omega) (by simp only [List.length_map]; omega) <| At.a 1 <| At.lVp 3 40 (.tmp 39) false 6 (h.log.map encEnt) k 0 false 1 (encEnt e1) (nI e1.term) (mapGet he1) <| At.a 5 ?_
         by_cases h6 : e1.term > h.term
         · refine At.sB 45 _ _ (sayT h6) <| At.zD 19 <| AW.cond true (by kernel_rfl) (fun _ => ?_) (fun h => by cases h)
           exact AW.q 1 <| AW.ret (rf (k1 (K_spec_HardOk _ h) (show (false) = _ from by refine hardBad (hR.trans ?_); rw [dropCons he1]; exact logOk_bad2 (by omega)) (KF.n [])))
         refine At.sB 45 _ _ (sayF h6) <| At.a 3 ?_
         by_cases h7 : (k : Int) > 0
         · refine At.sB 48 _ _ (sayT h7) <| At.a 3 <| At.iSl 24 52 (.tmp 50) (.tmp 51) false 6 (h.log.map encEnt) .i64 (k : Int) 45 (by omega) (by simp only [List.length_map]; omega) <| At.a 1 <| At.lVp 3 54 (.tmp 53) false 6 (h.log.map encEnt) k 0 false 1 (encEnt e1) (nI e1.term) (mapGet he1) <| At.a 4 <| At.sI 58 ((k : Int) - 1) (by omega) <| At.iSl 24 59 (.tmp 56) (.tmp 58) false 6 (h.log.map encEnt) .i64 ((k : Int) - 1) 45 (by omega) (by simp only [List.length_map]; omega) <| At.a 1 ?_
           refine Exists.elim (gE h.log (((k : Int) - 1).toNat) (by omega)) fun e2 he2 => ?_
           refine At.lVp 3 61 (.tmp 60) false 6 (h.log.map encEnt) (((k : Int) - 1).toNat) 0 false 1 (encEnt e2) (nI e2.term) (mapGet he2) <| At.zD 3 <| AW.cD (e1.term < e2.term) (fun h8 => ?_) (fun h8 => ?_)
           · exact AW.q 1 <| AW.ret (rf (k1 (K_spec_HardOk _ h) (show (false) = _ from by refine hardBad (hR.trans ?_); rw [dropCons he1]; exact logOk_bad2 (by rw [lastT_before (by assumption) he2]; omega)) (KF.n [])))
           refine AW.skip <| AW.g <| At.a 2 <| At.sI 26 ((k : Int) + 1) (by omega) <| At.z 1 ?_
           exact ⟨k + 1, ⟨by omega, by rw [hR, dropCons he1, lastT_next he1]; exact logOk_step (by omega) (by omega) h5n.2.2 (by rw [lastT_before (by assumption) he2]; omega)⟩, (by omega), Sub.o [(101, 101)] (bs 4 10)⟩
         refine At.sB 48 _ _ (sayF h7) <| At.zD 16 <| AW.cond false (by kernel_rfl) (fun h => by cases h) (fun _ => ?_)
         refine AW.skip <| AW.g <| At.a 2 <| At.sI 26 ((k : Int) + 1) (by omega) <| At.z 1 ?_
         exact ⟨k + 1, ⟨by omega, by rw [hR, dropCons he1, lastT_next he1]; exact logOk_step (by omega) (by omega) h5n.2.2 (by obtain rfl : k = 0 := (by omega); show (0 : Int) ≤ _; omega)⟩, (by omega), Sub.o [(101, 101)] (bs 4 10)⟩
       refine At.sB 34 (!(entOk e1)) true (sayNT (sayB (Bool.eq_false_iff.2 h5))) ?_
       replace h5 := Bool.eq_false_iff.2 h5
       refine At.zD 30 <| AW.cond true (by kernel_rfl) (fun _ => ?_) (fun h => by cases h)
       exact AW.q 1 <| AW.ret (rf (k1 (K_spec_HardOk _ h) (show (false) = _ from by refine hardBad (hR.trans ?_); rw [dropCons he1]; exact logOk_bad1 (by omega) (by assumption)) (KF.n [])))
     exact AW.exit <| AW.q 1 <| AW.ret (rf (k1 (K_spec_HardOk _ h) (show (true) = _ from by have q : logOk h.term 0 h.log = true := (by rw [hR, List.drop_of_length_le (by omega)]; rfl); have : h.log.length ≤ 80 := (by omega); simp only [hardOk, q, this, h1, h2, decide_true, Bool.and_self]) (KF.n [])))
   refine At.sB 14 (!(inR h.vote 0 5)) true (sayNT (sayB (Bool.eq_false_iff.2 h2))) ?_
   replace h2 := Bool.eq_false_iff.2 h2
   refine At.z 5 <| AW.cond true (by kernel_rfl) (fun _ => ?_) (fun h => by cases h)
   exact AW.q 1 <| AW.ret (rf (k1 (K_spec_HardOk _ h) (show (false) = _ from by simp [hardOk, *]; done) (KF.n [])))
 refine At.sB 8 (!(inR h.term 0 1000000000)) true (sayNT (sayB (Bool.eq_false_iff.2 h1))) ?_
 replace h1 := Bool.eq_false_iff.2 h1
 refine At.z 11 <| AW.cond true (by kernel_rfl) (fun _ => ?_) (fun h => by cases h)
 exact AW.q 1 <| AW.ret (rf (k1 (K_spec_HardOk _ h) (show (false) = _ from by simp [hardOk, *]; done) (KF.n [])))
theorem spec_l10End_spec (r : Raft) : FnSpec Tryz.prog 29 [(raftA r)] [] (nI (r.hard.log.length : Int)) []:= by
 refine FnSpec.of 7 Tryz.func29 rfl Tryz.ntmps29 (by simp) (AW.weakK ?_)
 exact AW.q 2 <| AW.r <| At.a 4 <| At.sL 6 encEnt r.hard.log <| At.z 1 <| AW.ret (rf (KF.n []))
theorem spec_l7Nodes_spec (list : List Int) (of_ : Int) (hl : list.length ≤ 1048576) (ho : 0 ≤ of_ ∧ of_ ≤ 1000) : FnSpec Tryz.prog 30 [.sl false 1 (list.map encI), nI of_] [] (.bool (asc (of_ - 1) (-1) list)) []:= by
 refine FnSpec.of 36 Tryz.func30 rfl Tryz.ntmps30 (by simp) (AW.weakK ?_)
 refine AW.q 1 <| AW.seq <| AW.q 1 <| AW.block <| AW.loopW (fun (k : Nat) => Go.Sy.mk [.sl false 1 (list.map encI), nI of_, .un, .un, .un, nI (k : Int)] []) (fun k => k ≤ list.length ∧ ∃ p : Int, (k = 0 → p = -1) ∧ (∀ e, 0 < k → list[k - 1]? = some e → e = p) ∧ asc (of_ - 1) (-1) list = asc (of_ - 1) p (list.drop k)) (fun k => list.length - k) 0 ⟨by omega, -1, by omega, by omega, by rw [List.drop_zero]⟩ (Sub.o [] (bs 6 35)) ?_
 rintro k ⟨hk, p, hp0, hp1, hR⟩
 refine AW.seq <| AW.r <| At.a 3 <| At.sL 8 encI list <| At.z 1 <| AW.cD ((k : Int) < (list.length : Int)) (fun h1 => ?_) (fun h1 => ?_)
 · refine AW.skip <| AW.seq <| AW.block <| AW.seq <| AW.gD Tryz_mix <| At.a 2 <| At.iSl 27 14 (.tmp 12) (.tmp 13) false 1 (list.map encI) .i64 (k : Int) 3 (by omega) (by simp only [List.length_map]; omega) ?_
   refine Exists.elim (gE list k (by omega)) fun e1 he1 => ?_
   refine At.lVp 3 15 (.tmp 14) false 1 (list.map encI) k 0 false 1 (encI e1) (nI e1) (mapGet he1) <| At.a 2 <| At.sI 17 (of_ - 1) (by omega) <| At.c (spec_l1In_spec e1 0 (of_ - 1)) Tryz.call27 true [] [] [] trivial <| At.a 2 ?_
   by_cases h2 : (inR e1 0 (of_ - 1)) = true
   · refine At.sB 20 (!(inR e1 0 (of_ - 1))) false (sayNF (sayB h2)) ?_
     have h2i := inR_iff.1 h2
     refine At.a 3 ?_
     by_cases h3 : (k : Int) > 0
     · refine At.sB 23 _ _ (sayT h3) <| At.a 3 <| At.sI 26 ((k : Int) - 1) (by omega) <| At.iSl 27 27 (.tmp 24) (.tmp 26) false 1 (list.map encI) .i64 ((k : Int) - 1) 3 (by omega) (by simp only [List.length_map]; omega) ?_
       refine Exists.elim (gE list (((k : Int) - 1).toNat) (by omega)) fun e2 he2 => ?_
       have qe2 := hp1 e2 (by omega) (by rw [show k - 1 = ((k : Int) - 1).toNat from by omega]; exact he2)
       refine At.lVp 3 28 (.tmp 27) false 1 (list.map encI) (((k : Int) - 1).toNat) 0 false 1 (encI e2) (nI e2) (mapGet he2) <| At.a 2 <| At.iSl 27 31 (.tmp 29) (.tmp 30) false 1 (list.map encI) .i64 (k : Int) 3 (by omega) (by simp only [List.length_map]; omega) <| At.lVp 3 32 (.tmp 31) false 1 (list.map encI) k 0 false 1 (encI e1) (nI e1) (mapGet he1) <| At.zD 3 <| AW.cD (e2 ≥ e1) (fun h4 => ?_) (fun h4 => ?_)
       · refine AW.q 1 <| AW.ret ?_
         refine ⟨_, Sub.refl _ _, ?_⟩
         refine KF.conv (fun w => .bool w) (fun w => []) (show (false) = (asc (of_ - 1) (-1) list) from by rw [hR, dropCons he1]; exact asc_bad2 (by omega)) ?_
         exact KF.n []
       refine AW.skip <| AW.g <| At.a 2 <| At.sI 11 ((k : Int) + 1) (by omega) <| At.z 1 ?_
       exact ⟨k + 1, ⟨by omega, e1, by omega, at_k he1, by have i1 := inR_iff.1 (show inR e1 0 (of_ - 1) = true by simpa using h2); rw [hR, dropCons he1]; exact asc_step (by simpa using h2) (by omega)⟩, (by omega), Sub.o [] (bs 6 35)⟩
     refine At.sB 23 _ _ (sayF h3) <| At.zD 12 <| AW.cond false (by kernel_rfl) (fun h => by cases h) (fun _ => ?_)
     refine AW.skip <| AW.g <| At.a 2 <| At.sI 11 ((k : Int) + 1) (by omega) <| At.z 1 ?_
     exact ⟨k + 1, ⟨by omega, e1, by omega, at_k he1, by have i1 := inR_iff.1 (show inR e1 0 (of_ - 1) = true by simpa using h2); rw [hR, dropCons he1]; exact asc_step (by simpa using h2) (by omega)⟩, (by omega), Sub.o [] (bs 6 35)⟩
   refine At.sB 20 (!(inR e1 0 (of_ - 1))) true (sayNT (sayB (Bool.eq_false_iff.2 h2))) ?_
   replace h2 := Bool.eq_false_iff.2 h2
   refine At.zD 15 <| AW.cond true (by kernel_rfl) (fun _ => ?_) (fun h => by cases h)
   refine AW.q 1 <| AW.ret ?_
   refine ⟨_, Sub.refl _ _, ?_⟩
   refine KF.conv (fun w => .bool w) (fun w => []) (show (false) = (asc (of_ - 1) (-1) list) from by rw [hR, dropCons he1]; exact asc_bad1 (by assumption)) ?_
   exact KF.n []
 refine AW.exit <| AW.q 1 <| AW.ret ?_
 refine ⟨_, Sub.refl _ _, ?_⟩
 refine KF.conv (fun w => .bool w) (fun w => []) (show (true) = (asc (of_ - 1) (-1) list) from by rw [hR, List.drop_of_length_le (by omega)]; rfl) ?_
 exact KF.n []
theorem spec_l7Has_spec (list : List Int) (x : Int) (hl : list.length ≤ 1048576) : FnSpec Tryz.prog 31 [.sl false 1 (list.map encI), nI x] [] (.bool (hasI x list)) []:= by
 refine FnSpec.of 18 Tryz.func31 rfl Tryz.ntmps31 (by simp) (AW.weakK ?_)
 refine AW.q 1 <| AW.seq <| AW.q 1 <| AW.block <| AW.loopW (fun (k : Nat) => Go.Sy.mk [.sl false 1 (list.map encI), nI x, .un, .un, .un, nI (k : Int)] []) (fun k => k ≤ list.length ∧ hasI x list = hasI x (list.drop k)) (fun k => list.length - k) 0 ⟨by omega, by rw [List.drop_zero]⟩ (Sub.o [] (bs 6 35)) ?_
 rintro k ⟨hk, hR⟩
 refine AW.seq <| AW.r <| At.a 3 <| At.sL 8 encI list <| At.z 1 <| AW.cD ((k : Int) < (list.length : Int)) (fun h1 => ?_) (fun h1 => ?_)
 · refine AW.skip <| AW.seq <| AW.block <| AW.r <| At.a 2 <| At.iSl 27 14 (.tmp 12) (.tmp 13) false 1 (list.map encI) .i64 (k : Int) 3 (by omega) (by simp only [List.length_map]; omega) ?_
   refine Exists.elim (gE list k (by omega)) fun e1 he1 => ?_
   refine At.lVp 3 15 (.tmp 14) false 1 (list.map encI) k 0 false 1 (encI e1) (nI e1) (mapGet he1) <| At.z 2 <| AW.cE e1 x (fun h2 => ?_) (fun h2 => ?_)
   · refine AW.q 1 <| AW.ret ?_
     refine ⟨_, Sub.refl _ _, ?_⟩
     refine KF.conv (fun w => .bool w) (fun w => []) (show (true) = (hasI x list) from by rw [hR]; rw [dropCons ‹_›]; simp_all [hasI]) ?_
     exact KF.n []
   refine AW.skip <| AW.g <| At.a 2 <| At.sI 11 ((k : Int) + 1) (by omega) <| At.z 1 ?_
   exact ⟨k + 1, ⟨by omega, by rw [hR, dropCons ‹_›]; simp_all [hasI]⟩, by omega, Sub.o [] (bs 6 35)⟩
 refine AW.exit <| AW.q 1 <| AW.ret ?_
 refine ⟨_, Sub.refl _ _, ?_⟩
 refine KF.conv (fun w => .bool w) (fun w => []) (show (false) = (hasI x list) from by rw [hR]; rw [List.drop_of_length_le (by omega)]; rfl) ?_
 exact KF.n []
def K_spec_RaftOk (rs : List ResultVar) (r : Raft) (w0_ : Bool) : Exit → Sg → Prop := KF Tryz.prog 0 rs (.bool w0_) []
theorem spec_RaftOk_spec (r : Raft) (hz : SmallR r) : FnSpec Tryz.prog 11 [(raftA r)] [] (.bool (raftOk r)) []:= by
 obtain ⟨z1, z2, z3, z4⟩ := id hz
 refine FnSpec.of 143 Tryz.func11 rfl Tryz.ntmps11 (by simp) (AW.weakK ?_)
 refine AW.q 2 <| AW.seq <| AW.seq <| AW.cut [(101, 101)] [false, true] 59 (!(raftOk1 r)) ?_ ?_
 · refine AW.gD Tryz_mix <| At.a 2 <| At.c (spec_l7Of_spec r.of_) Tryz.call26 true [] [] [] trivial <| At.a 2 ?_
   by_cases h1 : (ofOk r.of_) = true
   · refine At.sB 8 (!(ofOk r.of_)) false (sayNF (sayB h1)) ?_
     have h1o := ofOk_iff.1 h1
     refine At.a 5 <| At.sI 13 (r.of_ - 1) (by omega) <| At.c (spec_l1In_spec r.id 0 (r.of_ - 1)) Tryz.call27 true [] [] [] trivial <| At.a 3 ?_
     by_cases h2 : (inR r.id 0 (r.of_ - 1)) = true
     · refine At.sB 17 (!(inR r.id 0 (r.of_ - 1))) false (sayNF (sayB h2)) ?_
       have h2i := inR_iff.1 h2
       refine At.a 2 <| At.c (spec_l1In_spec r.role 1 3) Tryz.call27 true [] [] [] trivial <| At.a 3 ?_
       by_cases h3 : (inR r.role 1 3) = true
       · refine At.sB 23 (!(inR r.role 1 3)) false (sayNF (sayB h3)) ?_
         have h3i := inR_iff.1 h3
         refine At.a 2 <| At.c (spec_HardOk_spec r.hard (by omega)) Tryz.call28 true [] [] [] trivial <| At.a 3 ?_
         by_cases h4 : (hardOk r.hard) = true
         · refine At.sB 29 (!(hardOk r.hard)) false (sayNF (sayB h4)) <| At.a 3 <| At.c (spec_l10End_spec r) Tryz.call29 true [] [] [] trivial <| At.c (spec_l1In_spec r.commit 0 (r.hard.log.length : Int)) Tryz.call27 true [] [] [] trivial <| At.a 3 ?_
           by_cases h5 : (inR r.commit 0 (r.hard.log.length : Int)) = true
           · refine At.sB 37 (!(inR r.commit 0 (r.hard.log.length : Int))) false (sayNF (sayB h5)) ?_
             have h5i := inR_iff.1 h5
             refine At.a 3 <| At.sL 40 encI r.yes <| At.a 5 ?_
             by_cases h6 : (r.yes.length : Int) > r.of_
             · refine At.sB 45 _ _ (sayT h6) <| At.a 14 <| At.sB 59 true (!(raftOk1 r)) (congrArg V.bool (by have q : raftOk1 r = false := Bool.eq_false_iff.2 (fun h => by have := raftOk1_len h; omega); simp [q])) <| At.done rfl ⟨by kernel_rfl, rfl, ?_⟩
               exact Sub.ct [(101, 101)] [false, true] 59 _
             refine At.sB 45 _ _ (sayF h6) <| At.a 4 <| At.c (spec_l7Nodes_spec r.yes r.of_ (by omega) (by omega)) Tryz.call30 true [] [] [] trivial <| At.a 3 ?_
             by_cases h7 : (asc (r.of_ - 1) (-1) r.yes) = true
             · refine At.sB 53 (!(asc (r.of_ - 1) (-1) r.yes)) false (sayNF (sayB h7)) <| At.a 4 <| At.c (spec_l7Has_spec r.yes r.id (by omega)) Tryz.call31 true [] [] [] trivial <| At.a 1 <| At.sB 59 (hasI r.id r.yes) (!(raftOk1 r)) (congrArg V.bool (by simp [raftOk1, h1, h2, h3, h4, h5, h6, h7]; done)) <| At.done rfl ⟨by kernel_rfl, rfl, ?_⟩
               exact Sub.ct [(101, 101)] [false, true] 59 _
             refine At.sB 53 (!(asc (r.of_ - 1) (-1) r.yes)) true (sayNT (sayB (Bool.eq_false_iff.2 h7))) ?_
             replace h7 := Bool.eq_false_iff.2 h7
             refine At.a 6 <| At.sB 59 true (!(raftOk1 r)) (congrArg V.bool (by simp [raftOk1, h1, h2, h3, h4, h5, h6, h7]; done)) <| At.done rfl ⟨by kernel_rfl, rfl, ?_⟩
             exact Sub.ct [(101, 101)] [false, true] 59 _
           refine At.sB 37 (!(inR r.commit 0 (r.hard.log.length : Int))) true (sayNT (sayB (Bool.eq_false_iff.2 h5))) ?_
           replace h5 := Bool.eq_false_iff.2 h5
           refine At.a 22 <| At.sB 59 true (!(raftOk1 r)) (congrArg V.bool (by simp [raftOk1, h1, h2, h3, h4, h5]; done)) <| At.done rfl ⟨by kernel_rfl, rfl, ?_⟩
           exact Sub.ct [(101, 101)] [false, true] 59 _
         refine At.sB 29 (!(hardOk r.hard)) true (sayNT (sayB (Bool.eq_false_iff.2 h4))) ?_
         replace h4 := Bool.eq_false_iff.2 h4
         refine At.a 30 <| At.sB 59 true (!(raftOk1 r)) (congrArg V.bool (by simp [raftOk1, h1, h2, h3, h4]; done)) <| At.done rfl ⟨by kernel_rfl, rfl, ?_⟩
         exact Sub.ct [(101, 101)] [false, true] 59 _
       refine At.sB 23 (!(inR r.role 1 3)) true (sayNT (sayB (Bool.eq_false_iff.2 h3))) ?_
       replace h3 := Bool.eq_false_iff.2 h3
       refine At.a 36 <| At.sB 59 true (!(raftOk1 r)) (congrArg V.bool (by simp [raftOk1, h1, h2, h3]; done)) <| At.done rfl ⟨by kernel_rfl, rfl, ?_⟩
       exact Sub.ct [(101, 101)] [false, true] 59 _
     refine At.sB 17 (!(inR r.id 0 (r.of_ - 1))) true (sayNT (sayB (Bool.eq_false_iff.2 h2))) ?_
     replace h2 := Bool.eq_false_iff.2 h2
     refine At.a 42 <| At.sB 59 true (!(raftOk1 r)) (congrArg V.bool (by simp [raftOk1, h1, h2]; done)) <| At.done rfl ⟨by kernel_rfl, rfl, ?_⟩
     exact Sub.ct [(101, 101)] [false, true] 59 _
   refine At.sB 8 (!(ofOk r.of_)) true (sayNT (sayB (Bool.eq_false_iff.2 h1))) ?_
   replace h1 := Bool.eq_false_iff.2 h1
   refine At.a 51 <| At.sB 59 true (!(raftOk1 r)) (congrArg V.bool (by simp [raftOk1, h1]; done)) <| At.done rfl ⟨by kernel_rfl, rfl, ?_⟩
   exact Sub.ct [(101, 101)] [false, true] 59 _
 refine AW.cNB (raftOk1 r) (fun h8 => ?_) (fun h8 => ?_)
 · exact AW.q 1 <| AW.ret (rf (k1 (K_spec_RaftOk _ r) (show (false) = _ from by grind [raftOk, raftOk3]) (KF.n [])))
 have h8n := raftOk1_nums h8
 refine AW.skip <| AW.seq <| AW.seq <| AW.cut [(101, 101)] [false, true] 88 (!(raftOk2 r)) ?_ ?_
 · refine AW.g <| At.a 4 ?_
   by_cases h9 : r.role = 2
   · refine At.sB 63 _ _ (sayUF h9) <| At.a 10 ?_
     by_cases h10 : r.role = 1
     · refine At.sB 73 _ _ (sayUF h10) <| At.a 15 <| At.sB 88 false (!(raftOk2 r)) (congrArg V.bool (by grind [raftOk2])) <| At.done rfl ⟨rfl, ?_⟩
       exact Sub.ct [(101, 101)] [false, true] 88 _
     refine At.sB 73 _ _ (sayUT h10) <| At.a 5 ?_
     by_cases h11 : r.hard.term < 1
     · refine At.sB 78 _ _ (sayT h11) <| At.a 10 <| At.sB 88 true (!(raftOk2 r)) (congrArg V.bool (by grind [raftOk2])) <| At.done rfl ⟨rfl, ?_⟩
       exact Sub.ct [(101, 101)] [false, true] 88 _
     refine At.sB 78 _ _ (sayF h11) <| At.a 6 <| At.sI 84 (r.id + 1) (by omega) <| At.a 4 <| At.sB 88 (r.hard.vote != (r.id + 1)) (!(raftOk2 r)) (congrArg V.bool (by grind [raftOk2])) <| At.done rfl ⟨rfl, ?_⟩
     exact Sub.ct [(101, 101)] [false, true] 88 _
   refine At.sB 63 _ _ (sayUT h9) <| At.a 3 <| At.sL 66 encI r.yes <| At.a 3 ?_
   by_cases h12 : (r.yes.length : Int) > 0
   · refine At.sB 69 _ _ (sayT h12) <| At.a 19 <| At.sB 88 true (!(raftOk2 r)) (congrArg V.bool (by grind [raftOk2])) <| At.done rfl ⟨rfl, ?_⟩
     exact Sub.ct [(101, 101)] [false, true] 88 _
   refine At.sB 69 _ _ (sayF h12) <| At.a 4 ?_
   by_cases h13 : r.role = 1
   · refine At.sB 73 _ _ (sayUF h13) <| At.a 15 <| At.sB 88 false (!(raftOk2 r)) (congrArg V.bool (by grind [raftOk2])) <| At.done rfl ⟨rfl, ?_⟩
     exact Sub.ct [(101, 101)] [false, true] 88 _
   refine At.sB 73 _ _ (sayUT h13) <| At.a 5 ?_
   by_cases h14 : r.hard.term < 1
   · refine At.sB 78 _ _ (sayT h14) <| At.a 10 <| At.sB 88 true (!(raftOk2 r)) (congrArg V.bool (by grind [raftOk2])) <| At.done rfl ⟨rfl, ?_⟩
     exact Sub.ct [(101, 101)] [false, true] 88 _
   refine At.sB 78 _ _ (sayF h14) <| At.a 6 <| At.sI 84 (r.id + 1) (by omega) <| At.a 4 <| At.sB 88 (r.hard.vote != (r.id + 1)) (!(raftOk2 r)) (congrArg V.bool (by grind [raftOk2])) <| At.done rfl ⟨rfl, ?_⟩
   exact Sub.ct [(101, 101)] [false, true] 88 _
 refine AW.cNB (raftOk2 r) (fun h15 => ?_) (fun h15 => ?_)
 · exact AW.q 1 <| AW.ret (rf (k1 (K_spec_RaftOk _ r) (show (false) = _ from by grind [raftOk, raftOk3]) (KF.n [])))
 refine AW.skip <| AW.seq <| AW.q 3 <| AW.cU r.role (3 : Int) (fun h16 => ?_) (fun h16 => ?_)
 · refine AW.r <| At.a 3 <| At.sL 94 encI r.next <| At.a 2 ?_
   by_cases h17 : (r.next.length : Int) = 0
   · exact At.sB 96 _ _ (sayET h17) <| At.a 3 <| At.sL 99 encI r.match_ <| At.z 3 <| AW.ret (rf (k1 (K_spec_RaftOk _ r) (show ((r.match_.length : Int) == 0) = _ from by grind [raftOk, raftOk3]) (KF.n [])))
   exact At.sB 96 _ _ (sayEF h17) <| At.z 6 <| AW.ret (rf (k1 (K_spec_RaftOk _ r) (show (false) = _ from by grind [raftOk, raftOk3]) (KF.n [])))
 refine AW.skip <| AW.seq <| AW.r <| At.a 3 <| At.sL 104 encI r.next <| At.a 4 ?_
 by_cases h18 : (r.next.length : Int) = r.of_
 · refine At.sB 108 _ _ (sayUF h18) <| At.a 3 <| At.sL 111 encI r.match_ <| At.z 4 <| AW.cU (r.match_.length : Int) r.of_ (fun h19 => ?_) (fun h19 => ?_)
   · exact AW.q 1 <| AW.ret (rf (k1 (K_spec_RaftOk _ r) (show (false) = _ from by grind [raftOk, raftOk3]) (KF.n [])))
   refine AW.skip <| AW.seq <| AW.q 1 <| AW.block <| AW.loopW (fun (k : Nat) => Go.Sy.mk [.un, .ptr 101 0 0, .un, nI (k : Int)] [(101, .box 29 (rV r))]) (fun k => (k : Int) ≤ r.of_ ∧ allIn 1 (r.hard.log.length + 1) r.next = allIn 1 (r.hard.log.length + 1) (r.next.drop k) ∧ allIn 0 r.hard.log.length r.match_ = allIn 0 r.hard.log.length (r.match_.drop k)) (fun k => r.of_.toNat - k) 0 ⟨by omega, by rw [List.drop_zero], by rw [List.drop_zero]⟩ (Sub.o [(101, 101)] (bs 4 10)) ?_
   rintro k ⟨hk, hR1, hR2⟩
   refine AW.seq <| AW.q 4 <| AW.cD ((k : Int) < r.of_) (fun h20 => ?_) (fun h20 => ?_)
   · refine AW.skip <| AW.seq <| AW.block <| AW.seq <| AW.gD Tryz_mix <| At.a 3 <| At.iSl 27 125 (.tmp 123) (.tmp 124) false 1 (r.next.map encI) .i64 (k : Int) 3 (by omega) (by simp only [List.length_map]; omega) ?_
     refine Exists.elim (gE r.next k (by omega)) fun e1 he1 => ?_
     refine At.lVp 3 126 (.tmp 125) false 1 (r.next.map encI) k 0 false 1 (encI e1) (nI e1) (mapGet he1) <| At.a 1 <| At.c (spec_l10End_spec r) Tryz.call29 true [] [] [] trivial <| At.a 1 <| At.sI 129 ((r.hard.log.length : Int) + 1) (by omega) <| At.c (spec_l1In_spec e1 1 ((r.hard.log.length : Int) + 1)) Tryz.call27 true [] [] [] trivial <| At.a 2 ?_
     by_cases h21 : (inR e1 1 ((r.hard.log.length : Int) + 1)) = true
     · refine At.sB 132 (!(inR e1 1 ((r.hard.log.length : Int) + 1))) false (sayNF (sayB h21)) ?_
       have h21i := inR_iff.1 h21
       refine At.a 3 <| At.iSl 27 136 (.tmp 134) (.tmp 135) false 1 (r.match_.map encI) .i64 (k : Int) 3 (by omega) (by simp only [List.length_map]; omega) ?_
       refine Exists.elim (gE r.match_ k (by omega)) fun e2 he2 => ?_
       refine At.lVp 3 137 (.tmp 136) false 1 (r.match_.map encI) k 0 false 1 (encI e2) (nI e2) (mapGet he2) <| At.a 1 <| At.c (spec_l10End_spec r) Tryz.call29 true [] [] [] trivial <| At.c (spec_l1In_spec e2 0 (r.hard.log.length : Int)) Tryz.call27 true [] [] [] trivial <| At.zD 2 <| AW.cNB (inR e2 0 (r.hard.log.length : Int)) (fun h22 => ?_) (fun h22 => ?_)
       · exact AW.q 1 <| AW.ret (rf (k1 (K_spec_RaftOk _ r) (show (false) = _ from by rw [dropCons he2] at hR2; grind [raftOk, raftOk3, allIn]) (KF.n [])))
       have h22i := inR_iff.1 h22
       refine AW.skip <| AW.g <| At.a 2 <| At.sI 121 ((k : Int) + 1) (by omega) <| At.z 1 ?_
       exact ⟨k + 1, ⟨by omega, by rw [hR1, dropCons he1, allIn]; simp only [*, Bool.true_and], by rw [hR2, dropCons he2, allIn]; simp only [*, Bool.true_and]⟩, (by omega), Sub.o [(101, 101)] (bs 4 10)⟩
     refine At.sB 132 (!(inR e1 1 ((r.hard.log.length : Int) + 1))) true (sayNT (sayB (Bool.eq_false_iff.2 h21))) ?_
     replace h21 := Bool.eq_false_iff.2 h21
     refine At.zD 10 <| AW.cond true (by kernel_rfl) (fun _ => ?_) (fun h => by cases h)
     exact AW.q 1 <| AW.ret (rf (k1 (K_spec_RaftOk _ r) (show (false) = _ from by rw [dropCons he1] at hR1; grind [raftOk, raftOk3, allIn]) (KF.n [])))
   exact AW.exit <| AW.q 1 <| AW.ret (rf (k1 (K_spec_RaftOk _ r) (show (true) = _ from by rw [List.drop_of_length_le (by omega)] at hR1 hR2; grind [raftOk, raftOk3, allIn]) (KF.n [])))
 refine At.sB 108 _ _ (sayUT h18) <| At.z 7 <| AW.cond true (by kernel_rfl) (fun _ => ?_) (fun h => by cases h)
 exact AW.q 1 <| AW.ret (rf (k1 (K_spec_RaftOk _ r) (show (false) = _ from by grind [raftOk, raftOk3]) (KF.n [])))
def K_spec_RaftNew (rs : List ResultVar) (id : Int) (of_ : Int) (h : Hard) (w0_ : Raft) (w1_ : Bool) : Exit → Sg → Prop := KF Tryz.prog 0 rs (.tup [.agg (rC w0_ (.ref 0) (.ref 1) (.ref 2) (.ref 3)), .bool w1_]) [.arr 45 6 (w0_.hard.log.map encEnt), .arr 3 1 (w0_.yes.map encI), .arr 3 1 (w0_.next.map encI), .arr 3 1 (w0_.match_.map encI)]
theorem spec_RaftNew_spec (id : Int) (of_ : Int) (h : Hard) (hl : h.log.length ≤ 1048576) : FnSpec Tryz.prog 79 [nI id, nI of_, .agg [nI h.term, nI h.vote, .sl false 6 (h.log.map encEnt)]] [] (.tup [.agg (rC ((newR id of_ h).1) (.ref 0) (.ref 1) (.ref 2) (.ref 3)), .bool ((newR id of_ h).2)]) [.arr 45 6 ((((newR id of_ h).1).hard.log).map encEnt), .arr 3 1 ((((newR id of_ h).1).yes).map encI), .arr 3 1 ((((newR id of_ h).1).next).map encI), .arr 3 1 ((((newR id of_ h).1).match_).map encI)]:= by
 refine FnSpec.of 19 Tryz.func79 rfl Tryz.ntmps79 (by simp) (AW.weakK ?_)
 refine AW.q 3 <| AW.seq <| AW.weak (Sub.nils [⟨true, 106, some 6, 5001, 45, 6⟩, ⟨true, 106, some 7, 5002, 3, 1⟩, ⟨true, 106, some 8, 5003, 3, 1⟩, ⟨true, 106, some 9, 5004, 3, 1⟩] (by kernel_rfl)) <| AW.g <| At.a 3 <| At.c (spec_l6Copy_spec h (by omega)) Tryz.call38 true [] [(1240, 0)] [] trivial <| At.z 3 <| AW.seq <| AW.seq <| AW.weak (Sub.nils [⟨true, 108, some 7, 5005, 3, 1⟩, ⟨true, 108, some 8, 5006, 3, 1⟩, ⟨true, 108, some 9, 5007, 3, 1⟩] (by kernel_rfl)) <| AW.g <| At.a 1 <| At.c (spec_RaftOk_spec ⟨id, of_, 1, 0, h, [], [], []⟩ (by unfold SmallR; dsimp only; simp only [List.length_nil]; omega)) Tryz.call11 false [] [] [(1240, 6, (h.log.map encEnt)), (5005, 1, []), (5006, 1, []), (5007, 1, [])] ⟨rfl, ⟨45, (h.log.map encEnt), by kernel_rfl, FrzIs.same (allP_encEnt _)⟩, rfl, ⟨3, [], by kernel_rfl, FrzIs.same (fun _ h => by cases h)⟩, rfl, ⟨3, [], by kernel_rfl, FrzIs.same (fun _ h => by cases h)⟩, rfl, ⟨3, [], by kernel_rfl, FrzIs.same (fun _ h => by cases h)⟩, trivial⟩ <| At.z 1 <| AW.cNB (raftOk (⟨id, of_, 1, 0, h, [], [], []⟩ : Raft)) (fun h1 => ?_) (fun h1 => ?_)
 · refine AW.q 3 <| AW.ret ?_
   refine ⟨_, Sub.nils [⟨true, 106, some 6, 5008, 45, 6⟩, ⟨true, 106, some 7, 5009, 3, 1⟩, ⟨true, 106, some 8, 5010, 3, 1⟩, ⟨true, 106, some 9, 5011, 3, 1⟩] (by kernel_rfl), ?_⟩
   exact k2 (K_spec_RaftNew _ id of_ h) (show ((⟨0, 0, 0, 0, ⟨0, 0, []⟩, [], [], []⟩ : Raft)) = ((newR id of_ h).1) from by rw [newR, if_neg (by simp only [*]; decide)]; rfl) (show (false) = ((newR id of_ h).2) from by rw [newR, if_neg (by simp only [*]; decide)]) (KF.n (fr 5008 0 4))
 have h1n := raftOk1_nums (raftOk_1 h1)
 exact AW.skip <| AW.q 3 <| AW.ret (rf (k2 (K_spec_RaftNew _ id of_ h) (show ((⟨id, of_, 1, 0, h, [], [], []⟩ : Raft)) = _ from by rw [newR, if_pos (by assumption)]) (show (true) = _ from by rw [newR, if_pos (by assumption)]) (KF.n [(1240, 0), (5005, 1), (5006, 2), (5007, 3)])))
theorem spec_l10Copy_spec (r : Raft) (hz : SmallR r) : FnSpec Tryz.prog 127 [(raftA r)] [] (.agg (rC r (.ref 0) (.ref 1) (.ref 2) (.ref 3))) [.arr 45 6 (r.hard.log.map encEnt), .arr 3 1 (r.yes.map encI), .arr 3 1 (r.next.map encI), .arr 3 1 (r.match_.map encI)]:= by
 obtain ⟨z1, z2, z3, z4⟩ := id hz
 refine FnSpec.of 25 Tryz.func127 rfl Tryz.ntmps127 (by simp) (AW.weakK ?_)
 refine AW.q 2 <| AW.seq <| AW.weak (Sub.nils [⟨true, 102, some 6, 5001, 45, 6⟩, ⟨true, 102, some 7, 5002, 3, 1⟩, ⟨true, 102, some 8, 5003, 3, 1⟩, ⟨true, 102, some 9, 5004, 3, 1⟩] (by kernel_rfl)) <| AW.gq 3 <| AW.r <| At.a 2 <| At.c (spec_l6Copy_spec r.hard (by omega)) Tryz.call38 true [] [(1140, 0)] [] trivial <| At.z 2 <| AW.r <| At.l0 27 9 3 1 8 109 <| At.a 2 <| At.append (t := 27) (d := 12) (e := 3) (es := 1) (bytes := 8) (s := .tmp 9) (x := .tmp 11) (S := .ref 109) (T := .sl false 1 (r.yes.map encI)) (xs := []) (ys := (r.yes.map encI)) 112 [109] [] (r.yes.map encI) (by kernel_rfl) (by kernel_rfl) (by kernel_rfl) (by kernel_rfl) ⟨by kernel_rfl, rfl⟩ ⟨rfl, rfl, (allP_encI _), rfl⟩ (by kernel_rfl) (by kernel_rfl) (by simp) (by simp only [List.length_map, lens]; omega) (by simp only [List.length_map, lens]; omega) <| At.z 2 <| AW.r <| At.l0 27 14 3 1 8 114 <| At.a 2 <| At.append (t := 27) (d := 17) (e := 3) (es := 1) (bytes := 8) (s := .tmp 14) (x := .tmp 16) (S := .ref 114) (T := .sl false 1 (r.next.map encI)) (xs := []) (ys := (r.next.map encI)) 117 [114] [] (r.next.map encI) (by kernel_rfl) (by kernel_rfl) (by kernel_rfl) (by kernel_rfl) ⟨by kernel_rfl, rfl⟩ ⟨rfl, rfl, (allP_encI _), rfl⟩ (by kernel_rfl) (by kernel_rfl) (by simp) (by simp only [List.length_map, lens]; omega) (by simp only [List.length_map, lens]; omega) <| At.z 2 <| AW.r <| At.l0 27 19 3 1 8 119 <| At.a 2 <| At.append (t := 27) (d := 22) (e := 3) (es := 1) (bytes := 8) (s := .tmp 19) (x := .tmp 21) (S := .ref 119) (T := .sl false 1 (r.match_.map encI)) (xs := []) (ys := (r.match_.map encI)) 122 [119] [] (r.match_.map encI) (by kernel_rfl) (by kernel_rfl) (by kernel_rfl) (by kernel_rfl) ⟨by kernel_rfl, rfl⟩ ⟨rfl, rfl, (allP_encI _), rfl⟩ (by kernel_rfl) (by kernel_rfl) (by simp) (by simp only [List.length_map, lens]; omega) (by simp only [List.length_map, lens]; omega) ?_
 exact At.z 2 <| AW.q 2 <| AW.ret (rf (KF.n [(1140, 0), (112, 1), (117, 2), (122, 3)]))
def K_spec_l10Same (rs : List ResultVar) (r : Raft) (w0_ : Raft) : Exit → Sg → Prop := KF Tryz.prog 0 rs (.agg (rC w0_ (.ref 0) (.ref 1) (.ref 2) (.ref 3))) [.arr 45 6 (w0_.hard.log.map encEnt), .arr 3 1 (w0_.yes.map encI), .arr 3 1 (w0_.next.map encI), .arr 3 1 (w0_.match_.map encI)]
theorem spec_l10Same_spec (r : Raft) (hz : SmallR r) : FnSpec Tryz.prog 101 [(raftA r)] [] (.agg (rC (same r) (.ref 0) (.ref 1) (.ref 2) (.ref 3))) [.arr 45 6 (((same r).hard.log).map encEnt), .arr 3 1 (((same r).yes).map encI), .arr 3 1 (((same r).next).map encI), .arr 3 1 (((same r).match_).map encI)]:= by
 obtain ⟨z1, z2, z3, z4⟩ := id hz
 refine FnSpec.of 9 Tryz.func101 rfl Tryz.ntmps101 (by simp) (AW.weakK ?_)
 refine AW.q 2 <| AW.seq <| AW.seq <| AW.weak (Sub.nils [⟨true, 102, some 6, 5001, 45, 6⟩, ⟨true, 102, some 7, 5002, 3, 1⟩, ⟨true, 102, some 8, 5003, 3, 1⟩, ⟨true, 102, some 9, 5004, 3, 1⟩] (by kernel_rfl)) <| AW.g <| At.a 1 <| At.c (spec_RaftOk_spec r hz) Tryz.call11 true [] [] [] trivial <| At.z 1 <| AW.cNB (raftOk r) (fun h1 => ?_) (fun h1 => ?_)
 · refine AW.q 2 <| AW.ret ?_
   refine ⟨_, Sub.nils [⟨true, 102, some 6, 5005, 45, 6⟩, ⟨true, 102, some 7, 5006, 3, 1⟩, ⟨true, 102, some 8, 5007, 3, 1⟩, ⟨true, 102, some 9, 5008, 3, 1⟩] (by kernel_rfl), ?_⟩
   exact k1 (K_spec_l10Same _ r) (show ((⟨0, 0, 0, 0, ⟨0, 0, []⟩, [], [], []⟩ : Raft)) = (same r) from by simp only [same, h1, if_true] <;> rfl) (KF.n (fr 5005 0 4))
 have h1n := raftOk1_nums (raftOk_1 h1)
 exact AW.skip <| AW.r <| At.a 1 <| At.c (spec_l10Copy_spec r hz) Tryz.call127 true [] (fr 1160 0 4) [] trivial <| At.z 1 <| AW.ret (rf (k1 (K_spec_l10Same _ r) (show (r) = _ from by simp only [same, h1, if_true] <;> rfl) (KF.n (fr 1160 0 4))))
theorem spec_l10Same_T_spec (r : Raft) (hz : SmallR r) (hok : raftOk r = true) : FnSpec Tryz.prog 101 [(raftA r)] [] (.agg (rC r (.ref 0) (.ref 1) (.ref 2) (.ref 3))) [.arr 45 6 (r.hard.log.map encEnt), .arr 3 1 (r.yes.map encI), .arr 3 1 (r.next.map encI), .arr 3 1 (r.match_.map encI)]:= by have := spec_l10Same_spec r hz; rw [show same r = r from if_pos hok] at this; exact this
theorem spec_l10Same_F_spec (r : Raft) (hz : SmallR r) (hok : ¬ raftOk r = true) : FnSpec Tryz.prog 101 [(raftA r)] [] (.agg [nI 0, nI 0, nI 0, nI 0, nI 0, nI 0, .ref 0, .ref 1, .ref 2, .ref 3]) [.arr 45 6 [], .arr 3 1 [], .arr 3 1 [], .arr 3 1 []]:= by have := spec_l10Same_spec r hz; rw [show same r = zRaft from if_neg hok] at this; exact this
theorem spec_l10Vote_spec (r : Raft) : FnSpec Tryz.prog 102 [(raftA r)] [] (.agg [nI 1, nI r.hard.term, nI r.hard.vote, nI 0, nI 0, nI 0, nI 0, nI 0, nI 0, .str eB]) []:= by
 refine FnSpec.of 10 Tryz.func102 rfl Tryz.ntmps102 (by simp) (AW.weakK ?_)
 exact AW.q 2 <| AW.q 8 <| AW.ret (rf (KF.n []))
def K_spec_l10Put (rs : List ResultVar) (r : Raft) (e : Ent) (recs : List Rec) (w0_ : Raft) (w1_ : List Rec) : Exit → Sg → Prop := KF Tryz.prog 5 rs (.tup [.agg (rC w0_ (.ref 5) (.ref 1) (.ref 2) (.ref 3)), .ref 6]) [.arr 45 6 (r.hard.log.map encEnt), .arr 3 1 (r.yes.map encI), .arr 3 1 (r.next.map encI), .arr 3 1 (r.match_.map encI), .dead, .arr 45 6 (w0_.hard.log.map encEnt), .arr 47 10 (w1_.map encRec)]
theorem spec_l10Put_spec (r : Raft) (e : Ent) (recs : List Rec) (hl : r.hard.log.length ≤ 1048576) (hr : recs.length ≤ 1048576) : FnSpec Tryz.prog 105 [.agg (rC r (.ref 0) (.ref 1) (.ref 2) (.ref 3)), .agg [nI e.term, nI e.cmd.kind, nI e.cmd.release, nI e.cmd.node, nI e.cmd.size, .str e.cmd.digest], .ref 4] [.arr 45 6 (r.hard.log.map encEnt), .arr 3 1 (r.yes.map encI), .arr 3 1 (r.next.map encI), .arr 3 1 (r.match_.map encI), .arr 47 10 (recs.map encRec)] (.tup [.agg (rC r (.ref 5) (.ref 1) (.ref 2) (.ref 3)), .ref 6]) [.arr 45 6 (r.hard.log.map encEnt), .arr 3 1 (r.yes.map encI), .arr 3 1 (r.next.map encI), .arr 3 1 (r.match_.map encI), .dead, .arr 45 6 ((r.hard.log ++ [e]).map encEnt), .arr 47 10 ((recs ++ [(⟨2, 0, 0, ((r.hard.log ++ [e]).length : Int), e⟩ : Rec)]).map encRec)]:= by
 refine FnSpec.of 26 Tryz.func105 rfl Tryz.ntmps105 (by simp) (AW.weakK ?_)
 exact AW.q 4 <| AW.seq <| AW.weak (Sub.nils [⟨true, 106, some 6, 5001, 45, 6⟩, ⟨true, 106, some 7, 5002, 3, 1⟩, ⟨true, 106, some 8, 5003, 3, 1⟩, ⟨true, 106, some 9, 5004, 3, 1⟩] (by kernel_rfl)) <| AW.gD Tryz_mix <| At.l0 24 8 45 6 56 108 <| At.a 3 <| At.apC 12 45 6 56 112 108 0 encEnt ([] : List Ent) r.hard.log (by simp only [List.length_map, lens]; omega) (allP_encEnt _) <| At.a 1 <| At.ll 14 45 6 114 (45, 6) (([e]).map encEnt) <| At.apK 15 45 6 56 115 112 114 encEnt r.hard.log ([e]) (by simp only [List.length_map, lens]; omega) <| At.zD 3 <| AW.seq <| AW.gD Tryz_mix <| At.a 3 <| At.c (spec_l10End_spec ⟨r.id, r.of_, r.role, r.commit, ⟨r.hard.term, r.hard.vote, r.hard.log ++ ([e])⟩, r.yes, r.next, r.match_⟩) Tryz.call29 false [] [] [(115, 6, ((r.hard.log ++ ([e])).map encEnt)), (1, 1, (r.yes.map encI)), (2, 1, (r.next.map encI)), (3, 1, (r.match_.map encI))] ⟨rfl, ⟨45, ((r.hard.log ++ ([e])).map encEnt), by kernel_rfl, FrzIs.same (allP_encEnt _)⟩, rfl, ⟨3, (r.yes.map encI), by kernel_rfl, FrzIs.same (allP_encI _)⟩, rfl, ⟨3, (r.next.map encI), by kernel_rfl, FrzIs.same (allP_encI _)⟩, rfl, ⟨3, (r.match_.map encI), by kernel_rfl, FrzIs.same (allP_encI _)⟩, trivial⟩ <| At.a 2 <| At.ll 24 47 10 124 (45, 6) (([(⟨2, 0, 0, ((r.hard.log ++ ([e])).length : Int), e⟩ : Rec)]).map encRec) <| At.apK 25 47 10 88 125 4 124 encRec recs ([(⟨2, 0, 0, ((r.hard.log ++ ([e])).length : Int), e⟩ : Rec)]) (by simp only [List.length_map, lens]; omega) <| At.zD 2 <| AW.ret (rf (k2 (K_spec_l10Put _ r e recs) (show ((⟨r.id, r.of_, r.role, r.commit, ⟨r.hard.term, r.hard.vote, r.hard.log ++ ([e])⟩, r.yes, r.next, r.match_⟩ : Raft)) = (({ r with hard := { r.hard with log := r.hard.log ++ [e] } } : Raft)) from by rfl) (show (recs ++ ([(⟨2, 0, 0, ((r.hard.log ++ ([e])).length : Int), e⟩ : Rec)])) = (recs ++ [(⟨2, 0, 0, ((r.hard.log ++ [e]).length : Int), e⟩ : Rec)]) from by rfl) (KF.n [(0, 0), (1, 1), (2, 2), (3, 3), (4, 4), (115, 5), (125, 6)])))
theorem spec_l10Term_spec (h : Hard) (at_ : Int) (hl : h.log.length ≤ 1048576) : FnSpec Tryz.prog 49 [.agg [nI h.term, nI h.vote, .sl false 6 (h.log.map encEnt)], nI at_] [] (nI (termAt h.log at_)) []:= by
 refine FnSpec.of 21 Tryz.func49 rfl Tryz.ntmps49 (by simp) (AW.weakK ?_)
 refine AW.q 2 <| AW.seq <| AW.r <| At.a 3 ?_
 by_cases h1 : at_ < 1
 · refine At.sB 7 _ _ (sayT h1) <| At.z 6 <| AW.cond true (by kernel_rfl) (fun _ => ?_) (fun h => by cases h)
   refine AW.q 1 <| AW.ret ?_
   refine ⟨_, Sub.refl _ _, ?_⟩
   refine KF.conv (fun w => nI w) (fun w => []) (show (0) = (termAt h.log at_) from by unfold termAt; rw [if_pos (by omega)]) ?_
   exact KF.n []
 refine At.sB 7 _ _ (sayF h1) <| At.a 4 <| At.sL 11 encEnt h.log <| At.z 2 <| AW.cD (at_ > (h.log.length : Int)) (fun h2 => ?_) (fun h2 => ?_)
 · refine AW.q 1 <| AW.ret ?_
   refine ⟨_, Sub.refl _ _, ?_⟩
   refine KF.conv (fun w => nI w) (fun w => []) (show (0) = (termAt h.log at_) from by unfold termAt; rw [if_pos (by omega)]) ?_
   exact KF.n []
 refine AW.skip <| AW.r <| At.a 4 <| At.sI 17 (at_ - 1) (by omega) <| At.iSl 24 18 (.tmp 15) (.tmp 17) false 6 (h.log.map encEnt) .i64 (at_ - 1) 45 (by omega) (by simp only [List.length_map]; omega) <| At.a 1 ?_
 refine Exists.elim (gE h.log ((at_ - 1).toNat) (by omega)) fun e1 he1 => ?_
 refine At.lVp 3 20 (.tmp 19) false 6 (h.log.map encEnt) ((at_ - 1).toNat) 0 false 1 (encEnt e1) (nI e1.term) (mapGet he1) <| At.z 1 <| AW.ret ?_
 refine ⟨_, Sub.refl _ _, ?_⟩
 refine KF.conv (fun w => nI w) (fun w => []) (show (e1.term) = (termAt h.log at_) from by unfold termAt; rw [if_neg (by omega), he1]; rfl) ?_
 exact KF.n []
theorem spec_l1Min_spec (a : Int) (b : Int) : FnSpec Tryz.prog 83 [nI a, nI b] [] (nI (min a b)) []:= by
 refine FnSpec.of 10 Tryz.func83 rfl Tryz.ntmps83 (by simp) (AW.weakK ?_)
 refine AW.q 1 <| AW.seq <| AW.q 3 <| AW.cD (a < b) (fun h1 => ?_) (fun h1 => ?_)
 · refine AW.q 2 <| AW.ret ?_
   refine ⟨_, Sub.refl _ _, ?_⟩
   refine KF.conv (fun w => nI w) (fun w => []) (show (a) = (min a b) from by omega) ?_
   exact KF.n []
 refine AW.skip <| AW.q 2 <| AW.ret ?_
 refine ⟨_, Sub.refl _ _, ?_⟩
 refine KF.conv (fun w => nI w) (fun w => []) (show (b) = (min a b) from by omega) ?_
 exact KF.n []
theorem spec_l10Send_spec (r : Raft) (i : Int) (hz : SmallR r) (hi : 0 ≤ i ∧ i < r.next.length) (hn : NextOk r) : FnSpec Tryz.prog 128 [(raftA r), nI i] [] (.agg ([nI ((sendOf r i).to)] ++ mC ((sendOf r i).msg) (.ref 0))) [.arr 45 6 (((sendOf r i).msg.entries).map encEnt)]:= by
 obtain ⟨z1, z2, z3, z4⟩ := id hz
 refine FnSpec.of 42 Tryz.func128 rfl Tryz.ntmps128 (by simp) (AW.weakK ?_)
 refine AW.q 2 <| AW.seq <| AW.weak (Sub.nils [⟨true, 104, some 16, 5001, 45, 6⟩] (by kernel_rfl)) <| AW.g <| At.a 3 <| At.iSl 27 10 (.tmp 8) (.tmp 9) false 1 (r.next.map encI) .i64 i 3 (by omega) (by simp only [List.length_map]; omega) ?_
 refine Exists.elim (gE r.next ((i).toNat) (by omega)) fun e1 he1 => ?_
 have hxe1 := hn _ (List.mem_of_getElem? he1)
 refine At.lVp 3 11 (.tmp 10) false 1 (r.next.map encI) ((i).toNat) 0 false 1 (encI e1) (nI e1) (mapGet he1) <| At.a 1 <| At.sI 12 (e1 - 1) (by omega) <| At.z 1 <| AW.seq <| AW.gD Tryz_mix <| At.a 9 <| At.c (spec_l10Term_spec r.hard (e1 - 1) (by omega)) Tryz.call49 true [] [] [] trivial <| At.zD 5 <| AW.seq <| AW.weak (Sub.nils [⟨true, 106, some 15, 5002, 45, 6⟩] (by kernel_rfl)) <| AW.gD Tryz_mix <| At.l0 24 26 45 6 56 126 <| At.a 6 <| At.sJ 32 ((e1 - 1) + 6) (e1 + 5) (by omega) (by omega) <| At.a 1 <| At.c (spec_l10End_spec r) Tryz.call29 true [] [] [] trivial <| At.c (spec_l1Min_spec (e1 + 5) (r.hard.log.length : Int)) Tryz.call83 true [] [] [] trivial <| At.sliceSl (t := 24) (d := 36) (e := 45) (es := 6) (x := .tmp 29) (lx := some (.tmp 30)) (hx := some (.tmp 35)) (p := false) (xs := (r.hard.log.map encEnt)) (vl := nI (e1 - 1)) (vh := nI (min (e1 + 5) (r.hard.log.length : Int))) ((e1 - 1).toNat) ((min (e1 + 5) (r.hard.log.length : Int)).toNat) (((r.hard.log.drop ((e1 - 1).toNat)).take (((min (e1 + 5) (r.hard.log.length : Int)).toNat) - ((e1 - 1).toNat))).map encEnt) (by kernel_rfl) (by kernel_rfl) (by kernel_rfl) (by kernel_rfl) (.inr ⟨_, _, rfl, sayNat (by omega)⟩) (.inr ⟨_, _, rfl, sayNat (by omega)⟩) (by omega) (by simp only [List.length_map]; omega) (by simp [List.map_take, List.map_drop]) <| At.append (t := 24) (d := 37) (e := 45) (es := 6) (bytes := 56) (s := .tmp 26) (x := .tmp 36) (S := .ref 126) (T := .sl false 6 (((r.hard.log.drop ((e1 - 1).toNat)).take (((min (e1 + 5) (r.hard.log.length : Int)).toNat) - ((e1 - 1).toNat))).map encEnt)) (xs := []) (ys := (((r.hard.log.drop ((e1 - 1).toNat)).take (((min (e1 + 5) (r.hard.log.length : Int)).toNat) - ((e1 - 1).toNat))).map encEnt)) 137 [126] [] (((r.hard.log.drop ((e1 - 1).toNat)).take (((min (e1 + 5) (r.hard.log.length : Int)).toNat) - ((e1 - 1).toNat))).map encEnt) (by kernel_rfl) (by kernel_rfl) (by kernel_rfl) (by kernel_rfl) ⟨by kernel_rfl, rfl⟩ ⟨rfl, rfl, (allP_encEnt _), rfl⟩ (by kernel_rfl) (by kernel_rfl) (by simp) (by simp only [List.length_map, lens]; omega) (by simp only [List.length_map, lens]; omega) ?_
 refine At.zD 2 <| AW.q 4 <| AW.ret ?_
 refine ⟨_, Sub.refl _ _, ?_⟩
 refine KF.conv (fun w => .agg ([nI w.to] ++ mC w.msg (.ref 0))) (fun w => [.arr 45 6 (w.msg.entries.map encEnt)]) (show ((⟨i, ⟨3, r.id, r.hard.term, e1 - 1, termAt r.hard.log (e1 - 1), r.commit, false, 0, 0, eB, ⟨0, 0, 0, 0, eB⟩, (r.hard.log.drop ((e1 - 1).toNat)).take (((min (e1 + 5) (r.hard.log.length : Int)).toNat) - ((e1 - 1).toNat))⟩⟩ : Out)) = (sendOf r i) from by simp only [sendOf, nextOf, he1, Option.getD_some]; rw [takeMin _ _ 6 _ (by omega)]; rfl) ?_
 exact KF.n [(137, 0)]
theorem spec_l10SendAll_spec (r : Raft) (hz : SmallR r) (ho : 0 ≤ r.of_ ∧ r.of_ ≤ 5) (hx : r.of_ ≤ r.next.length) (hn : NextOk r) : FnSpec Tryz.prog 106 [(raftA r)] [] (.ref 0) [.arr 51 17 ((sendAll r).map encOut)]:= by
 obtain ⟨z1, z2, z3, z4⟩ := id hz
 refine FnSpec.of 23 Tryz.func106 rfl Tryz.ntmps106 (by simp) (AW.weakK ?_)
 refine AW.q 2 <| AW.r <| At.l0 38 5 51 17 168 105 <| At.z 1 <| AW.seq <| AW.q 1 <| AW.block <| AW.loopW (fun (x : Nat × List Out) => match x with | (k, o) => Go.Sy.mk [.un, .ptr 101 0 0, .un, .ref 105, nI (k : Int)] [(101, .box 29 (rV r)), (105, .arr 51 17 (o.map encOut))]) (fun (k, o) => (k : Int) ≤ r.of_ ∧ o = sendUp r k) (fun (k, o) => r.of_.toNat - k) (0, []) ⟨by omega, by simp [sendUp]⟩ (Sub.o (dg [101, 105]) (bs 5 26)) ?_
 rintro ⟨k, o⟩ ⟨hk, hR⟩
 have hlen := sendUp_len r k
 have hlen2 := congrArg List.length hR
 try rw [List.length_append] at hlen2
 refine AW.seq <| AW.q 4 <| AW.cD ((k : Int) < r.of_) (fun h1 => ?_) (fun h1 => ?_)
 · refine AW.skip <| AW.seq <| AW.block <| AW.q 4 <| AW.cU (k : Int) r.id (fun h2 => ?_) (fun h2 => ?_)
   · refine AW.g <| At.a 3 <| At.c (spec_l10Send_spec r (k : Int) hz (by omega) hn) Tryz.call128 true [] [(1380, 0)] [] trivial <| At.lk 20 51 17 120 (45, 6) [1380] (([(sendOf r (k : Int))]).map encOut) [(45, 6, (((sendOf r (k : Int)).msg.entries).map encEnt))] (by intro p hp; simp only [List.mem_cons, List.not_mem_nil, or_false] at hp; subst hp; all_goals exact flatEnts) <| At.apK 21 51 17 168 121 105 120 encOut o ([(sendOf r (k : Int))]) (by simp only [List.length_map, lens]; omega) <| At.z 1 <| AW.g <| At.a 2 <| At.sI 11 ((k : Int) + 1) (by omega) <| At.z 1 ?_
     exact ⟨(k + 1, (o ++ ([(sendOf r (k : Int))]))), ⟨by omega, by rw [hR, sendUp, if_neg (by grind)]⟩, (by simp only; omega), Sub.o [(101, 101), (121, 105)] (bs 5 26)⟩
   refine AW.skip <| AW.g <| At.a 2 <| At.sI 11 ((k : Int) + 1) (by omega) <| At.z 1 ?_
   exact ⟨(k + 1, o), ⟨by omega, by rw [hR, sendUp, if_pos (by grind)]; simp⟩, (by simp only; omega), Sub.o (dg [101, 105]) (bs 5 26)⟩
 refine AW.exit <| AW.q 2 <| AW.ret ?_
 refine ⟨_, Sub.refl _ _, ?_⟩
 refine KF.conv (fun w => .ref 0) (fun w => [.arr 51 17 (w.map encOut)]) (show (o) = (sendAll r) from by rw [hR, sendAll, show r.of_.toNat = k from by omega]) ?_
 exact KF.n [(105, 0)]
def K_spec_l10Lead_T (rs : List ResultVar) (r : Raft) (recs : List Rec) (w0_ : Raft) (w1_ : List Rec) (w2_ : List Out) : Exit → Sg → Prop := KF Tryz.prog 5 rs (.tup [.agg (rC w0_ (.ref 5) (.ref 6) (.ref 7) (.ref 8)), .ref 9, .ref 10]) [.arr 45 6 (r.hard.log.map encEnt), .arr 3 1 (r.yes.map encI), .arr 3 1 (r.next.map encI), .arr 3 1 (r.match_.map encI), .dead, .arr 45 6 (w0_.hard.log.map encEnt), .arr 3 1 (w0_.yes.map encI), .arr 3 1 (w0_.next.map encI), .arr 3 1 (w0_.match_.map encI), .arr 47 10 (w1_.map encRec), .arr 51 17 (w2_.map encOut)]
theorem spec_l10Lead_T_spec (r : Raft) (recs : List Rec) (hz : SmallR r) (ho : 0 ≤ r.of_ ∧ r.of_ ≤ 5) (hi : 0 ≤ r.id ∧ r.id < r.of_) (hr : recs.length ≤ 1000) (hlt : r.hard.log.length < 80) : FnSpec Tryz.prog 103 [.agg (rC r (.ref 0) (.ref 1) (.ref 2) (.ref 3)), .ref 4] [.arr 45 6 (r.hard.log.map encEnt), .arr 3 1 (r.yes.map encI), .arr 3 1 (r.next.map encI), .arr 3 1 (r.match_.map encI), .arr 47 10 (recs.map encRec)] (.tup [.agg (rC (leadR r) (.ref 5) (.ref 6) (.ref 7) (.ref 8)), .ref 9, .ref 10]) [.arr 45 6 (r.hard.log.map encEnt), .arr 3 1 (r.yes.map encI), .arr 3 1 (r.next.map encI), .arr 3 1 (r.match_.map encI), .dead, .arr 45 6 (((leadR r).hard.log).map encEnt), .arr 3 1 (((leadR r).yes).map encI), .arr 3 1 (((leadR r).next).map encI), .arr 3 1 (((leadR r).match_).map encI), .arr 47 10 ((recs ++ leadRecs r).map encRec), .arr 51 17 ((sendAll (leadR r)).map encOut)]:= by
 obtain ⟨z1, z2, z3, z4⟩ := id hz
 refine FnSpec.of 64 Tryz.func103 rfl Tryz.ntmps103 (by simp) (AW.weakK ?_)
 refine AW.q 4 <| AW.seq <| AW.weak (Sub.nils [⟨true, 104, some 6, 5001, 45, 6⟩, ⟨true, 104, some 7, 5002, 3, 1⟩, ⟨true, 104, some 8, 5003, 3, 1⟩, ⟨true, 104, some 9, 5004, 3, 1⟩] (by kernel_rfl)) <| AW.gq 2 <| AW.q 2 <| AW.seq <| AW.weak (Sub.nils [⟨true, 102, some 7, 5005, 3, 1⟩] (by kernel_rfl)) <| AW.g <| At.l0 27 10 3 1 8 110 <| At.z 2 <| AW.r <| At.l0 27 12 3 1 8 112 <| At.z 2 <| AW.seq <| AW.q 1 <| AW.block <| AW.loopW (fun (k : Nat) => Go.Sy.mk [.un, .ref 4, .ptr 102 0 0, .un, .ptr 104 0 0, .un, .un, nI (k : Int)] [(0, .arr 45 6 (r.hard.log.map encEnt)), (1, .arr 3 1 (r.yes.map encI)), (2, .arr 3 1 (r.next.map encI)), (3, .arr 3 1 (r.match_.map encI)), (4, .arr 47 10 (recs.map encRec)), (102, .box 29 [nI r.id, nI r.of_, nI 3, nI r.commit, nI r.hard.term, nI r.hard.vote, .ref 0, .ref 5005, .ref 110, .ref 112]), (104, .box 29 [nI 0, nI 0, nI 0, nI 0, nI 0, nI 0, .ref 5001, .ref 5002, .ref 5003, .ref 5004]), (110, .arr 3 1 ((List.replicate k ((r.hard.log.length : Int) + 1)).map encI)), (112, .arr 3 1 ((List.replicate k (0 : Int)).map encI)), (5001, .arr 45 6 []), (5002, .arr 3 1 []), (5003, .arr 3 1 []), (5004, .arr 3 1 []), (5005, .arr 3 1 [])]) (fun k => k ≤ r.of_.toNat) (fun k => r.of_.toNat - k) 0 (by omega) (Sub.o (dg [0, 1, 2, 3, 4, 102, 104, 110, 112, 5001, 5002, 5003, 5004, 5005]) (bs 8 150)) ?_
 rintro k hk
 refine AW.seq <| AW.q 4 <| AW.cD ((k : Int) < r.of_) (fun h1 => ?_) (fun h1 => ?_)
 · refine AW.skip <| AW.seq <| AW.block <| AW.seq <| AW.gD Tryz_mix <| At.a 3 <| At.c (spec_l10End_spec ⟨r.id, r.of_, 3, r.commit, r.hard, [], List.replicate k ((r.hard.log.length : Int) + 1), List.replicate k (0 : Int)⟩) Tryz.call29 false [] [] [(0, 6, (r.hard.log.map encEnt)), (5005, 1, []), (110, 1, ((List.replicate k ((r.hard.log.length : Int) + 1)).map encI)), (112, 1, ((List.replicate k (0 : Int)).map encI))] ⟨rfl, ⟨45, (r.hard.log.map encEnt), by kernel_rfl, FrzIs.same (allP_encEnt _)⟩, rfl, ⟨3, [], by kernel_rfl, FrzIs.same (fun _ h => by cases h)⟩, rfl, ⟨3, ((List.replicate k ((r.hard.log.length : Int) + 1)).map encI), by kernel_rfl, FrzIs.same (allP_encI _)⟩, rfl, ⟨3, ((List.replicate k (0 : Int)).map encI), by kernel_rfl, FrzIs.same (allP_encI _)⟩, trivial⟩ <| At.a 1 <| At.sI 24 ((r.hard.log.length : Int) + 1) (by omega) <| At.ll 25 3 1 125 (45, 6) (([(r.hard.log.length : Int) + 1]).map encI) <| At.append (t := 27) (d := 26) (e := 3) (es := 1) (bytes := 8) (s := .tmp 21) (x := .tmp 25) (S := .ref 110) (T := .ref 125) (xs := ((List.replicate k ((r.hard.log.length : Int) + 1)).map encI)) (ys := (([(r.hard.log.length : Int) + 1]).map encI)) 126 [110] [125] ((List.replicate (k + 1) ((r.hard.log.length : Int) + 1)).map encI) (by kernel_rfl) (by kernel_rfl) (by kernel_rfl) (by kernel_rfl) ⟨by kernel_rfl, rfl⟩ ⟨by kernel_rfl, .inr rfl⟩ (by kernel_rfl) (by kernel_rfl) (by rw [List.replicate_succ', List.map_append]; try rfl) (by simp only [List.length_map, lens]; omega) (by simp only [List.length_map, lens]; omega) ?_
   refine At.zD 2 <| AW.g <| At.a 2 <| At.ll 30 3 1 130 (45, 6) (([0]).map encI) <| At.append (t := 27) (d := 31) (e := 3) (es := 1) (bytes := 8) (s := .tmp 29) (x := .tmp 30) (S := .ref 112) (T := .ref 130) (xs := ((List.replicate k (0 : Int)).map encI)) (ys := (([0]).map encI)) 131 [112] [130] ((List.replicate (k + 1) (0 : Int)).map encI) (by kernel_rfl) (by kernel_rfl) (by kernel_rfl) (by kernel_rfl) ⟨by kernel_rfl, rfl⟩ ⟨by kernel_rfl, .inr rfl⟩ (by kernel_rfl) (by kernel_rfl) (by rw [List.replicate_succ', List.map_append]; try rfl) (by simp only [List.length_map, lens]; omega) (by simp only [List.length_map, lens]; omega) <| At.z 2 <| AW.g <| At.a 2 <| At.sI 19 ((k : Int) + 1) (by omega) <| At.z 1 ?_
   exact ⟨k + 1, (by omega), (by omega), Sub.o [(0, 0), (1, 1), (2, 2), (3, 3), (4, 4), (102, 102), (104, 104), (126, 110), (131, 112), (5001, 5001), (5002, 5002), (5003, 5003), (5004, 5004), (5005, 5005)] (bs 8 150)⟩
 refine AW.exit <| AW.seq <| AW.r <| At.a 1 <| At.c (spec_l10End_spec ⟨r.id, r.of_, 3, r.commit, r.hard, [], List.replicate k ((r.hard.log.length : Int) + 1), List.replicate k (0 : Int)⟩) Tryz.call29 false [] [] [(0, 6, (r.hard.log.map encEnt)), (5005, 1, []), (110, 1, ((List.replicate k ((r.hard.log.length : Int) + 1)).map encI)), (112, 1, ((List.replicate k (0 : Int)).map encI))] ⟨rfl, ⟨45, (r.hard.log.map encEnt), by kernel_rfl, FrzIs.same (allP_encEnt _)⟩, rfl, ⟨3, [], by kernel_rfl, FrzIs.same (fun _ h => by cases h)⟩, rfl, ⟨3, ((List.replicate k ((r.hard.log.length : Int) + 1)).map encI), by kernel_rfl, FrzIs.same (allP_encI _)⟩, rfl, ⟨3, ((List.replicate k (0 : Int)).map encI), by kernel_rfl, FrzIs.same (allP_encI _)⟩, trivial⟩ <| At.z 1 <| AW.cT (decide ((r.hard.log.length : Int) < 80)) (decide_eq_true (by omega)) <| AW.g <| At.a 7 <| At.c (spec_l10Put_spec ⟨r.id, r.of_, 3, r.commit, r.hard, [], List.replicate k ((r.hard.log.length : Int) + 1), List.replicate k (0 : Int)⟩ ⟨r.hard.term, ⟨1, 0, 0, 0, eB⟩⟩ recs (by omega) (by omega)) Tryz.call105 true [(0, 0), (5005, 1), (110, 2), (112, 3), (4, 4)] [(1880, 5), (1881, 6)] [] trivial <| At.z 5 <| AW.seq <| AW.gD Tryz_mix <| At.a 5 <| At.c (spec_l10End_spec ⟨r.id, r.of_, 3, r.commit, ⟨r.hard.term, r.hard.vote, r.hard.log ++ [(⟨r.hard.term, ⟨1, 0, 0, 0, eB⟩⟩ : Ent)]⟩, [], List.replicate k ((r.hard.log.length : Int) + 1), List.replicate k (0 : Int)⟩) Tryz.call29 false [] [] [(1880, 6, ((r.hard.log ++ [(⟨r.hard.term, ⟨1, 0, 0, 0, eB⟩⟩ : Ent)]).map encEnt)), (5005, 1, []), (110, 1, ((List.replicate k ((r.hard.log.length : Int) + 1)).map encI)), (112, 1, ((List.replicate k (0 : Int)).map encI))] ⟨rfl, ⟨45, ((r.hard.log ++ [(⟨r.hard.term, ⟨1, 0, 0, 0, eB⟩⟩ : Ent)]).map encEnt), by kernel_rfl, FrzIs.same (allP_encEnt _)⟩, rfl, ⟨3, [], by kernel_rfl, FrzIs.same (fun _ h => by cases h)⟩, rfl, ⟨3, ((List.replicate k ((r.hard.log.length : Int) + 1)).map encI), by kernel_rfl, FrzIs.same (allP_encI _)⟩, rfl, ⟨3, ((List.replicate k (0 : Int)).map encI), by kernel_rfl, FrzIs.same (allP_encI _)⟩, trivial⟩ ?_
 refine At.iRf 27 53 (.tmp 48) (.tmp 50) 112 ((List.replicate k (0 : Int)).map encI) .i64 r.id 3 1 (by omega) (by simp only [List.length_map, lens]; omega) ?_
 refine Exists.elim (gE (List.replicate k (0 : Int)) ((r.id).toNat) (by simp only [List.length_map, lens]; omega)) fun e1 he1 => ?_
 refine At.sEl 3 112 3 1 ((r.id).toNat) 0 (.tmp 53) (.tmp 52) ((List.replicate k (0 : Int)).map encI) (((List.replicate k (0 : Int)).set ((r.id).toNat) ((r.hard.log ++ [(⟨r.hard.term, ⟨1, 0, 0, 0, eB⟩⟩ : Ent)]).length : Int)).map encI) [nI ((r.hard.log ++ [(⟨r.hard.term, ⟨1, 0, 0, 0, eB⟩⟩ : Ent)]).length : Int)] (nI ((r.hard.log ++ [(⟨r.hard.term, ⟨1, 0, 0, 0, eB⟩⟩ : Ent)]).length : Int)) (encI e1) (encI ((r.hard.log ++ [(⟨r.hard.term, ⟨1, 0, 0, 0, eB⟩⟩ : Ent)]).length : Int)) (mapGet he1) setV <| At.done rfl ⟨by kernel_rfl, ?_⟩
 refine AW.seq <| AW.q 3 <| AW.cE r.of_ (1 : Int) (fun h2 => ?_) (fun h2 => ?_)
 · refine AW.g <| At.a 1 <| At.c (spec_l10End_spec ⟨r.id, r.of_, 3, r.commit, ⟨r.hard.term, r.hard.vote, r.hard.log ++ [(⟨r.hard.term, ⟨1, 0, 0, 0, eB⟩⟩ : Ent)]⟩, [], List.replicate k ((r.hard.log.length : Int) + 1), (List.replicate k (0 : Int)).set ((r.id).toNat) ((r.hard.log ++ [(⟨r.hard.term, ⟨1, 0, 0, 0, eB⟩⟩ : Ent)]).length : Int)⟩) Tryz.call29 false [] [] [(1880, 6, ((r.hard.log ++ [(⟨r.hard.term, ⟨1, 0, 0, 0, eB⟩⟩ : Ent)]).map encEnt)), (5005, 1, []), (110, 1, ((List.replicate k ((r.hard.log.length : Int) + 1)).map encI)), (112, 1, (((List.replicate k (0 : Int)).set ((r.id).toNat) ((r.hard.log ++ [(⟨r.hard.term, ⟨1, 0, 0, 0, eB⟩⟩ : Ent)]).length : Int)).map encI))] ⟨rfl, ⟨45, ((r.hard.log ++ [(⟨r.hard.term, ⟨1, 0, 0, 0, eB⟩⟩ : Ent)]).map encEnt), by kernel_rfl, FrzIs.same (allP_encEnt _)⟩, rfl, ⟨3, [], by kernel_rfl, FrzIs.same (fun _ h => by cases h)⟩, rfl, ⟨3, ((List.replicate k ((r.hard.log.length : Int) + 1)).map encI), by kernel_rfl, FrzIs.same (allP_encI _)⟩, rfl, ⟨3, (((List.replicate k (0 : Int)).set ((r.id).toNat) ((r.hard.log ++ [(⟨r.hard.term, ⟨1, 0, 0, 0, eB⟩⟩ : Ent)]).length : Int)).map encI), by kernel_rfl, FrzIs.same (allP_encI _)⟩, trivial⟩ <| At.z 2 <| AW.seq <| AW.gD Tryz_mix <| At.a 3 <| At.c (spec_l10SendAll_spec ⟨r.id, r.of_, 3, ((r.hard.log ++ [(⟨r.hard.term, ⟨1, 0, 0, 0, eB⟩⟩ : Ent)]).length : Int), ⟨r.hard.term, r.hard.vote, r.hard.log ++ [(⟨r.hard.term, ⟨1, 0, 0, 0, eB⟩⟩ : Ent)]⟩, [], List.replicate k ((r.hard.log.length : Int) + 1), (List.replicate k (0 : Int)).set ((r.id).toNat) ((r.hard.log ++ [(⟨r.hard.term, ⟨1, 0, 0, 0, eB⟩⟩ : Ent)]).length : Int)⟩ (by unfold SmallR; simp only [List.length_append, List.length_set, List.length_replicate, List.length_cons, List.length_nil]; omega) (by dsimp only; omega) (by dsimp only; simp only [List.length_replicate]; omega) (nextOk_rep rfl ⟨by omega, by dsimp only; (try simp only [List.length_append]); omega⟩)) Tryz.call106 false [] [(2260, 0)] [(1880, 6, ((r.hard.log ++ [(⟨r.hard.term, ⟨1, 0, 0, 0, eB⟩⟩ : Ent)]).map encEnt)), (5005, 1, []), (110, 1, ((List.replicate k ((r.hard.log.length : Int) + 1)).map encI)), (112, 1, (((List.replicate k (0 : Int)).set ((r.id).toNat) ((r.hard.log ++ [(⟨r.hard.term, ⟨1, 0, 0, 0, eB⟩⟩ : Ent)]).length : Int)).map encI))] ⟨rfl, ⟨45, ((r.hard.log ++ [(⟨r.hard.term, ⟨1, 0, 0, 0, eB⟩⟩ : Ent)]).map encEnt), by kernel_rfl, FrzIs.same (allP_encEnt _)⟩, rfl, ⟨3, [], by kernel_rfl, FrzIs.same (fun _ h => by cases h)⟩, rfl, ⟨3, ((List.replicate k ((r.hard.log.length : Int) + 1)).map encI), by kernel_rfl, FrzIs.same (allP_encI _)⟩, rfl, ⟨3, (((List.replicate k (0 : Int)).set ((r.id).toNat) ((r.hard.log ++ [(⟨r.hard.term, ⟨1, 0, 0, 0, eB⟩⟩ : Ent)]).length : Int)).map encI), by kernel_rfl, FrzIs.same (allP_encI _)⟩, trivial⟩ ?_
   exact At.zD 3 <| AW.ret (rf (k3 (K_spec_l10Lead_T _ r recs) (show ((⟨r.id, r.of_, 3, ((r.hard.log ++ [(⟨r.hard.term, ⟨1, 0, 0, 0, eB⟩⟩ : Ent)]).length : Int), ⟨r.hard.term, r.hard.vote, r.hard.log ++ [(⟨r.hard.term, ⟨1, 0, 0, 0, eB⟩⟩ : Ent)]⟩, [], List.replicate k ((r.hard.log.length : Int) + 1), (List.replicate k (0 : Int)).set ((r.id).toNat) ((r.hard.log ++ [(⟨r.hard.term, ⟨1, 0, 0, 0, eB⟩⟩ : Ent)]).length : Int)⟩ : Raft)) = _ from by obtain rfl : k = r.of_.toNat := (by omega); have hlt2 := hlt; simp [leadR, leadRecs, had, put, lead0, noneE, putRec, hlt2, h1, h2]) (show (recs ++ [(⟨2, 0, 0, ((r.hard.log ++ [(⟨r.hard.term, ⟨1, 0, 0, 0, eB⟩⟩ : Ent)]).length : Int), (⟨r.hard.term, ⟨1, 0, 0, 0, eB⟩⟩ : Ent)⟩ : Rec)]) = _ from by obtain rfl : k = r.of_.toNat := (by omega); have hlt2 := hlt; simp [leadR, leadRecs, had, put, lead0, noneE, putRec, hlt2, h1, h2]) (show (sendAll (⟨r.id, r.of_, 3, ((r.hard.log ++ [(⟨r.hard.term, ⟨1, 0, 0, 0, eB⟩⟩ : Ent)]).length : Int), ⟨r.hard.term, r.hard.vote, r.hard.log ++ [(⟨r.hard.term, ⟨1, 0, 0, 0, eB⟩⟩ : Ent)]⟩, [], List.replicate k ((r.hard.log.length : Int) + 1), (List.replicate k (0 : Int)).set ((r.id).toNat) ((r.hard.log ++ [(⟨r.hard.term, ⟨1, 0, 0, 0, eB⟩⟩ : Ent)]).length : Int)⟩ : Raft)) = _ from by obtain rfl : k = r.of_.toNat := (by omega); have hlt2 := hlt; simp [leadR, leadRecs, had, put, lead0, noneE, putRec, hlt2, h1, h2]) (KF.n [(0, 0), (1, 1), (2, 2), (3, 3), (4, 4), (1880, 5), (5005, 6), (110, 7), (112, 8), (1881, 9), (2260, 10)])))
 refine AW.skip <| AW.seq <| AW.gD Tryz_mix <| At.a 3 <| At.c (spec_l10SendAll_spec ⟨r.id, r.of_, 3, r.commit, ⟨r.hard.term, r.hard.vote, r.hard.log ++ [(⟨r.hard.term, ⟨1, 0, 0, 0, eB⟩⟩ : Ent)]⟩, [], List.replicate k ((r.hard.log.length : Int) + 1), (List.replicate k (0 : Int)).set ((r.id).toNat) ((r.hard.log ++ [(⟨r.hard.term, ⟨1, 0, 0, 0, eB⟩⟩ : Ent)]).length : Int)⟩ (by unfold SmallR; simp only [List.length_append, List.length_set, List.length_replicate, List.length_cons, List.length_nil]; omega) (by dsimp only; omega) (by dsimp only; simp only [List.length_replicate]; omega) (nextOk_rep rfl ⟨by omega, by dsimp only; (try simp only [List.length_append]); omega⟩)) Tryz.call106 false [] [(2260, 0)] [(1880, 6, ((r.hard.log ++ [(⟨r.hard.term, ⟨1, 0, 0, 0, eB⟩⟩ : Ent)]).map encEnt)), (5005, 1, []), (110, 1, ((List.replicate k ((r.hard.log.length : Int) + 1)).map encI)), (112, 1, (((List.replicate k (0 : Int)).set ((r.id).toNat) ((r.hard.log ++ [(⟨r.hard.term, ⟨1, 0, 0, 0, eB⟩⟩ : Ent)]).length : Int)).map encI))] ⟨rfl, ⟨45, ((r.hard.log ++ [(⟨r.hard.term, ⟨1, 0, 0, 0, eB⟩⟩ : Ent)]).map encEnt), by kernel_rfl, FrzIs.same (allP_encEnt _)⟩, rfl, ⟨3, [], by kernel_rfl, FrzIs.same (fun _ h => by cases h)⟩, rfl, ⟨3, ((List.replicate k ((r.hard.log.length : Int) + 1)).map encI), by kernel_rfl, FrzIs.same (allP_encI _)⟩, rfl, ⟨3, (((List.replicate k (0 : Int)).set ((r.id).toNat) ((r.hard.log ++ [(⟨r.hard.term, ⟨1, 0, 0, 0, eB⟩⟩ : Ent)]).length : Int)).map encI), by kernel_rfl, FrzIs.same (allP_encI _)⟩, trivial⟩ ?_
 exact At.zD 3 <| AW.ret (rf (k3 (K_spec_l10Lead_T _ r recs) (show ((⟨r.id, r.of_, 3, r.commit, ⟨r.hard.term, r.hard.vote, r.hard.log ++ [(⟨r.hard.term, ⟨1, 0, 0, 0, eB⟩⟩ : Ent)]⟩, [], List.replicate k ((r.hard.log.length : Int) + 1), (List.replicate k (0 : Int)).set ((r.id).toNat) ((r.hard.log ++ [(⟨r.hard.term, ⟨1, 0, 0, 0, eB⟩⟩ : Ent)]).length : Int)⟩ : Raft)) = _ from by obtain rfl : k = r.of_.toNat := (by omega); have hlt2 := hlt; simp [leadR, leadRecs, had, put, lead0, noneE, putRec, hlt2, h1, h2]) (show (recs ++ [(⟨2, 0, 0, ((r.hard.log ++ [(⟨r.hard.term, ⟨1, 0, 0, 0, eB⟩⟩ : Ent)]).length : Int), (⟨r.hard.term, ⟨1, 0, 0, 0, eB⟩⟩ : Ent)⟩ : Rec)]) = _ from by obtain rfl : k = r.of_.toNat := (by omega); have hlt2 := hlt; simp [leadR, leadRecs, had, put, lead0, noneE, putRec, hlt2, h1, h2]) (show (sendAll (⟨r.id, r.of_, 3, r.commit, ⟨r.hard.term, r.hard.vote, r.hard.log ++ [(⟨r.hard.term, ⟨1, 0, 0, 0, eB⟩⟩ : Ent)]⟩, [], List.replicate k ((r.hard.log.length : Int) + 1), (List.replicate k (0 : Int)).set ((r.id).toNat) ((r.hard.log ++ [(⟨r.hard.term, ⟨1, 0, 0, 0, eB⟩⟩ : Ent)]).length : Int)⟩ : Raft)) = _ from by obtain rfl : k = r.of_.toNat := (by omega); have hlt2 := hlt; simp [leadR, leadRecs, had, put, lead0, noneE, putRec, hlt2, h1, h2]) (KF.n [(0, 0), (1, 1), (2, 2), (3, 3), (4, 4), (1880, 5), (5005, 6), (110, 7), (112, 8), (1881, 9), (2260, 10)])))
def K_spec_l10Lead_F (rs : List ResultVar) (r : Raft) (recs : List Rec) (w0_ : Raft) (w1_ : List Rec) (w2_ : List Out) : Exit → Sg → Prop := KF Tryz.prog 5 rs (.tup [.agg (rC w0_ (.ref 0) (.ref 5) (.ref 6) (.ref 7)), .ref 4, .ref 8]) [.arr 45 6 (r.hard.log.map encEnt), .arr 3 1 (r.yes.map encI), .arr 3 1 (r.next.map encI), .arr 3 1 (r.match_.map encI), .arr 47 10 (recs.map encRec), .arr 3 1 (w0_.yes.map encI), .arr 3 1 (w0_.next.map encI), .arr 3 1 (w0_.match_.map encI), .arr 51 17 (w2_.map encOut)]
theorem spec_l10Lead_F_spec (r : Raft) (recs : List Rec) (hz : SmallR r) (ho : 0 ≤ r.of_ ∧ r.of_ ≤ 5) (hi : 0 ≤ r.id ∧ r.id < r.of_) (hr : recs.length ≤ 1000) (hlt : ¬ r.hard.log.length < 80) : FnSpec Tryz.prog 103 [.agg (rC r (.ref 0) (.ref 1) (.ref 2) (.ref 3)), .ref 4] [.arr 45 6 (r.hard.log.map encEnt), .arr 3 1 (r.yes.map encI), .arr 3 1 (r.next.map encI), .arr 3 1 (r.match_.map encI), .arr 47 10 (recs.map encRec)] (.tup [.agg (rC (leadR r) (.ref 0) (.ref 5) (.ref 6) (.ref 7)), .ref 4, .ref 8]) [.arr 45 6 (r.hard.log.map encEnt), .arr 3 1 (r.yes.map encI), .arr 3 1 (r.next.map encI), .arr 3 1 (r.match_.map encI), .arr 47 10 (recs.map encRec), .arr 3 1 (((leadR r).yes).map encI), .arr 3 1 (((leadR r).next).map encI), .arr 3 1 (((leadR r).match_).map encI), .arr 51 17 ((sendAll (leadR r)).map encOut)]:= by
 obtain ⟨z1, z2, z3, z4⟩ := id hz
 refine FnSpec.of 64 Tryz.func103 rfl Tryz.ntmps103 (by simp) (AW.weakK ?_)
 refine AW.q 4 <| AW.seq <| AW.weak (Sub.nils [⟨true, 104, some 6, 5001, 45, 6⟩, ⟨true, 104, some 7, 5002, 3, 1⟩, ⟨true, 104, some 8, 5003, 3, 1⟩, ⟨true, 104, some 9, 5004, 3, 1⟩] (by kernel_rfl)) <| AW.gq 2 <| AW.q 2 <| AW.seq <| AW.weak (Sub.nils [⟨true, 102, some 7, 5005, 3, 1⟩] (by kernel_rfl)) <| AW.g <| At.l0 27 10 3 1 8 110 <| At.z 2 <| AW.r <| At.l0 27 12 3 1 8 112 <| At.z 2 <| AW.seq <| AW.q 1 <| AW.block <| AW.loopW (fun (k : Nat) => Go.Sy.mk [.un, .ref 4, .ptr 102 0 0, .un, .ptr 104 0 0, .un, .un, nI (k : Int)] [(0, .arr 45 6 (r.hard.log.map encEnt)), (1, .arr 3 1 (r.yes.map encI)), (2, .arr 3 1 (r.next.map encI)), (3, .arr 3 1 (r.match_.map encI)), (4, .arr 47 10 (recs.map encRec)), (102, .box 29 [nI r.id, nI r.of_, nI 3, nI r.commit, nI r.hard.term, nI r.hard.vote, .ref 0, .ref 5005, .ref 110, .ref 112]), (104, .box 29 [nI 0, nI 0, nI 0, nI 0, nI 0, nI 0, .ref 5001, .ref 5002, .ref 5003, .ref 5004]), (110, .arr 3 1 ((List.replicate k ((r.hard.log.length : Int) + 1)).map encI)), (112, .arr 3 1 ((List.replicate k (0 : Int)).map encI)), (5001, .arr 45 6 []), (5002, .arr 3 1 []), (5003, .arr 3 1 []), (5004, .arr 3 1 []), (5005, .arr 3 1 [])]) (fun k => k ≤ r.of_.toNat) (fun k => r.of_.toNat - k) 0 (by omega) (Sub.o (dg [0, 1, 2, 3, 4, 102, 104, 110, 112, 5001, 5002, 5003, 5004, 5005]) (bs 8 150)) ?_
 rintro k hk
 refine AW.seq <| AW.q 4 <| AW.cD ((k : Int) < r.of_) (fun h1 => ?_) (fun h1 => ?_)
 · refine AW.skip <| AW.seq <| AW.block <| AW.seq <| AW.gD Tryz_mix <| At.a 3 <| At.c (spec_l10End_spec ⟨r.id, r.of_, 3, r.commit, r.hard, [], List.replicate k ((r.hard.log.length : Int) + 1), List.replicate k (0 : Int)⟩) Tryz.call29 false [] [] [(0, 6, (r.hard.log.map encEnt)), (5005, 1, []), (110, 1, ((List.replicate k ((r.hard.log.length : Int) + 1)).map encI)), (112, 1, ((List.replicate k (0 : Int)).map encI))] ⟨rfl, ⟨45, (r.hard.log.map encEnt), by kernel_rfl, FrzIs.same (allP_encEnt _)⟩, rfl, ⟨3, [], by kernel_rfl, FrzIs.same (fun _ h => by cases h)⟩, rfl, ⟨3, ((List.replicate k ((r.hard.log.length : Int) + 1)).map encI), by kernel_rfl, FrzIs.same (allP_encI _)⟩, rfl, ⟨3, ((List.replicate k (0 : Int)).map encI), by kernel_rfl, FrzIs.same (allP_encI _)⟩, trivial⟩ <| At.a 1 <| At.sI 24 ((r.hard.log.length : Int) + 1) (by omega) <| At.ll 25 3 1 125 (45, 6) (([(r.hard.log.length : Int) + 1]).map encI) <| At.append (t := 27) (d := 26) (e := 3) (es := 1) (bytes := 8) (s := .tmp 21) (x := .tmp 25) (S := .ref 110) (T := .ref 125) (xs := ((List.replicate k ((r.hard.log.length : Int) + 1)).map encI)) (ys := (([(r.hard.log.length : Int) + 1]).map encI)) 126 [110] [125] ((List.replicate (k + 1) ((r.hard.log.length : Int) + 1)).map encI) (by kernel_rfl) (by kernel_rfl) (by kernel_rfl) (by kernel_rfl) ⟨by kernel_rfl, rfl⟩ ⟨by kernel_rfl, .inr rfl⟩ (by kernel_rfl) (by kernel_rfl) (by rw [List.replicate_succ', List.map_append]; try rfl) (by simp only [List.length_map, lens]; omega) (by simp only [List.length_map, lens]; omega) ?_
   refine At.zD 2 <| AW.g <| At.a 2 <| At.ll 30 3 1 130 (45, 6) (([0]).map encI) <| At.append (t := 27) (d := 31) (e := 3) (es := 1) (bytes := 8) (s := .tmp 29) (x := .tmp 30) (S := .ref 112) (T := .ref 130) (xs := ((List.replicate k (0 : Int)).map encI)) (ys := (([0]).map encI)) 131 [112] [130] ((List.replicate (k + 1) (0 : Int)).map encI) (by kernel_rfl) (by kernel_rfl) (by kernel_rfl) (by kernel_rfl) ⟨by kernel_rfl, rfl⟩ ⟨by kernel_rfl, .inr rfl⟩ (by kernel_rfl) (by kernel_rfl) (by rw [List.replicate_succ', List.map_append]; try rfl) (by simp only [List.length_map, lens]; omega) (by simp only [List.length_map, lens]; omega) <| At.z 2 <| AW.g <| At.a 2 <| At.sI 19 ((k : Int) + 1) (by omega) <| At.z 1 ?_
   exact ⟨k + 1, (by omega), (by omega), Sub.o [(0, 0), (1, 1), (2, 2), (3, 3), (4, 4), (102, 102), (104, 104), (126, 110), (131, 112), (5001, 5001), (5002, 5002), (5003, 5003), (5004, 5004), (5005, 5005)] (bs 8 150)⟩
 refine AW.exit <| AW.seq <| AW.r <| At.a 1 <| At.c (spec_l10End_spec ⟨r.id, r.of_, 3, r.commit, r.hard, [], List.replicate k ((r.hard.log.length : Int) + 1), List.replicate k (0 : Int)⟩) Tryz.call29 false [] [] [(0, 6, (r.hard.log.map encEnt)), (5005, 1, []), (110, 1, ((List.replicate k ((r.hard.log.length : Int) + 1)).map encI)), (112, 1, ((List.replicate k (0 : Int)).map encI))] ⟨rfl, ⟨45, (r.hard.log.map encEnt), by kernel_rfl, FrzIs.same (allP_encEnt _)⟩, rfl, ⟨3, [], by kernel_rfl, FrzIs.same (fun _ h => by cases h)⟩, rfl, ⟨3, ((List.replicate k ((r.hard.log.length : Int) + 1)).map encI), by kernel_rfl, FrzIs.same (allP_encI _)⟩, rfl, ⟨3, ((List.replicate k (0 : Int)).map encI), by kernel_rfl, FrzIs.same (allP_encI _)⟩, trivial⟩ <| At.z 1 <| AW.cF (decide ((r.hard.log.length : Int) < 80)) (decide_eq_false (by omega)) <| AW.skip <| AW.seq <| AW.gD Tryz_mix <| At.a 5 <| At.c (spec_l10End_spec ⟨r.id, r.of_, 3, r.commit, r.hard, [], List.replicate k ((r.hard.log.length : Int) + 1), List.replicate k (0 : Int)⟩) Tryz.call29 false [] [] [(0, 6, (r.hard.log.map encEnt)), (5005, 1, []), (110, 1, ((List.replicate k ((r.hard.log.length : Int) + 1)).map encI)), (112, 1, ((List.replicate k (0 : Int)).map encI))] ⟨rfl, ⟨45, (r.hard.log.map encEnt), by kernel_rfl, FrzIs.same (allP_encEnt _)⟩, rfl, ⟨3, [], by kernel_rfl, FrzIs.same (fun _ h => by cases h)⟩, rfl, ⟨3, ((List.replicate k ((r.hard.log.length : Int) + 1)).map encI), by kernel_rfl, FrzIs.same (allP_encI _)⟩, rfl, ⟨3, ((List.replicate k (0 : Int)).map encI), by kernel_rfl, FrzIs.same (allP_encI _)⟩, trivial⟩ ?_
 refine At.iRf 27 53 (.tmp 48) (.tmp 50) 112 ((List.replicate k (0 : Int)).map encI) .i64 r.id 3 1 (by omega) (by simp only [List.length_map, lens]; omega) ?_
 refine Exists.elim (gE (List.replicate k (0 : Int)) ((r.id).toNat) (by simp only [List.length_map, lens]; omega)) fun e1 he1 => ?_
 refine At.sEl 3 112 3 1 ((r.id).toNat) 0 (.tmp 53) (.tmp 52) ((List.replicate k (0 : Int)).map encI) (((List.replicate k (0 : Int)).set ((r.id).toNat) (r.hard.log.length : Int)).map encI) [nI (r.hard.log.length : Int)] (nI (r.hard.log.length : Int)) (encI e1) (encI (r.hard.log.length : Int)) (mapGet he1) setV <| At.done rfl ⟨by kernel_rfl, ?_⟩
 refine AW.seq <| AW.q 3 <| AW.cE r.of_ (1 : Int) (fun h2 => ?_) (fun h2 => ?_)
 · refine AW.g <| At.a 1 <| At.c (spec_l10End_spec ⟨r.id, r.of_, 3, r.commit, r.hard, [], List.replicate k ((r.hard.log.length : Int) + 1), (List.replicate k (0 : Int)).set ((r.id).toNat) (r.hard.log.length : Int)⟩) Tryz.call29 false [] [] [(0, 6, (r.hard.log.map encEnt)), (5005, 1, []), (110, 1, ((List.replicate k ((r.hard.log.length : Int) + 1)).map encI)), (112, 1, (((List.replicate k (0 : Int)).set ((r.id).toNat) (r.hard.log.length : Int)).map encI))] ⟨rfl, ⟨45, (r.hard.log.map encEnt), by kernel_rfl, FrzIs.same (allP_encEnt _)⟩, rfl, ⟨3, [], by kernel_rfl, FrzIs.same (fun _ h => by cases h)⟩, rfl, ⟨3, ((List.replicate k ((r.hard.log.length : Int) + 1)).map encI), by kernel_rfl, FrzIs.same (allP_encI _)⟩, rfl, ⟨3, (((List.replicate k (0 : Int)).set ((r.id).toNat) (r.hard.log.length : Int)).map encI), by kernel_rfl, FrzIs.same (allP_encI _)⟩, trivial⟩ <| At.z 2 <| AW.seq <| AW.gD Tryz_mix <| At.a 3 <| At.c (spec_l10SendAll_spec ⟨r.id, r.of_, 3, (r.hard.log.length : Int), r.hard, [], List.replicate k ((r.hard.log.length : Int) + 1), (List.replicate k (0 : Int)).set ((r.id).toNat) (r.hard.log.length : Int)⟩ (by unfold SmallR; simp only [List.length_append, List.length_set, List.length_replicate, List.length_cons, List.length_nil]; omega) (by dsimp only; omega) (by dsimp only; simp only [List.length_replicate]; omega) (nextOk_rep rfl ⟨by omega, by dsimp only; (try simp only [List.length_append]); omega⟩)) Tryz.call106 false [] [(2260, 0)] [(0, 6, (r.hard.log.map encEnt)), (5005, 1, []), (110, 1, ((List.replicate k ((r.hard.log.length : Int) + 1)).map encI)), (112, 1, (((List.replicate k (0 : Int)).set ((r.id).toNat) (r.hard.log.length : Int)).map encI))] ⟨rfl, ⟨45, (r.hard.log.map encEnt), by kernel_rfl, FrzIs.same (allP_encEnt _)⟩, rfl, ⟨3, [], by kernel_rfl, FrzIs.same (fun _ h => by cases h)⟩, rfl, ⟨3, ((List.replicate k ((r.hard.log.length : Int) + 1)).map encI), by kernel_rfl, FrzIs.same (allP_encI _)⟩, rfl, ⟨3, (((List.replicate k (0 : Int)).set ((r.id).toNat) (r.hard.log.length : Int)).map encI), by kernel_rfl, FrzIs.same (allP_encI _)⟩, trivial⟩ ?_
   exact At.zD 3 <| AW.ret (rf (k3 (K_spec_l10Lead_F _ r recs) (show ((⟨r.id, r.of_, 3, (r.hard.log.length : Int), r.hard, [], List.replicate k ((r.hard.log.length : Int) + 1), (List.replicate k (0 : Int)).set ((r.id).toNat) (r.hard.log.length : Int)⟩ : Raft)) = (leadR r) from by obtain rfl : k = r.of_.toNat := (by omega); have hlt2 := hlt; simp [leadR, leadRecs, had, put, lead0, noneE, putRec, hlt2, h1, h2]) (show (recs) = (recs ++ leadRecs r) from by obtain rfl : k = r.of_.toNat := (by omega); have hlt2 := hlt; simp [leadR, leadRecs, had, put, lead0, noneE, putRec, hlt2, h1, h2]) (show (sendAll (⟨r.id, r.of_, 3, (r.hard.log.length : Int), r.hard, [], List.replicate k ((r.hard.log.length : Int) + 1), (List.replicate k (0 : Int)).set ((r.id).toNat) (r.hard.log.length : Int)⟩ : Raft)) = (sendAll (leadR r)) from by obtain rfl : k = r.of_.toNat := (by omega); have hlt2 := hlt; simp [leadR, leadRecs, had, put, lead0, noneE, putRec, hlt2, h1, h2]) (KF.n [(0, 0), (1, 1), (2, 2), (3, 3), (4, 4), (5005, 5), (110, 6), (112, 7), (2260, 8)])))
 exact AW.skip <| AW.seq <| AW.gD Tryz_mix <| At.a 3 <| At.c (spec_l10SendAll_spec ⟨r.id, r.of_, 3, r.commit, r.hard, [], List.replicate k ((r.hard.log.length : Int) + 1), (List.replicate k (0 : Int)).set ((r.id).toNat) (r.hard.log.length : Int)⟩ (by unfold SmallR; simp only [List.length_append, List.length_set, List.length_replicate, List.length_cons, List.length_nil]; omega) (by dsimp only; omega) (by dsimp only; simp only [List.length_replicate]; omega) (nextOk_rep rfl ⟨by omega, by dsimp only; (try simp only [List.length_append]); omega⟩)) Tryz.call106 false [] [(2260, 0)] [(0, 6, (r.hard.log.map encEnt)), (5005, 1, []), (110, 1, ((List.replicate k ((r.hard.log.length : Int) + 1)).map encI)), (112, 1, (((List.replicate k (0 : Int)).set ((r.id).toNat) (r.hard.log.length : Int)).map encI))] ⟨rfl, ⟨45, (r.hard.log.map encEnt), by kernel_rfl, FrzIs.same (allP_encEnt _)⟩, rfl, ⟨3, [], by kernel_rfl, FrzIs.same (fun _ h => by cases h)⟩, rfl, ⟨3, ((List.replicate k ((r.hard.log.length : Int) + 1)).map encI), by kernel_rfl, FrzIs.same (allP_encI _)⟩, rfl, ⟨3, (((List.replicate k (0 : Int)).set ((r.id).toNat) (r.hard.log.length : Int)).map encI), by kernel_rfl, FrzIs.same (allP_encI _)⟩, trivial⟩ <| At.zD 3 <| AW.ret (rf (k3 (K_spec_l10Lead_F _ r recs) (show ((⟨r.id, r.of_, 3, r.commit, r.hard, [], List.replicate k ((r.hard.log.length : Int) + 1), (List.replicate k (0 : Int)).set ((r.id).toNat) (r.hard.log.length : Int)⟩ : Raft)) = (leadR r) from by obtain rfl : k = r.of_.toNat := (by omega); have hlt2 := hlt; simp [leadR, leadRecs, had, put, lead0, noneE, putRec, hlt2, h1, h2]) (show (recs) = (recs ++ leadRecs r) from by obtain rfl : k = r.of_.toNat := (by omega); have hlt2 := hlt; simp [leadR, leadRecs, had, put, lead0, noneE, putRec, hlt2, h1, h2]) (show (sendAll (⟨r.id, r.of_, 3, r.commit, r.hard, [], List.replicate k ((r.hard.log.length : Int) + 1), (List.replicate k (0 : Int)).set ((r.id).toNat) (r.hard.log.length : Int)⟩ : Raft)) = (sendAll (leadR r)) from by obtain rfl : k = r.of_.toNat := (by omega); have hlt2 := hlt; simp [leadR, leadRecs, had, put, lead0, noneE, putRec, hlt2, h1, h2]) (KF.n [(0, 0), (1, 1), (2, 2), (3, 3), (4, 4), (5005, 5), (110, 6), (112, 7), (2260, 8)])))
theorem spec_l10Asks_spec (r : Raft) (hz : SmallR r) (ho : 0 ≤ r.of_ ∧ r.of_ ≤ 5) : FnSpec Tryz.prog 104 [(raftA r)] [] (.ref 0) [.arr 51 17 ((asks r).map encOut)]:= by
 obtain ⟨z1, z2, z3, z4⟩ := id hz
 refine FnSpec.of 42 Tryz.func104 rfl Tryz.ntmps104 (by simp) (AW.weakK ?_)
 refine AW.q 2 <| AW.r <| At.l0 38 5 51 17 168 105 <| At.z 1 <| AW.seq <| AW.q 1 <| AW.block <| AW.loopW (fun (x : Nat × List Out) => match x with | (k, o) => Go.Sy.mk [.un, .ptr 101 0 0, .un, .ref 105, nI (k : Int)] [(101, .box 29 (rV r)), (105, .arr 51 17 (o.map encOut))]) (fun (k, o) => (k : Int) ≤ r.of_ ∧ o = askUp r k) (fun (k, o) => r.of_.toNat - k) (0, []) ⟨by omega, by simp [askUp]⟩ (Sub.o (dg [101, 105]) (bs 5 26)) ?_
 rintro ⟨k, o⟩ ⟨hk, hR⟩
 have hlen := askUp_len r k
 have hlen2 := congrArg List.length hR
 try rw [List.length_append] at hlen2
 refine AW.seq <| AW.q 4 <| AW.cD ((k : Int) < r.of_) (fun h1 => ?_) (fun h1 => ?_)
 · refine AW.skip <| AW.seq <| AW.block <| AW.r <| At.a 5 ?_
   by_cases h2 : (k : Int) = r.id
   · refine At.sB 16 _ _ (sayUF h2) <| At.z 6 <| AW.cond false (by kernel_rfl) (fun h => by cases h) (fun _ => ?_)
     refine AW.skip <| AW.g <| At.a 2 <| At.sI 11 ((k : Int) + 1) (by omega) <| At.z 1 ?_
     exact ⟨(k + 1, o), ⟨by omega, by rw [hR, askUp, if_pos (by grind)]; simp⟩, (by simp only; omega), Sub.o (dg [101, 105]) (bs 5 26)⟩
   refine At.sB 16 _ _ (sayUT h2) <| At.a 3 <| At.c (spec_l7Has_spec r.yes (k : Int) (by omega)) Tryz.call31 true [] [] [] trivial <| At.z 2 <| AW.cNB (hasI (k : Int) r.yes) (fun h3 => ?_) (fun h3 => ?_)
   · refine AW.gD Tryz_mix <| At.a 8 <| At.c (spec_l10End_spec r) Tryz.call29 true [] [] [] trivial <| At.a 3 <| At.c (spec_l10End_spec r) Tryz.call29 true [] [] [] trivial <| At.c (spec_l10Term_spec r.hard (r.hard.log.length : Int) (by omega)) Tryz.call49 true [] [] [] trivial <| At.a 2 <| At.ll 39 51 17 139 (45, 6) (([(⟨(k : Int), ⟨1, r.id, r.hard.term, (r.hard.log.length : Int), termAt r.hard.log (r.hard.log.length : Int), 0, false, 0, 0, eB, ⟨0, 0, 0, 0, eB⟩, []⟩⟩ : Out)]).map encOut) <| At.apK 40 51 17 168 140 105 139 encOut o ([(⟨(k : Int), ⟨1, r.id, r.hard.term, (r.hard.log.length : Int), termAt r.hard.log (r.hard.log.length : Int), 0, false, 0, 0, eB, ⟨0, 0, 0, 0, eB⟩, []⟩⟩ : Out)]) (by simp only [List.length_map, lens]; omega) <| At.zD 1 <| AW.g <| At.a 2 <| At.sI 11 ((k : Int) + 1) (by omega) <| At.z 1 ?_
     exact ⟨(k + 1, (o ++ ([(⟨(k : Int), ⟨1, r.id, r.hard.term, (r.hard.log.length : Int), termAt r.hard.log (r.hard.log.length : Int), 0, false, 0, 0, eB, ⟨0, 0, 0, 0, eB⟩, []⟩⟩ : Out)]))), ⟨by omega, by rw [hR, askUp, if_neg (by grind)]; (try rw [termAt_end]); rfl⟩, (by simp only; omega), Sub.o [(101, 101), (140, 105)] (bs 5 26)⟩
   refine AW.skip <| AW.g <| At.a 2 <| At.sI 11 ((k : Int) + 1) (by omega) <| At.z 1 ?_
   exact ⟨(k + 1, o), ⟨by omega, by rw [hR, askUp, if_pos (by grind)]; simp⟩, (by simp only; omega), Sub.o (dg [101, 105]) (bs 5 26)⟩
 refine AW.exit <| AW.q 2 <| AW.ret ?_
 refine ⟨_, Sub.refl _ _, ?_⟩
 refine KF.conv (fun w => .ref 0) (fun w => [.arr 51 17 (w.map encOut)]) (show (o) = (asks r) from by rw [hR, asks, show r.of_.toNat = k from by omega]) ?_
 exact KF.n [(105, 0)]
def K_spec_RaftStand (rs : List ResultVar) (r : Raft) (w0_ : Raft) (w1_ : List Rec) (w2_ : List Out) : Exit → Sg → Prop := KF Tryz.prog 0 rs (.tup [.agg (rC w0_ (.ref 0) (.ref 1) (.ref 2) (.ref 3)), .ref 4, .ref 5]) [.arr 45 6 (w0_.hard.log.map encEnt), .arr 3 1 (w0_.yes.map encI), .arr 3 1 (w0_.next.map encI), .arr 3 1 (w0_.match_.map encI), .arr 47 10 (w1_.map encRec), .arr 51 17 (w2_.map encOut)]
theorem spec_RaftStand_spec (r : Raft) (hz : SmallR r) : FnSpec Tryz.prog 80 [(raftA r)] [] (.tup [.agg (rC ((stands r).1) (.ref 0) (.ref 1) (.ref 2) (.ref 3)), .ref 4, .ref 5]) [.arr 45 6 ((((stands r).1).hard.log).map encEnt), .arr 3 1 ((((stands r).1).yes).map encI), .arr 3 1 ((((stands r).1).next).map encI), .arr 3 1 ((((stands r).1).match_).map encI), .arr 47 10 (((stands r).2.1).map encRec), .arr 51 17 (((stands r).2.2).map encOut)]:= by
 obtain ⟨z1, z2, z3, z4⟩ := id hz
 refine FnSpec.of 58 Tryz.func80 rfl Tryz.ntmps80 (by simp) (AW.weakK ?_)
 by_cases hok : raftOk r = true
 · have hokn := raftOk1_nums (raftOk_1 hok)
   refine AW.q 4 <| AW.seq <| AW.weak (Sub.nils [⟨true, 102, some 6, 5001, 45, 6⟩, ⟨true, 102, some 7, 5002, 3, 1⟩, ⟨true, 102, some 8, 5003, 3, 1⟩, ⟨true, 102, some 9, 5004, 3, 1⟩] (by kernel_rfl)) <| AW.g <| At.a 1 <| At.c (spec_l10Same_T_spec r (by exact hz) hok) Tryz.call101 true [] (fr 1160 0 4) [] trivial <| At.l0 37 9 47 10 88 109 <| At.z 3 <| AW.seq <| AW.r <| At.a 1 <| At.c (spec_RaftOk_spec r (by exact hz)) Tryz.call11 true [] [] [] trivial <| At.a 2 <| At.sB 13 (!(raftOk r)) false (sayB (by rw [show (raftOk r) = true from hok]; rfl)) <| At.a 5 ?_
   by_cases h1 : r.role = 3
   · refine At.sB 18 _ _ (sayET h1) <| At.z 5 <| AW.cond true (by kernel_rfl) (fun _ => ?_) (fun h => by cases h)
     exact AW.r <| At.a 2 <| At.l0 38 26 51 17 168 126 <| At.z 3 <| AW.ret (rf (k3 (K_spec_RaftStand _ r) (show (r) = _ from by have q : ¬ (raftOk r = true ∧ r.role ≠ 3 ∧ r.hard.term ≠ 1000000000) := (by rintro ⟨_, q1, q2⟩; omega); rw [stands, if_neg q]; (try simp [same, hok])) (show ([]) = _ from by have q : ¬ (raftOk r = true ∧ r.role ≠ 3 ∧ r.hard.term ≠ 1000000000) := (by rintro ⟨_, q1, q2⟩; omega); rw [stands, if_neg q]; (try simp [same, hok])) (show ([]) = _ from by have q : ¬ (raftOk r = true ∧ r.role ≠ 3 ∧ r.hard.term ≠ 1000000000) := (by rintro ⟨_, q1, q2⟩; omega); rw [stands, if_neg q]; (try simp [same, hok])) (KF.n [(1160, 0), (1161, 1), (1162, 2), (1163, 3), (109, 4), (126, 5)])))
   refine At.sB 18 _ _ (sayEF h1) <| At.z 5 <| AW.cE r.hard.term (1000000000 : Int) (fun h2 => ?_) (fun h2 => ?_)
   · exact AW.r <| At.a 2 <| At.l0 38 26 51 17 168 126 <| At.z 3 <| AW.ret (rf (k3 (K_spec_RaftStand _ r) (show (r) = _ from by have q : ¬ (raftOk r = true ∧ r.role ≠ 3 ∧ r.hard.term ≠ 1000000000) := (by rintro ⟨_, q1, q2⟩; omega); rw [stands, if_neg q]; (try simp [same, hok])) (show ([]) = _ from by have q : ¬ (raftOk r = true ∧ r.role ≠ 3 ∧ r.hard.term ≠ 1000000000) := (by rintro ⟨_, q1, q2⟩; omega); rw [stands, if_neg q]; (try simp [same, hok])) (show ([]) = _ from by have q : ¬ (raftOk r = true ∧ r.role ≠ 3 ∧ r.hard.term ≠ 1000000000) := (by rintro ⟨_, q1, q2⟩; omega); rw [stands, if_neg q]; (try simp [same, hok])) (KF.n [(1160, 0), (1161, 1), (1162, 2), (1163, 3), (109, 4), (126, 5)])))
   refine AW.skip <| AW.r <| At.a 4 <| At.sI 30 (r.hard.term + 1) (by omega) <| At.z 3 <| AW.r <| At.a 3 <| At.sI 35 (r.id + 1) (by omega) <| At.z 3 <| AW.q 2 <| AW.q 2 <| AW.seq <| AW.weak (Sub.nils [⟨true, 105, some 7, 5005, 3, 1⟩] (by kernel_rfl)) <| AW.g <| At.a 2 <| At.c (spec_l10Vote_spec ⟨r.id, r.of_, 2, r.commit, ⟨r.hard.term + 1, r.id + 1, r.hard.log⟩, [], r.next, r.match_⟩) Tryz.call102 false [] [] [(1160, 6, (r.hard.log.map encEnt)), (5005, 1, []), (1162, 1, (r.next.map encI)), (1163, 1, (r.match_.map encI))] ⟨rfl, ⟨45, (r.hard.log.map encEnt), by kernel_rfl, FrzIs.same (allP_encEnt _)⟩, rfl, ⟨3, [], by kernel_rfl, FrzIs.same (fun _ h => by cases h)⟩, rfl, ⟨3, (r.next.map encI), by kernel_rfl, FrzIs.same (allP_encI _)⟩, rfl, ⟨3, (r.match_.map encI), by kernel_rfl, FrzIs.same (allP_encI _)⟩, trivial⟩ <| At.ll 43 47 10 143 (45, 6) (([(⟨1, (r.hard.term + 1), (r.id + 1), 0, ⟨0, ⟨0, 0, 0, 0, eB⟩⟩⟩ : Rec)]).map encRec) <| At.apK 44 47 10 88 144 109 143 encRec ([] : List Rec) ([(⟨1, (r.hard.term + 1), (r.id + 1), 0, ⟨0, ⟨0, 0, 0, 0, eB⟩⟩⟩ : Rec)]) (by simp only [List.length_map, lens]; omega) <| At.z 1 <| AW.seq <| AW.q 3 <| AW.cE r.of_ (1 : Int) (fun h3 => ?_) (fun h3 => ?_)
   · refine AW.r <| At.a 2 ?_
     by_cases h4 : r.hard.log.length < 80
     · exact At.c (spec_l10Lead_T_spec ⟨r.id, r.of_, 2, r.commit, ⟨r.hard.term + 1, r.id + 1, r.hard.log⟩, [], r.next, r.match_⟩ ([(⟨1, (r.hard.term + 1), (r.id + 1), 0, ⟨0, ⟨0, 0, 0, 0, eB⟩⟩⟩ : Rec)]) (by unfold SmallR; simp only [List.length_nil]; omega) (by dsimp only; omega) (by dsimp only; omega) (by simp only [List.length_map, lens]; omega) h4) Tryz.call103 true [(1160, 0), (5005, 1), (1162, 2), (1163, 3), (144, 4)] (fr 2000 5 6) [] trivial <| At.z 6 <| AW.ret (rf (k3 (K_spec_RaftStand _ r) (show ((leadR (⟨r.id, r.of_, 2, r.commit, ⟨r.hard.term + 1, r.id + 1, r.hard.log⟩, [], r.next, r.match_⟩ : Raft))) = _ from by have q : raftOk r = true ∧ r.role ≠ 3 ∧ r.hard.term ≠ 1000000000 := (⟨hok, by omega, by omega⟩); simp only [stands, if_pos q]; simp [h1, h2, h3, h4, standR, voteRec, zEnt, zCmd, leadRecs]) (show (([(⟨1, (r.hard.term + 1), (r.id + 1), 0, ⟨0, ⟨0, 0, 0, 0, eB⟩⟩⟩ : Rec)]) ++ leadRecs (⟨r.id, r.of_, 2, r.commit, ⟨r.hard.term + 1, r.id + 1, r.hard.log⟩, [], r.next, r.match_⟩ : Raft)) = _ from by have q : raftOk r = true ∧ r.role ≠ 3 ∧ r.hard.term ≠ 1000000000 := (⟨hok, by omega, by omega⟩); simp only [stands, if_pos q]; simp [h1, h2, h3, h4, standR, voteRec, zEnt, zCmd, leadRecs]) (show (sendAll (leadR (⟨r.id, r.of_, 2, r.commit, ⟨r.hard.term + 1, r.id + 1, r.hard.log⟩, [], r.next, r.match_⟩ : Raft))) = _ from by have q : raftOk r = true ∧ r.role ≠ 3 ∧ r.hard.term ≠ 1000000000 := (⟨hok, by omega, by omega⟩); simp only [stands, if_pos q]; simp [h1, h2, h3, h4, standR, voteRec, zEnt, zCmd, leadRecs]) (KF.n (fr 2000 0 6))))
     exact At.c (spec_l10Lead_F_spec ⟨r.id, r.of_, 2, r.commit, ⟨r.hard.term + 1, r.id + 1, r.hard.log⟩, [], r.next, r.match_⟩ ([(⟨1, (r.hard.term + 1), (r.id + 1), 0, ⟨0, ⟨0, 0, 0, 0, eB⟩⟩⟩ : Rec)]) (by unfold SmallR; simp only [List.length_nil]; omega) (by dsimp only; omega) (by dsimp only; omega) (by simp only [List.length_map, lens]; omega) h4) Tryz.call103 true [(1160, 0), (5005, 1), (1162, 2), (1163, 3), (144, 4)] (fr 2000 5 4) [] trivial <| At.z 6 <| AW.ret (rf (k3 (K_spec_RaftStand _ r) (show ((⟨(leadR (⟨r.id, r.of_, 2, r.commit, ⟨r.hard.term + 1, r.id + 1, r.hard.log⟩, [], r.next, r.match_⟩ : Raft)).id, (leadR (⟨r.id, r.of_, 2, r.commit, ⟨r.hard.term + 1, r.id + 1, r.hard.log⟩, [], r.next, r.match_⟩ : Raft)).of_, (leadR (⟨r.id, r.of_, 2, r.commit, ⟨r.hard.term + 1, r.id + 1, r.hard.log⟩, [], r.next, r.match_⟩ : Raft)).role, (leadR (⟨r.id, r.of_, 2, r.commit, ⟨r.hard.term + 1, r.id + 1, r.hard.log⟩, [], r.next, r.match_⟩ : Raft)).commit, ⟨(leadR (⟨r.id, r.of_, 2, r.commit, ⟨r.hard.term + 1, r.id + 1, r.hard.log⟩, [], r.next, r.match_⟩ : Raft)).hard.term, (leadR (⟨r.id, r.of_, 2, r.commit, ⟨r.hard.term + 1, r.id + 1, r.hard.log⟩, [], r.next, r.match_⟩ : Raft)).hard.vote, r.hard.log⟩, (leadR (⟨r.id, r.of_, 2, r.commit, ⟨r.hard.term + 1, r.id + 1, r.hard.log⟩, [], r.next, r.match_⟩ : Raft)).yes, (leadR (⟨r.id, r.of_, 2, r.commit, ⟨r.hard.term + 1, r.id + 1, r.hard.log⟩, [], r.next, r.match_⟩ : Raft)).next, (leadR (⟨r.id, r.of_, 2, r.commit, ⟨r.hard.term + 1, r.id + 1, r.hard.log⟩, [], r.next, r.match_⟩ : Raft)).match_⟩ : Raft)) = _ from by have q : raftOk r = true ∧ r.role ≠ 3 ∧ r.hard.term ≠ 1000000000 := (⟨hok, by omega, by omega⟩); simp only [stands, if_pos q]; simp [h1, h2, h3, h4, standR, leadR, had, lead0]) (show (([(⟨1, (r.hard.term + 1), (r.id + 1), 0, ⟨0, ⟨0, 0, 0, 0, eB⟩⟩⟩ : Rec)])) = _ from by have q : raftOk r = true ∧ r.role ≠ 3 ∧ r.hard.term ≠ 1000000000 := (⟨hok, by omega, by omega⟩); simp only [stands, if_pos q]; simp [h1, h2, h3, h4, standR, voteRec, zEnt, zCmd, leadRecs]) (show (sendAll (leadR (⟨r.id, r.of_, 2, r.commit, ⟨r.hard.term + 1, r.id + 1, r.hard.log⟩, [], r.next, r.match_⟩ : Raft))) = _ from by have q : raftOk r = true ∧ r.role ≠ 3 ∧ r.hard.term ≠ 1000000000 := (⟨hok, by omega, by omega⟩); simp only [stands, if_pos q]; simp [h1, h2, h3, h4, standR, voteRec, zEnt, zCmd, leadRecs]) (KF.n [(1160, 0), (2000, 1), (2001, 2), (2002, 3), (144, 4), (2003, 5)])))
   exact AW.skip <| AW.seq <| AW.gD Tryz_mix <| At.a 3 <| At.c (spec_l10Asks_spec ⟨r.id, r.of_, 2, r.commit, ⟨r.hard.term + 1, r.id + 1, r.hard.log⟩, [], r.next, r.match_⟩ (by unfold SmallR; simp only [List.length_nil]; omega) (by dsimp only; omega)) Tryz.call104 false [] [(2140, 0)] [(1160, 6, (r.hard.log.map encEnt)), (5005, 1, []), (1162, 1, (r.next.map encI)), (1163, 1, (r.match_.map encI))] ⟨rfl, ⟨45, (r.hard.log.map encEnt), by kernel_rfl, FrzIs.same (allP_encEnt _)⟩, rfl, ⟨3, [], by kernel_rfl, FrzIs.same (fun _ h => by cases h)⟩, rfl, ⟨3, (r.next.map encI), by kernel_rfl, FrzIs.same (allP_encI _)⟩, rfl, ⟨3, (r.match_.map encI), by kernel_rfl, FrzIs.same (allP_encI _)⟩, trivial⟩ <| At.zD 3 <| AW.ret (rf (k3 (K_spec_RaftStand _ r) (show ((⟨r.id, r.of_, 2, r.commit, ⟨r.hard.term + 1, r.id + 1, r.hard.log⟩, [], r.next, r.match_⟩ : Raft)) = _ from by have q : raftOk r = true ∧ r.role ≠ 3 ∧ r.hard.term ≠ 1000000000 := (⟨hok, by omega, by omega⟩); simp only [stands, if_pos q]; simp [h1, h2, h3, standR, voteRec, zEnt, zCmd, leadRecs]) (show ([(⟨1, (r.hard.term + 1), (r.id + 1), 0, ⟨0, ⟨0, 0, 0, 0, eB⟩⟩⟩ : Rec)]) = _ from by have q : raftOk r = true ∧ r.role ≠ 3 ∧ r.hard.term ≠ 1000000000 := (⟨hok, by omega, by omega⟩); simp only [stands, if_pos q]; simp [h1, h2, h3, standR, voteRec, zEnt, zCmd, leadRecs]) (show (asks (⟨r.id, r.of_, 2, r.commit, ⟨r.hard.term + 1, r.id + 1, r.hard.log⟩, [], r.next, r.match_⟩ : Raft)) = _ from by have q : raftOk r = true ∧ r.role ≠ 3 ∧ r.hard.term ≠ 1000000000 := (⟨hok, by omega, by omega⟩); simp only [stands, if_pos q]; simp [h1, h2, h3, standR, voteRec, zEnt, zCmd, leadRecs]) (KF.n [(1160, 0), (5005, 1), (1162, 2), (1163, 3), (144, 4), (2140, 5)])))
 refine AW.q 4 <| AW.seq <| AW.weak (Sub.nils [⟨true, 102, some 6, 5001, 45, 6⟩, ⟨true, 102, some 7, 5002, 3, 1⟩, ⟨true, 102, some 8, 5003, 3, 1⟩, ⟨true, 102, some 9, 5004, 3, 1⟩] (by kernel_rfl)) <| AW.g <| At.a 1 <| At.c (spec_l10Same_F_spec r (by exact hz) hok) Tryz.call101 true [] (fr 1160 0 4) [] trivial <| At.l0 37 9 47 10 88 109 <| At.z 3 <| AW.seq <| AW.r <| At.a 1 <| At.c (spec_RaftOk_spec r (by exact hz)) Tryz.call11 true [] [] [] trivial <| At.a 2 <| At.sB 13 (!(raftOk r)) true (sayB (by rw [show (raftOk r) = false from (Bool.eq_false_iff.2 hok)]; rfl)) <| At.z 10 <| AW.cond true (by kernel_rfl) (fun _ => ?_) (fun h => by cases h)
 exact AW.r <| At.a 2 <| At.l0 38 26 51 17 168 126 <| At.z 3 <| AW.ret (rf (k3 (K_spec_RaftStand _ r) (show ((⟨0, 0, 0, 0, ⟨0, 0, []⟩, [], [], []⟩ : Raft)) = _ from by simp [stands, same, hok]; try rfl) (show ([]) = _ from by simp [stands, same, hok]; try rfl) (show ([]) = _ from by simp [stands, same, hok]; try rfl) (KF.n [(1160, 0), (1161, 1), (1162, 2), (1163, 3), (109, 4), (126, 5)])))
theorem spec_l2Low_spec (x : Int) : FnSpec Tryz.prog 136 [nI x] [] (nI (x % 4294967296)) []:= by
 refine FnSpec.of 5 Tryz.func136 rfl Tryz.ntmps136 (by simp) (AW.weakK ?_)
 exact AW.q 1 <| AW.r <| At.a 1 <| At.bt 3 3 4 .and (.tmp 3) (.const (.int .i64 4294967295)) .i64 _ 4294967295 (x % 4294967296) (andM 32 4294967296 _ _ (by decide) (by decide) (by decide)) <| At.z 1 <| AW.ret (rf (KF.n []))
theorem spec_l2Low_D_spec (x : Int) : ∃ rho_ : Int, (True) ∧ FnSpec Tryz.prog 136 [nI x] [] (nI rho_) []:= ⟨_, trivial, spec_l2Low_spec x⟩
theorem spec_l2Turn_spec (x : Int) (n : Int) (hn : 0 ≤ n ∧ n ≤ 32) : FnSpec Tryz.prog 135 [nI x, nI n] [] (nI (bitV .or .i64 (shV .shr .i64 x n) (shV .shl .i64 x (32 - n)) % 4294967296)) []:= by
 refine FnSpec.of 14 Tryz.func135 rfl Tryz.ntmps135 (by simp) (AW.weakK ?_)
 refine AW.q 1 <| AW.seq <| AW.gD Tryz_mix <| At.a 2 <| At.shift (t := 3) (u := 3) (d := 7) (op := .shr) (x := .tmp 5) (y := .tmp 6) (kd := .i64) (kd' := .i64) (a := x) (b := n) (shV .shr .i64 x n) (by kernel_rfl) (by kernel_rfl) (by kernel_rfl) (by kernel_rfl) (by omega) (shS_shr _ _ _) <| At.a 3 <| At.sI 10 (32 - n) (by omega) <| At.shift (t := 3) (u := 3) (d := 11) (op := .shl) (x := .tmp 8) (y := .tmp 10) (kd := .i64) (kd' := .i64) (a := x) (b := 32 - n) (shV .shl .i64 x (32 - n)) (by kernel_rfl) (by kernel_rfl) (by kernel_rfl) (by kernel_rfl) (by omega) (shS_shl _ _ _) <| At.bt 3 3 12 .or (.tmp 7) (.tmp 11) .i64 _ _ (bitV .or .i64 (shV .shr .i64 x n) (shV .shl .i64 x (32 - n))) (bitS_or _ _ _) <| At.c (spec_l2Low_spec (bitV .or .i64 (shV .shr .i64 x n) (shV .shl .i64 x (32 - n)))) Tryz.call136 true [] [] [] trivial <| At.zD 1 <| AW.ret ?_
 refine ⟨_, Sub.refl _ _, ?_⟩
 refine KF.conv (fun w => nI w) (fun w => []) (show ((bitV .or .i64 (shV .shr .i64 x n) (shV .shl .i64 x (32 - n))) % 4294967296) = (bitV .or .i64 (shV .shr .i64 x n) (shV .shl .i64 x (32 - n)) % 4294967296) from by simp_all) ?_
 exact KF.n []
theorem spec_l2Turn_D_spec (x : Int) (n : Int) (hn : 0 ≤ n ∧ n ≤ 32) : ∃ rho_ : Int, (True) ∧ FnSpec Tryz.prog 135 [nI x, nI n] [] (nI rho_) []:= ⟨_, trivial, spec_l2Turn_spec x n hn⟩
theorem spec_l2Keys_spec : FnSpec Tryz.prog 137 [] [] (.ref 0) [.arr 3 1 (keysL.map encI)]:= by
 refine FnSpec.of 2 Tryz.func137 rfl Tryz.ntmps137 (by simp) (AW.weakK ?_)
 refine AW.q 1 <| AW.r <| At.ll 1 3 1 101 (45, 6) (([1116352408, 1899447441, 3049323471, 3921009573, 961987163, 1508970993, 2453635748, 2870763221, 3624381080, 310598401, 607225278, 1426881987, 1925078388, 2162078206, 2614888103, 3248222580, 3835390401, 4022224774, 264347078, 604807628, 770255983, 1249150122, 1555081692, 1996064986, 2554220882, 2821834349, 2952996808, 3210313671, 3336571891, 3584528711, 113926993, 338241895, 666307205, 773529912, 1294757372, 1396182291, 1695183700, 1986661051, 2177026350, 2456956037, 2730485921, 2820302411, 3259730800, 3345764771, 3516065817, 3600352804, 4094571909, 275423344, 430227734, 506948616, 659060556, 883997877, 958139571, 1322822218, 1537002063, 1747873779, 1955562222, 2024104815, 2227730452, 2361852424, 2428436474, 2756734187, 3204031479, 3329325298]).map encI) <| At.z 1 <| AW.ret ?_
 refine ⟨_, Sub.refl _ _, ?_⟩
 refine KF.conv (fun w => .ref 0) (fun w => [.arr 3 1 (w.map encI)]) (show ([1116352408, 1899447441, 3049323471, 3921009573, 961987163, 1508970993, 2453635748, 2870763221, 3624381080, 310598401, 607225278, 1426881987, 1925078388, 2162078206, 2614888103, 3248222580, 3835390401, 4022224774, 264347078, 604807628, 770255983, 1249150122, 1555081692, 1996064986, 2554220882, 2821834349, 2952996808, 3210313671, 3336571891, 3584528711, 113926993, 338241895, 666307205, 773529912, 1294757372, 1396182291, 1695183700, 1986661051, 2177026350, 2456956037, 2730485921, 2820302411, 3259730800, 3345764771, 3516065817, 3600352804, 4094571909, 275423344, 430227734, 506948616, 659060556, 883997877, 958139571, 1322822218, 1537002063, 1747873779, 1955562222, 2024104815, 2227730452, 2361852424, 2428436474, 2756734187, 3204031479, 3329325298]) = (keysL) from rfl) ?_
 exact KF.n [(101, 0)]
theorem spec_l2Block_spec (h : List Int) (b : List UInt8) (hh : h.length = 8) (hb : b.length = 64) : ∃ rho_ : List Int, (rho_.length = 8) ∧ FnSpec Tryz.prog 112 [.sl false 1 (h.map encI), .sl false 1 (b.map encU8)] [] (.ref 0) [.arr 3 1 (rho_.map encI)]:= by
 have hkl : keysL.length = 64 := rfl
 refine dv (fun h_ => FnSpec.of 250 Tryz.func112 rfl Tryz.ntmps112 (by simp) (AW.weakK h_)) ?_
 refine dv (AW.q 1 <| AW.r <| At.l0 27 21 3 1 8 121 <| At.z 1 <| AW.seq <| AW.q 1 <| AW.block ·) ?_
 refine DW.loopQ (fun (x : Nat × List Int) => match x with | (k, w) => Go.Sy.mk [.sl false 1 (h.map encI), .sl false 1 (b.map encU8), .un, .un, .un, .ref 121, nI (k : Int)] [(121, .arr 3 1 (w.map encI))]) (fun (k, w) => 0 ≤ k ∧ k ≤ 16 ∧ w.length = k) (fun (k, w) => 16 - k) (0, []) (by simp) (Sub.o [(121, 121)] (bs 7 99)) ?_
 rintro ⟨k, w⟩ hw ih1
 refine dv (AW.seq <| AW.q 2 ·) ?_
 by_cases h1 : (k : Int) < 16
 · refine dv (AW.dT h1 <| AW.skip <| AW.seq <| AW.block <| AW.gD Tryz_mix <| At.a 4 ·) ?_
   refine dv (At.sI 29 (4 * (k : Int)) (by omega) ·) ?_
   refine dv (At.iSl 22 30 (.tmp 27) (.tmp 29) false 1 (b.map encU8) .i64 (4 * (k : Int)) 5 (by omega) (by simp only [List.length_map]; omega) ·) ?_
   refine Exists.elim (gE b ((4 * (k : Int)).toNat) (by omega)) fun e1 he1 => ?_
   refine dv (At.lVp 5 31 (.tmp 30) false 1 (b.map encU8) ((4 * (k : Int)).toNat) 0 false 1 (encU8 e1) (.int .u8 (e1.toNat : Int)) (mapGet he1) ·) ?_
   refine dv (At.conv (s := 5) (t := 3) (d := 32) (x := .tmp 31) (kd := .u8) (kd' := .i64) (a := (e1.toNat : Int)) (nI (e1.toNat : Int)) (by kernel_rfl) (by kernel_rfl) (by kernel_rfl) (by kernel_rfl) (sayI _ (by have := UInt8.toNat_lt e1; omega)) ·) ?_
   refine dv (At.shift (t := 3) (u := 114) (d := 33) (op := .shl) (x := .tmp 32) (y := .const (.int .u64 24)) (kd := .i64) (kd' := .u64) (a := (e1.toNat : Int)) (b := 24) (shV .shl .i64 (e1.toNat : Int) 24) (by kernel_rfl) (by kernel_rfl) (by kernel_rfl) (by kernel_rfl) (by omega) (shS_shl _ _ _) ·) ?_
   refine dv (At.a 3 ·) ?_
   refine dv (At.sI 36 (4 * (k : Int)) (by omega) ·) ?_
   refine dv (At.a 1 ·) ?_
   refine dv (At.sI 37 ((4 * (k : Int)) + 1) (by omega) ·) ?_
   refine dv (At.iSl 22 38 (.tmp 34) (.tmp 37) false 1 (b.map encU8) .i64 ((4 * (k : Int)) + 1) 5 (by omega) (by simp only [List.length_map]; omega) ·) ?_
   refine Exists.elim (gE b (((4 * (k : Int)) + 1).toNat) (by omega)) fun e2 he2 => ?_
   refine dv (At.lVp 5 39 (.tmp 38) false 1 (b.map encU8) (((4 * (k : Int)) + 1).toNat) 0 false 1 (encU8 e2) (.int .u8 (e2.toNat : Int)) (mapGet he2) ·) ?_
   refine dv (At.conv (s := 5) (t := 3) (d := 40) (x := .tmp 39) (kd := .u8) (kd' := .i64) (a := (e2.toNat : Int)) (nI (e2.toNat : Int)) (by kernel_rfl) (by kernel_rfl) (by kernel_rfl) (by kernel_rfl) (sayI _ (by have := UInt8.toNat_lt e2; omega)) ·) ?_
   refine dv (At.shift (t := 3) (u := 114) (d := 41) (op := .shl) (x := .tmp 40) (y := .const (.int .u64 16)) (kd := .i64) (kd' := .u64) (a := (e2.toNat : Int)) (b := 16) (shV .shl .i64 (e2.toNat : Int) 16) (by kernel_rfl) (by kernel_rfl) (by kernel_rfl) (by kernel_rfl) (by omega) (shS_shl _ _ _) ·) ?_
   refine dv (At.bt 3 3 42 .or (.tmp 33) (.tmp 41) .i64 _ _ (bitV .or .i64 (shV .shl .i64 (e1.toNat : Int) 24) (shV .shl .i64 (e2.toNat : Int) 16)) (bitS_or _ _ _) <| At.a 3 ·) ?_
   refine dv (At.sI 45 (4 * (k : Int)) (by omega) ·) ?_
   refine dv (At.a 1 ·) ?_
   refine dv (At.sI 46 ((4 * (k : Int)) + 2) (by omega) ·) ?_
   refine dv (At.iSl 22 47 (.tmp 43) (.tmp 46) false 1 (b.map encU8) .i64 ((4 * (k : Int)) + 2) 5 (by omega) (by simp only [List.length_map]; omega) ·) ?_
   refine Exists.elim (gE b (((4 * (k : Int)) + 2).toNat) (by omega)) fun e3 he3 => ?_
   refine dv (At.lVp 5 48 (.tmp 47) false 1 (b.map encU8) (((4 * (k : Int)) + 2).toNat) 0 false 1 (encU8 e3) (.int .u8 (e3.toNat : Int)) (mapGet he3) ·) ?_
   refine dv (At.conv (s := 5) (t := 3) (d := 49) (x := .tmp 48) (kd := .u8) (kd' := .i64) (a := (e3.toNat : Int)) (nI (e3.toNat : Int)) (by kernel_rfl) (by kernel_rfl) (by kernel_rfl) (by kernel_rfl) (sayI _ (by have := UInt8.toNat_lt e3; omega)) ·) ?_
   refine dv (At.shift (t := 3) (u := 114) (d := 50) (op := .shl) (x := .tmp 49) (y := .const (.int .u64 8)) (kd := .i64) (kd' := .u64) (a := (e3.toNat : Int)) (b := 8) (shV .shl .i64 (e3.toNat : Int) 8) (by kernel_rfl) (by kernel_rfl) (by kernel_rfl) (by kernel_rfl) (by omega) (shS_shl _ _ _) ·) ?_
   refine dv (At.bt 3 3 51 .or (.tmp 42) (.tmp 50) .i64 _ _ (bitV .or .i64 (bitV .or .i64 (shV .shl .i64 (e1.toNat : Int) 24) (shV .shl .i64 (e2.toNat : Int) 16)) (shV .shl .i64 (e3.toNat : Int) 8)) (bitS_or _ _ _) <| At.a 3 ·) ?_
   refine dv (At.sI 54 (4 * (k : Int)) (by omega) ·) ?_
   refine dv (At.a 1 ·) ?_
   refine dv (At.sI 55 ((4 * (k : Int)) + 3) (by omega) ·) ?_
   refine dv (At.iSl 22 56 (.tmp 52) (.tmp 55) false 1 (b.map encU8) .i64 ((4 * (k : Int)) + 3) 5 (by omega) (by simp only [List.length_map]; omega) ·) ?_
   refine Exists.elim (gE b (((4 * (k : Int)) + 3).toNat) (by omega)) fun e4 he4 => ?_
   refine dv (At.lVp 5 57 (.tmp 56) false 1 (b.map encU8) (((4 * (k : Int)) + 3).toNat) 0 false 1 (encU8 e4) (.int .u8 (e4.toNat : Int)) (mapGet he4) ·) ?_
   refine dv (At.conv (s := 5) (t := 3) (d := 58) (x := .tmp 57) (kd := .u8) (kd' := .i64) (a := (e4.toNat : Int)) (nI (e4.toNat : Int)) (by kernel_rfl) (by kernel_rfl) (by kernel_rfl) (by kernel_rfl) (sayI _ (by have := UInt8.toNat_lt e4; omega)) ·) ?_
   refine dv (At.bt 3 3 59 .or (.tmp 51) (.tmp 58) .i64 _ _ (bitV .or .i64 (bitV .or .i64 (bitV .or .i64 (shV .shl .i64 (e1.toNat : Int) 24) (shV .shl .i64 (e2.toNat : Int) 16)) (shV .shl .i64 (e3.toNat : Int) 8)) (e4.toNat : Int)) (bitS_or _ _ _) <| At.ll 60 3 1 160 (45, 6) (([bitV .or .i64 (bitV .or .i64 (bitV .or .i64 (shV .shl .i64 (e1.toNat : Int) 24) (shV .shl .i64 (e2.toNat : Int) 16)) (shV .shl .i64 (e3.toNat : Int) 8)) (e4.toNat : Int)]).map encI) ·) ?_
   refine dv (At.apK 61 3 1 8 161 121 160 encI w ([bitV .or .i64 (bitV .or .i64 (bitV .or .i64 (shV .shl .i64 (e1.toNat : Int) 24) (shV .shl .i64 (e2.toNat : Int) 16)) (shV .shl .i64 (e3.toNat : Int) 8)) (e4.toNat : Int)]) (by simp only [List.length_map, lens]; omega) ·) ?_
   refine dv (At.zD 1 <| AW.g <| At.a 2 ·) ?_
   refine dv (At.sI 25 ((k : Int) + 1) (by omega) ·) ?_
   refine dv (At.z 1 ·) ?_
   exact dw (fun _ h_ => AWL.weak (Sub.o [(161, 121)] (bs 7 99)) h_) (ih1 (k + 1, (w ++ ([bitV .or .i64 (bitV .or .i64 (bitV .or .i64 (shV .shl .i64 (e1.toNat : Int) 24) (shV .shl .i64 (e2.toNat : Int) 16)) (shV .shl .i64 (e3.toNat : Int) 8)) (e4.toNat : Int)]))) (by simp only [lens]; omega) (by simp only; omega))
 refine dv (AW.dF h1 <| AW.exit <| AW.seq <| AW.q 1 <| AW.block ·) ?_
 refine DW.loopQ (fun (x : Nat × List Int) => match x with | (k, w) => Go.Sy.mk [.sl false 1 (h.map encI), .un, .un, .un, .un, .ref 121, .un, nI (k : Int)] [(121, .arr 3 1 (w.map encI))]) (fun (k, w) => 16 ≤ k ∧ k ≤ 64 ∧ w.length = k) (fun (k, w) => 64 - k) (16, w) (by simp only; omega) (Sub.o [(121, 121)] (bs 8 161)) ?_
 rintro ⟨k, w⟩ hw ih2
 refine dv (AW.seq <| AW.q 2 ·) ?_
 by_cases h2 : (k : Int) < 64
 · refine dv (AW.dT h2 <| AW.skip <| AW.seq <| AW.block <| AW.seq <| AW.gD Tryz_mix <| At.a 3 ·) ?_
   refine dv (At.sI 68 ((k : Int) - 15) (by omega) ·) ?_
   refine dv (At.iRf 27 69 (.tmp 66) (.tmp 68) 121 (w.map encI) .i64 ((k : Int) - 15) 3 1 (by omega) (by simp only [List.length_map]; omega) ·) ?_
   refine Exists.elim (gE w (((k : Int) - 15).toNat) (by omega)) fun e5 he5 => ?_
   refine dv (At.lEl 3 70 (.tmp 69) 121 3 1 (w.map encI) (((k : Int) - 15).toNat) 0 false 1 (encI e5) (nI e5) (mapGet he5) ·) ?_
   refine exE (spec_l2Turn_D_spec e5 7 (by omega)) fun r1_ qr1_ hr1_ => ?_
   refine dv (At.c (hr1_) Tryz.call135 true [] [] [] trivial <| At.a 3 ·) ?_
   refine dv (At.sI 74 ((k : Int) - 15) (by omega) ·) ?_
   refine dv (At.iRf 27 75 (.tmp 72) (.tmp 74) 121 (w.map encI) .i64 ((k : Int) - 15) 3 1 (by omega) (by simp only [List.length_map]; omega) ·) ?_
   refine dv (At.lEl 3 76 (.tmp 75) 121 3 1 (w.map encI) (((k : Int) - 15).toNat) 0 false 1 (encI e5) (nI e5) (mapGet he5) ·) ?_
   refine exE (spec_l2Turn_D_spec e5 18 (by omega)) fun r2_ qr2_ hr2_ => ?_
   refine dv (At.c (hr2_) Tryz.call135 true [] [] [] trivial <| At.bt 3 3 78 .xor (.tmp 71) (.tmp 77) .i64 _ _ (bitV .xor .i64 r1_ r2_) (bitS_xor _ _ _) <| At.a 3 ·) ?_
   refine dv (At.sI 81 ((k : Int) - 15) (by omega) ·) ?_
   refine dv (At.iRf 27 82 (.tmp 79) (.tmp 81) 121 (w.map encI) .i64 ((k : Int) - 15) 3 1 (by omega) (by simp only [List.length_map]; omega) ·) ?_
   refine dv (At.lEl 3 83 (.tmp 82) 121 3 1 (w.map encI) (((k : Int) - 15).toNat) 0 false 1 (encI e5) (nI e5) (mapGet he5) ·) ?_
   refine dv (At.shift (t := 3) (u := 114) (d := 84) (op := .shr) (x := .tmp 83) (y := .const (.int .u64 3)) (kd := .i64) (kd' := .u64) (a := e5) (b := 3) (shV .shr .i64 e5 3) (by kernel_rfl) (by kernel_rfl) (by kernel_rfl) (by kernel_rfl) (by omega) (shS_shr _ _ _) ·) ?_
   refine dv (At.bt 3 3 85 .xor (.tmp 78) (.tmp 84) .i64 _ _ (bitV .xor .i64 (bitV .xor .i64 r1_ r2_) (shV .shr .i64 e5 3)) (bitS_xor _ _ _) <| At.zD 1 <| AW.seq <| AW.gD Tryz_mix <| At.a 3 ·) ?_
   refine dv (At.sI 88 ((k : Int) - 2) (by omega) ·) ?_
   refine dv (At.iRf 27 89 (.tmp 86) (.tmp 88) 121 (w.map encI) .i64 ((k : Int) - 2) 3 1 (by omega) (by simp only [List.length_map]; omega) ·) ?_
   refine Exists.elim (gE w (((k : Int) - 2).toNat) (by omega)) fun e6 he6 => ?_
   refine dv (At.lEl 3 90 (.tmp 89) 121 3 1 (w.map encI) (((k : Int) - 2).toNat) 0 false 1 (encI e6) (nI e6) (mapGet he6) ·) ?_
   refine exE (spec_l2Turn_D_spec e6 17 (by omega)) fun r3_ qr3_ hr3_ => ?_
   refine dv (At.c (hr3_) Tryz.call135 true [] [] [] trivial <| At.a 3 ·) ?_
   refine dv (At.sI 94 ((k : Int) - 2) (by omega) ·) ?_
   refine dv (At.iRf 27 95 (.tmp 92) (.tmp 94) 121 (w.map encI) .i64 ((k : Int) - 2) 3 1 (by omega) (by simp only [List.length_map]; omega) ·) ?_
   refine dv (At.lEl 3 96 (.tmp 95) 121 3 1 (w.map encI) (((k : Int) - 2).toNat) 0 false 1 (encI e6) (nI e6) (mapGet he6) ·) ?_
   refine exE (spec_l2Turn_D_spec e6 19 (by omega)) fun r4_ qr4_ hr4_ => ?_
   refine dv (At.c (hr4_) Tryz.call135 true [] [] [] trivial <| At.bt 3 3 98 .xor (.tmp 91) (.tmp 97) .i64 _ _ (bitV .xor .i64 r3_ r4_) (bitS_xor _ _ _) <| At.a 3 ·) ?_
   refine dv (At.sI 101 ((k : Int) - 2) (by omega) ·) ?_
   refine dv (At.iRf 27 102 (.tmp 99) (.tmp 101) 121 (w.map encI) .i64 ((k : Int) - 2) 3 1 (by omega) (by simp only [List.length_map]; omega) ·) ?_
   refine dv (At.lEl 3 103 (.tmp 102) 121 3 1 (w.map encI) (((k : Int) - 2).toNat) 0 false 1 (encI e6) (nI e6) (mapGet he6) ·) ?_
   refine dv (At.shift (t := 3) (u := 114) (d := 104) (op := .shr) (x := .tmp 103) (y := .const (.int .u64 10)) (kd := .i64) (kd' := .u64) (a := e6) (b := 10) (shV .shr .i64 e6 10) (by kernel_rfl) (by kernel_rfl) (by kernel_rfl) (by kernel_rfl) (by omega) (shS_shr _ _ _) ·) ?_
   refine dv (At.bt 3 3 105 .xor (.tmp 98) (.tmp 104) .i64 _ _ (bitV .xor .i64 (bitV .xor .i64 r3_ r4_) (shV .shr .i64 e6 10)) (bitS_xor _ _ _) <| At.zD 1 <| AW.gD Tryz_mix <| At.a 5 ·) ?_
   refine dv (At.sI 110 ((k : Int) - 7) (by omega) ·) ?_
   refine dv (At.iRf 27 111 (.tmp 108) (.tmp 110) 121 (w.map encI) .i64 ((k : Int) - 7) 3 1 (by omega) (by simp only [List.length_map]; omega) ·) ?_
   refine Exists.elim (gE w (((k : Int) - 7).toNat) (by omega)) fun e7 he7 => ?_
   refine dv (At.lEl 3 112 (.tmp 111) 121 3 1 (w.map encI) (((k : Int) - 7).toNat) 0 false 1 (encI e7) (nI e7) (mapGet he7) <| At.a 6 ·) ?_
   refine dv (At.sI 118 ((k : Int) - 16) (by omega) ·) ?_
   refine dv (At.iRf 27 119 (.tmp 116) (.tmp 118) 121 (w.map encI) .i64 ((k : Int) - 16) 3 1 (by omega) (by simp only [List.length_map]; omega) ·) ?_
   refine Exists.elim (gE w (((k : Int) - 16).toNat) (by omega)) fun e8 he8 => ?_
   refine dv (At.lEl 3 120 (.tmp 119) 121 3 1 (w.map encI) (((k : Int) - 16).toNat) 0 false 1 (encI e8) (nI e8) (mapGet he8) <| At.a 1 ·) ?_
   refine exE (spec_l2Low_D_spec (IntKind.i64.wrap ((IntKind.i64.wrap ((IntKind.i64.wrap ((bitV .xor .i64 (bitV .xor .i64 r3_ r4_) (shV .shr .i64 e6 10)) + e7)) + (bitV .xor .i64 (bitV .xor .i64 r1_ r2_) (shV .shr .i64 e5 3)))) + e8))) fun r5_ qr5_ hr5_ => ?_
   refine dv (At.c (hr5_) Tryz.call136 true [] [] [] trivial <| At.ll 123 3 1 223 (45, 6) (([r5_]).map encI) ·) ?_
   refine dv (At.apK 124 3 1 8 224 121 223 encI w ([r5_]) (by simp only [List.length_map, lens]; omega) ·) ?_
   refine dv (At.zD 1 <| AW.g <| At.a 2 ·) ?_
   refine dv (At.sI 65 ((k : Int) + 1) (by omega) ·) ?_
   refine dv (At.z 1 ·) ?_
   exact dw (fun _ h_ => AWL.weak (Sub.o [(224, 121)] (bs 8 161)) h_) (ih2 (k + 1, (w ++ ([r5_]))) (by simp only [lens]; omega) (by simp only; omega))
 refine dv (AW.dF h2 <| AW.exit <| AW.r <| At.c (spec_l2Keys_spec) Tryz.call137 true [] [(3500, 0)] [] trivial <| At.z 1 <| AW.r <| At.l0 27 126 3 1 8 226 <| At.a 1 ·) ?_
 refine dv (At.append (t := 27) (d := 128) (e := 3) (es := 1) (bytes := 8) (s := .tmp 126) (x := .tmp 127) (S := .ref 226) (T := .sl false 1 (h.map encI)) (xs := []) (ys := (h.map encI)) 228 [226] [] (h.map encI) (by kernel_rfl) (by kernel_rfl) (by kernel_rfl) (by kernel_rfl) ⟨by kernel_rfl, rfl⟩ ⟨rfl, rfl, (allP_encI _), rfl⟩ (by kernel_rfl) (by kernel_rfl) (by simp) (by simp only [List.length_map, lens]; omega) (by simp only [List.length_map, lens]; omega) ·) ?_
 refine dv (At.z 1 <| AW.seq <| AW.q 1 <| AW.block ·) ?_
 refine DW.loopQ (fun (x : Nat × List Int) => match x with | (k, v) => Go.Sy.mk [.sl false 1 (h.map encI), .un, .un, .un, .un, .ref 121, .un, .un, .un, .un, .ref 3500, .ref 228, nI (k : Int)] [(121, .arr 3 1 (w.map encI)), (228, .arr 3 1 (v.map encI)), (3500, .arr 3 1 (keysL.map encI))]) (fun (k, v) => k ≤ 64 ∧ v.length = 8) (fun (k, v) => 64 - k) (0, h) (by simp only; omega) (Sub.o (dg [121, 228, 3500]) (bs 13 7201)) ?_
 rintro ⟨k, v⟩ hw ih3
 refine dv (AW.seq <| AW.q 2 ·) ?_
 by_cases h3 : (k : Int) < 64
 · refine dv (AW.dT h3 <| AW.skip <| AW.seq <| AW.block <| AW.seq <| AW.gD Tryz_mix <| At.a 1 ·) ?_
   refine dv (At.iRf 27 134 (.tmp 133) (.const (.int .i64 4)) 228 (v.map encI) .i64 4 3 1 (by omega) (by simp only [List.length_map]; omega) ·) ?_
   refine Exists.elim (gE v 4 (by omega)) fun e9 he9 => ?_
   refine dv (At.lEl 3 135 (.tmp 134) 228 3 1 (v.map encI) 4 0 false 1 (encI e9) (nI e9) (mapGet he9) <| At.a 1 ·) ?_
   refine dv (At.iRf 27 137 (.tmp 136) (.const (.int .i64 0)) 228 (v.map encI) .i64 0 3 1 (by omega) (by simp only [List.length_map]; omega) ·) ?_
   refine Exists.elim (gE v 0 (by omega)) fun e10 he10 => ?_
   refine dv (At.lEl 3 138 (.tmp 137) 228 3 1 (v.map encI) 0 0 false 1 (encI e10) (nI e10) (mapGet he10) <| At.zD 2 <| AW.seq <| AW.gD Tryz_mix <| At.a 2 ·) ?_
   refine dv (At.iRf 27 141 (.tmp 140) (.const (.int .i64 5)) 228 (v.map encI) .i64 5 3 1 (by omega) (by simp only [List.length_map]; omega) ·) ?_
   refine Exists.elim (gE v 5 (by omega)) fun e11 he11 => ?_
   refine dv (At.lEl 3 142 (.tmp 141) 228 3 1 (v.map encI) 5 0 false 1 (encI e11) (nI e11) (mapGet he11) <| At.bt 3 3 143 .and (.tmp 139) (.tmp 142) .i64 _ _ (bitV .and .i64 e9 e11) (bitS_and _ _ _) <| At.a 1 <| At.bt 3 3 145 .xor (.const (.int .i64 4294967295)) (.tmp 144) .i64 _ _ (bitV .xor .i64 4294967295 e9) (bitS_xor _ _ _) <| At.a 1 ·) ?_
   refine dv (At.iRf 27 147 (.tmp 146) (.const (.int .i64 6)) 228 (v.map encI) .i64 6 3 1 (by omega) (by simp only [List.length_map]; omega) ·) ?_
   refine Exists.elim (gE v 6 (by omega)) fun e12 he12 => ?_
   refine dv (At.lEl 3 148 (.tmp 147) 228 3 1 (v.map encI) 6 0 false 1 (encI e12) (nI e12) (mapGet he12) <| At.bt 3 3 149 .and (.tmp 145) (.tmp 148) .i64 _ _ (bitV .and .i64 (bitV .xor .i64 4294967295 e9) e12) (bitS_and _ _ _) <| At.bt 3 3 150 .xor (.tmp 143) (.tmp 149) .i64 _ _ (bitV .xor .i64 (bitV .and .i64 e9 e11) (bitV .and .i64 (bitV .xor .i64 4294967295 e9) e12)) (bitS_xor _ _ _) <| At.zD 1 <| AW.seq <| AW.gD Tryz_mix <| At.a 1 ·) ?_
   refine dv (At.iRf 27 152 (.tmp 151) (.const (.int .i64 7)) 228 (v.map encI) .i64 7 3 1 (by omega) (by simp only [List.length_map]; omega) ·) ?_
   refine Exists.elim (gE v 7 (by omega)) fun e13 he13 => ?_
   refine dv (At.lEl 3 153 (.tmp 152) 228 3 1 (v.map encI) 7 0 false 1 (encI e13) (nI e13) (mapGet he13) <| At.a 1 ·) ?_
   refine exE (spec_l2Turn_D_spec e9 6 (by omega)) fun r1_ qr1_ hr1_ => ?_
   refine dv (At.c (hr1_) Tryz.call135 true [] [] [] trivial <| At.a 1 ·) ?_
   refine exE (spec_l2Turn_D_spec e9 11 (by omega)) fun r2_ qr2_ hr2_ => ?_
   refine dv (At.c (hr2_) Tryz.call135 true [] [] [] trivial <| At.bt 3 3 158 .xor (.tmp 155) (.tmp 157) .i64 _ _ (bitV .xor .i64 r1_ r2_) (bitS_xor _ _ _) <| At.a 1 ·) ?_
   refine exE (spec_l2Turn_D_spec e9 25 (by omega)) fun r3_ qr3_ hr3_ => ?_
   refine dv (At.c (hr3_) Tryz.call135 true [] [] [] trivial <| At.bt 3 3 161 .xor (.tmp 158) (.tmp 160) .i64 _ _ (bitV .xor .i64 (bitV .xor .i64 r1_ r2_) r3_) (bitS_xor _ _ _) <| At.a 5 ·) ?_
   refine dv (At.iRf 27 167 (.tmp 165) (.tmp 166) 3500 (keysL.map encI) .i64 (k : Int) 3 1 (by omega) (by simp only [List.length_map]; omega) ·) ?_
   refine Exists.elim (gE keysL k (by omega)) fun e14 he14 => ?_
   refine dv (At.lEl 3 168 (.tmp 167) 3500 3 1 (keysL.map encI) k 0 false 1 (encI e14) (nI e14) (mapGet he14) <| At.a 3 ·) ?_
   refine dv (At.iRf 27 172 (.tmp 170) (.tmp 171) 121 (w.map encI) .i64 (k : Int) 3 1 (by omega) (by simp only [List.length_map]; omega) ·) ?_
   refine Exists.elim (gE w k (by omega)) fun e15 he15 => ?_
   refine dv (At.lEl 3 173 (.tmp 172) 121 3 1 (w.map encI) k 0 false 1 (encI e15) (nI e15) (mapGet he15) <| At.a 1 ·) ?_
   refine exE (spec_l2Low_D_spec (IntKind.i64.wrap ((IntKind.i64.wrap ((IntKind.i64.wrap ((IntKind.i64.wrap (e13 + (bitV .xor .i64 (bitV .xor .i64 r1_ r2_) r3_))) + (bitV .xor .i64 (bitV .and .i64 e9 e11) (bitV .and .i64 (bitV .xor .i64 4294967295 e9) e12)))) + e14)) + e15))) fun r4_ qr4_ hr4_ => ?_
   refine dv (At.c (hr4_) Tryz.call136 true [] [] [] trivial <| At.zD 1 <| AW.seq <| AW.gD Tryz_mix <| At.a 2 ·) ?_
   refine dv (At.iRf 27 178 (.tmp 177) (.const (.int .i64 1)) 228 (v.map encI) .i64 1 3 1 (by omega) (by simp only [List.length_map]; omega) ·) ?_
   refine Exists.elim (gE v 1 (by omega)) fun e16 he16 => ?_
   refine dv (At.lEl 3 179 (.tmp 178) 228 3 1 (v.map encI) 1 0 false 1 (encI e16) (nI e16) (mapGet he16) <| At.bt 3 3 180 .and (.tmp 176) (.tmp 179) .i64 _ _ (bitV .and .i64 e10 e16) (bitS_and _ _ _) <| At.a 2 ·) ?_
   refine dv (At.iRf 27 183 (.tmp 182) (.const (.int .i64 2)) 228 (v.map encI) .i64 2 3 1 (by omega) (by simp only [List.length_map]; omega) ·) ?_
   refine Exists.elim (gE v 2 (by omega)) fun e17 he17 => ?_
   refine dv (At.lEl 3 184 (.tmp 183) 228 3 1 (v.map encI) 2 0 false 1 (encI e17) (nI e17) (mapGet he17) <| At.bt 3 3 185 .and (.tmp 181) (.tmp 184) .i64 _ _ (bitV .and .i64 e10 e17) (bitS_and _ _ _) <| At.bt 3 3 186 .xor (.tmp 180) (.tmp 185) .i64 _ _ (bitV .xor .i64 (bitV .and .i64 e10 e16) (bitV .and .i64 e10 e17)) (bitS_xor _ _ _) <| At.a 1 ·) ?_
   refine dv (At.iRf 27 188 (.tmp 187) (.const (.int .i64 1)) 228 (v.map encI) .i64 1 3 1 (by omega) (by simp only [List.length_map]; omega) ·) ?_
   refine dv (At.lEl 3 189 (.tmp 188) 228 3 1 (v.map encI) 1 0 false 1 (encI e16) (nI e16) (mapGet he16) <| At.a 1 ·) ?_
   refine dv (At.iRf 27 191 (.tmp 190) (.const (.int .i64 2)) 228 (v.map encI) .i64 2 3 1 (by omega) (by simp only [List.length_map]; omega) ·) ?_
   refine dv (At.lEl 3 192 (.tmp 191) 228 3 1 (v.map encI) 2 0 false 1 (encI e17) (nI e17) (mapGet he17) <| At.bt 3 3 193 .and (.tmp 189) (.tmp 192) .i64 _ _ (bitV .and .i64 e16 e17) (bitS_and _ _ _) <| At.bt 3 3 194 .xor (.tmp 186) (.tmp 193) .i64 _ _ (bitV .xor .i64 (bitV .xor .i64 (bitV .and .i64 e10 e16) (bitV .and .i64 e10 e17)) (bitV .and .i64 e16 e17)) (bitS_xor _ _ _) <| At.zD 1 <| AW.r <| At.a 1 ·) ?_
   refine exE (spec_l2Turn_D_spec e10 2 (by omega)) fun r5_ qr5_ hr5_ => ?_
   refine dv (At.c (hr5_) Tryz.call135 true [] [] [] trivial <| At.a 1 ·) ?_
   refine exE (spec_l2Turn_D_spec e10 13 (by omega)) fun r6_ qr6_ hr6_ => ?_
   refine dv (At.c (hr6_) Tryz.call135 true [] [] [] trivial <| At.bt 3 3 199 .xor (.tmp 196) (.tmp 198) .i64 _ _ (bitV .xor .i64 r5_ r6_) (bitS_xor _ _ _) <| At.a 1 ·) ?_
   refine exE (spec_l2Turn_D_spec e10 22 (by omega)) fun r7_ qr7_ hr7_ => ?_
   refine dv (At.c (hr7_) Tryz.call135 true [] [] [] trivial <| At.bt 3 3 202 .xor (.tmp 199) (.tmp 201) .i64 _ _ (bitV .xor .i64 (bitV .xor .i64 r5_ r6_) r7_) (bitS_xor _ _ _) <| At.a 2 ·) ?_
   refine exE (spec_l2Low_D_spec (IntKind.i64.wrap ((bitV .xor .i64 (bitV .xor .i64 r5_ r6_) r7_) + (bitV .xor .i64 (bitV .xor .i64 (bitV .and .i64 e10 e16) (bitV .and .i64 e10 e17)) (bitV .and .i64 e16 e17))))) fun r8_ qr8_ hr8_ => ?_
   refine dv (At.c (hr8_) Tryz.call136 true [] [] [] trivial <| At.z 1 <| AW.gD Tryz_mix <| At.a 3 ·) ?_
   refine exE (spec_l2Low_D_spec (IntKind.i64.wrap (r4_ + r8_))) fun r9_ qr9_ hr9_ => ?_
   refine dv (At.c (hr9_) Tryz.call136 true [] [] [] trivial <| At.a 2 ·) ?_
   refine dv (At.iRf 27 212 (.tmp 211) (.const (.int .i64 1)) 228 (v.map encI) .i64 1 3 1 (by omega) (by simp only [List.length_map]; omega) ·) ?_
   refine dv (At.lEl 3 213 (.tmp 212) 228 3 1 (v.map encI) 1 0 false 1 (encI e16) (nI e16) (mapGet he16) <| At.a 1 ·) ?_
   refine dv (At.iRf 27 215 (.tmp 214) (.const (.int .i64 2)) 228 (v.map encI) .i64 2 3 1 (by omega) (by simp only [List.length_map]; omega) ·) ?_
   refine dv (At.lEl 3 216 (.tmp 215) 228 3 1 (v.map encI) 2 0 false 1 (encI e17) (nI e17) (mapGet he17) <| At.a 1 ·) ?_
   refine dv (At.iRf 27 218 (.tmp 217) (.const (.int .i64 3)) 228 (v.map encI) .i64 3 3 1 (by omega) (by simp only [List.length_map]; omega) ·) ?_
   refine Exists.elim (gE v 3 (by omega)) fun e18 he18 => ?_
   refine dv (At.lEl 3 219 (.tmp 218) 228 3 1 (v.map encI) 3 0 false 1 (encI e18) (nI e18) (mapGet he18) <| At.a 2 ·) ?_
   refine exE (spec_l2Low_D_spec (IntKind.i64.wrap (e18 + r4_))) fun r10_ qr10_ hr10_ => ?_
   refine dv (At.c (hr10_) Tryz.call136 true [] [] [] trivial <| At.a 2 ·) ?_
   refine dv (At.iRf 27 225 (.tmp 224) (.const (.int .i64 5)) 228 (v.map encI) .i64 5 3 1 (by omega) (by simp only [List.length_map]; omega) ·) ?_
   refine dv (At.lEl 3 226 (.tmp 225) 228 3 1 (v.map encI) 5 0 false 1 (encI e11) (nI e11) (mapGet he11) <| At.a 1 ·) ?_
   refine dv (At.iRf 27 228 (.tmp 227) (.const (.int .i64 6)) 228 (v.map encI) .i64 6 3 1 (by omega) (by simp only [List.length_map]; omega) ·) ?_
   refine dv (At.lEl 3 229 (.tmp 228) 228 3 1 (v.map encI) 6 0 false 1 (encI e12) (nI e12) (mapGet he12) <| At.ll 230 3 1 330 (45, 6) (([r9_, e10, e16, e17, r10_, e9, e11, e12]).map encI) <| At.zD 1 <| AW.g <| At.a 2 ·) ?_
   refine dv (At.sI 132 ((k : Int) + 1) (by omega) ·) ?_
   refine dv (At.z 1 ·) ?_
   exact dw (fun _ h_ => AWL.weak (Sub.o [(121, 121), (330, 228), (3500, 3500)] (bs 13 7201)) h_) (ih3 (k + 1, ([r9_, e10, e16, e17, r10_, e9, e11, e12])) (⟨by omega, rfl⟩) (by simp only; omega))
 refine dv (AW.dF h3 <| AW.exit <| AW.r <| At.l0 27 231 3 1 8 331 <| At.z 1 <| AW.seq <| AW.q 1 <| AW.block ·) ?_
 refine DW.loopQ (fun (x : Nat × List Int) => match x with | (k, o) => Go.Sy.mk [.sl false 1 (h.map encI), .un, .un, .un, .un, .un, .un, .un, .un, .un, .un, .ref 228, .un, .un, .un, .un, .un, .un, .un, .ref 331, nI (k : Int)] [(228, .arr 3 1 (v.map encI)), (331, .arr 3 1 (o.map encI))]) (fun (k, o) => 0 ≤ k ∧ k ≤ 8 ∧ o.length = k) (fun (k, o) => 8 - k) (0, []) (by simp) (Sub.o (dg [228, 331]) (bs 21 1574913)) ?_
 rintro ⟨k, o⟩ hw ih4
 refine dv (AW.seq <| AW.q 2 ·) ?_
 by_cases h4 : (k : Int) < 8
 · refine dv (AW.dT h4 <| AW.skip <| AW.seq <| AW.block <| AW.gD Tryz_mix <| At.a 3 ·) ?_
   refine dv (At.iSl 27 239 (.tmp 237) (.tmp 238) false 1 (h.map encI) .i64 (k : Int) 3 (by omega) (by simp only [List.length_map]; omega) ·) ?_
   refine Exists.elim (gE h k (by omega)) fun e19 he19 => ?_
   refine dv (At.lVp 3 240 (.tmp 239) false 1 (h.map encI) k 0 false 1 (encI e19) (nI e19) (mapGet he19) <| At.a 2 ·) ?_
   refine dv (At.iRf 27 243 (.tmp 241) (.tmp 242) 228 (v.map encI) .i64 (k : Int) 3 1 (by omega) (by simp only [List.length_map]; omega) ·) ?_
   refine Exists.elim (gE v k (by omega)) fun e20 he20 => ?_
   refine dv (At.lEl 3 244 (.tmp 243) 228 3 1 (v.map encI) k 0 false 1 (encI e20) (nI e20) (mapGet he20) <| At.a 1 ·) ?_
   refine exE (spec_l2Low_D_spec (IntKind.i64.wrap (e19 + e20))) fun r1_ qr1_ hr1_ => ?_
   refine dv (At.c (hr1_) Tryz.call136 true [] [] [] trivial <| At.ll 247 3 1 347 (45, 6) (([r1_]).map encI) ·) ?_
   refine dv (At.apK 248 3 1 8 348 331 347 encI o ([r1_]) (by simp only [List.length_map, lens]; omega) ·) ?_
   refine dv (At.zD 1 <| AW.g <| At.a 2 ·) ?_
   refine dv (At.sI 235 ((k : Int) + 1) (by omega) ·) ?_
   refine dv (At.z 1 ·) ?_
   exact dw (fun _ h_ => AWL.weak (Sub.o [(228, 228), (348, 331)] (bs 21 1574913)) h_) (ih4 (k + 1, (o ++ ([r1_]))) (by simp only [lens]; omega) (by simp only; omega))
 refine dv (AW.dF h4 <| AW.exit <| AW.q 2 <| AW.ret ·) ?_
 refine dv (⟨_, Sub.refl _ _, ·⟩) ?_
 exact ⟨(o), (by omega), KF.n [(331, 0)]⟩
end Go.Proofs.YtocjgmdfocaamaaGreat
