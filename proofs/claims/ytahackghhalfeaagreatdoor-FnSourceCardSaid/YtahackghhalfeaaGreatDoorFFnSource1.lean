/- The contracts of the functions that FnSource reaches (each: what it answers, said over values), printed by a program of this session (wip/sy/g/gen.py). -/
import Derived.Test.YtahackghhalfeaaGreatDoorSSourceG4
import Derived.Test.YtahackghhalfeaaGreatDoorSSourceG5
set_option linter.unusedVariables false
set_option linter.unusedSimpArgs false
set_option maxRecDepth 100000
set_option maxHeartbeats 4000000
namespace Go.Proofs.YtahackghhalfeaaGreatDoor
open Go Go.Sy Go.Proofs Go.Proofs.YtahackghhalfeaaGreatDoor.OnRd
theorem Tryz_mix : Tryz.prog.follows .mixedOrders = true := by kernel_rfl
theorem laws_big_spec  (code : List UInt8) (hc : code.length ≤ 9223372036854775807) : FnSpec Tryz.prog 4 [.sl false 1 (code.map encU8)] [] (.bool (decide ((code.length : Int) > 1048576))) [] := by
 refine FnSpec.of 6 Tryz.func4 rfl Tryz.ntmps4 (by simp) (AW.weakK ?_)
 refine AW.q 1 ?_
 refine AW.r ?_
 refine At.a 2 ?_
 refine At.sL 4 encU8 code ?_
 refine At.z 2 ?_
 exact AW.ret (rf (KF.n []))
theorem spec_l1New_spec  (data : List UInt8) (hd : data.length ≤ 1048576) : ∃ rho_ : Int, (True) ∧ FnSpec Tryz.prog 15 [.sl false 1 (data.map encU8)] [] (.ptr 0 0 0) [.box 67 [.sl false 1 (data.map encU8), .int .i64 0, .int .i64 rho_]] := by
 refine dv (fun h_ => FnSpec.of 32 Tryz.func15 rfl Tryz.ntmps15 (by simp) (AW.weakK h_)) ?_
 refine dv (AW.q 1 ·) ?_
 refine dv (AW.r ·) ?_
 refine dv (At.a 2 ·) ?_
 refine dv (At.sL 6 encU8 data ·) ?_
 refine dv (At.a 1 ·) ?_
 refine dv (At.sI 7 (10677 + (data.length : Int)) (by omega) ·) ?_
 refine dv (At.z 1 ·) ?_
 refine dv (AW.seq ·) ?_
 refine dv (AW.q 1 ·) ?_
 refine dv (AW.block ·) ?_
 refine DW.loopQ (fun (x : Nat × Int) => match x with | (k, s) => Go.Sy.mk [.sl false 1 (data.map encU8), .un, .un, .int .i64 s, .int .i64 (k : Int)] []) (fun (x : Nat × Int) => match x with | (k, s) => k ≤ data.length) (fun (x : Nat × Int) => match x with | (k, s) => data.length - k) (0, (10677 + (data.length : Int))) (by simp) (Sub.o [] [true, false, false, true, true]) ?_
 rintro ⟨k, s⟩ hk ih1
 refine dv (AW.seq ·) ?_
 refine dv (AW.r ·) ?_
 refine dv (At.a 3 ·) ?_
 refine dv (At.sL 10 encU8 data ·) ?_
 refine dv (At.a 2 ·) ?_
 by_cases h1 : (k : Int) < (data.length : Int)
 · refine dv (At.sB 12 _ _ (sayT h1) ·) ?_
   refine dv (At.z 3 ·) ?_
   by_cases h2 : (k : Int) < 4000
   · refine dv (AW.condT (decide ((k : Int) < 4000)) (by kernel_rfl) (decide_eq_true h2) ·) ?_
     refine dv (AW.skip ·) ?_
     refine dv (AW.seq ·) ?_
     refine dv (AW.block ·) ?_
     refine dv (AW.g ·) ?_
     refine dv (At.a 4 ·) ?_
     refine dv (At.iSl 22 22 (.tmp 20) (.tmp 21) false 1 (data.map encU8) .i64 (k : Int) 5 (by omega) (by simp only [List.length_map]; omega) ·) ?_
     refine Exists.elim (gE data k (by omega)) fun e1 he1 => ?_
     refine dv (At.lVp 5 23 (.tmp 22) false 1 (data.map encU8) k 0 false 1 (encU8 e1) (.int .u8 (e1.toNat : Int)) (mapGet he1) ·) ?_
     refine dv (At.conv (s := 5) (t := 3) (d := 24) (x := .tmp 23) (kd := .u8) (kd' := .i64) (a := (e1.toNat : Int)) (.int .i64 (e1.toNat : Int)) (by kernel_rfl) (by kernel_rfl) (by kernel_rfl) (by kernel_rfl) (sayI _ (by have := UInt8.toNat_lt e1; omega)) ·) ?_
     refine dv (At.a 2 ·) ?_
     refine dv (At.bits (t := 3) (u := 3) (d := 27) (op := .and) (x := .tmp 26) (y := .const (.int .i64 1073741823)) (kd := .i64) (a := IntKind.i64.wrap ((IntKind.i64.wrap ((IntKind.i64.wrap (s * 131)) + (e1.toNat : Int))) + 7)) (b := 1073741823) ((IntKind.i64.wrap ((IntKind.i64.wrap ((IntKind.i64.wrap (s * 131)) + (e1.toNat : Int))) + 7)) % 1073741824) (by kernel_rfl) (by kernel_rfl) (by kernel_rfl) (by kernel_rfl) (andM 30 1073741824 _ _ (by decide) (by decide) (by decide)) ·) ?_
     refine dv (At.z 1 ·) ?_
     refine dv (AW.g ·) ?_
     refine dv (At.a 2 ·) ?_
     refine dv (At.sI 17 ((k : Int) + 1) (by omega) ·) ?_
     refine dv (At.z 1 ·) ?_
     exact dw (fun _ h_ => AWL.weak (Sub.o [] [true, false, false, true, true]) h_) (ih1 (k + 1, ((IntKind.i64.wrap ((IntKind.i64.wrap ((IntKind.i64.wrap (s * 131)) + (e1.toNat : Int))) + 7)) % 1073741824)) (by simp only; omega) (by simp only; omega))
   refine dv (AW.condF (decide ((k : Int) < 4000)) (by kernel_rfl) (decide_eq_false h2) ·) ?_
   refine dv (AW.exit ·) ?_
   refine dv (AW.q 5 ·) ?_
   refine dv (AW.ret ·) ?_
   refine dv (⟨_, Sub.refl _ _, ·⟩) ?_
   exact ⟨(s), trivial, KF.mk (.inr rfl) [(131, 0)] [.ptr 131 0 0] (by kernel_rfl) (by kernel_rfl) (by kernel_rfl) (by kernel_rfl) (by kernel_rfl)⟩
 refine dv (At.sB 12 _ _ (sayF h1) ·) ?_
 refine dv (At.z 3 ·) ?_
 refine dv (fun h_ => AW.cond false (by kernel_rfl) (fun h => by cases h) (fun _ => h_)) ?_
 refine dv (AW.exit ·) ?_
 refine dv (AW.q 5 ·) ?_
 refine dv (AW.ret ·) ?_
 refine dv (⟨_, Sub.refl _ _, ·⟩) ?_
 exact ⟨(s), trivial, KF.mk (.inr rfl) [(131, 0)] [.ptr 131 0 0] (by kernel_rfl) (by kernel_rfl) (by kernel_rfl) (by kernel_rfl) (by kernel_rfl)⟩
theorem spec_l1Byte_spec  (c : Cur) (hp : 0 ≤ c.pos ∧ c.pos ≤ c.data.length ∧ c.data.length ≤ 1048576) : ∃ rho_ : Int × Int × Int, (0 ≤ rho_.1 ∧ rho_.1 ≤ c.data.length ∧ 0 ≤ rho_.2.2 ∧ rho_.2.2 ≤ 255) ∧ FnSpec Tryz.prog 67 [.ptr 0 0 0] [.box 67 [.sl false 1 (c.data.map encU8), .int .i64 c.pos, .int .i64 c.seed]] (.int .i64 rho_.2.2) [.box 67 [.sl false 1 (c.data.map encU8), .int .i64 rho_.1, .int .i64 rho_.2.1]] := by
 refine dv (fun h_ => FnSpec.of 58 Tryz.func67 rfl Tryz.ntmps67 (by simp) (AW.weakK h_)) ?_
 refine dv (AW.q 1 ·) ?_
 refine dv (AW.q 10 ·) ?_
 refine dv (AW.seq ·) ?_
 refine dv (AW.gD Tryz_mix ·) ?_
 refine dv (At.a 4 ·) ?_
 refine dv (At.shift (t := 3) (u := 107) (d := 17) (op := .shr) (x := .tmp 16) (y := .const (.int .u64 33)) (kd := .i64) (kd' := .u64) (a := IntKind.i64.wrap ((IntKind.i64.wrap (c.seed * 6364136223846793005)) + 1442695040888963407)) (b := 33) (shV .shr .i64 (IntKind.i64.wrap ((IntKind.i64.wrap (c.seed * 6364136223846793005)) + 1442695040888963407)) 33) (by kernel_rfl) (by kernel_rfl) (by kernel_rfl) (by kernel_rfl) (by omega) (shS_shr _ _ _) ·) ?_
 refine dv (At.a 4 ·) ?_
 refine dv (At.shift (t := 3) (u := 107) (d := 22) (op := .shr) (x := .tmp 21) (y := .const (.int .u64 45)) (kd := .i64) (kd' := .u64) (a := IntKind.i64.wrap ((IntKind.i64.wrap (c.seed * 6364136223846793005)) + 1442695040888963407)) (b := 45) (shV .shr .i64 (IntKind.i64.wrap ((IntKind.i64.wrap (c.seed * 6364136223846793005)) + 1442695040888963407)) 45) (by kernel_rfl) (by kernel_rfl) (by kernel_rfl) (by kernel_rfl) (by omega) (shS_shr _ _ _) ·) ?_
 refine dv (At.bits (t := 3) (u := 3) (d := 23) (op := .xor) (x := .tmp 17) (y := .tmp 22) (kd := .i64) (a := shV .shr .i64 (IntKind.i64.wrap ((IntKind.i64.wrap (c.seed * 6364136223846793005)) + 1442695040888963407)) 33) (b := shV .shr .i64 (IntKind.i64.wrap ((IntKind.i64.wrap (c.seed * 6364136223846793005)) + 1442695040888963407)) 45) (bitV .xor .i64 (shV .shr .i64 (IntKind.i64.wrap ((IntKind.i64.wrap (c.seed * 6364136223846793005)) + 1442695040888963407)) 33) (shV .shr .i64 (IntKind.i64.wrap ((IntKind.i64.wrap (c.seed * 6364136223846793005)) + 1442695040888963407)) 45)) (by kernel_rfl) (by kernel_rfl) (by kernel_rfl) (by kernel_rfl) (bitS_xor _ _ _) ·) ?_
 refine dv (At.bits (t := 3) (u := 3) (d := 24) (op := .and) (x := .tmp 23) (y := .const (.int .i64 255)) (kd := .i64) (a := bitV .xor .i64 (shV .shr .i64 (IntKind.i64.wrap ((IntKind.i64.wrap (c.seed * 6364136223846793005)) + 1442695040888963407)) 33) (shV .shr .i64 (IntKind.i64.wrap ((IntKind.i64.wrap (c.seed * 6364136223846793005)) + 1442695040888963407)) 45)) (b := 255) ((bitV .xor .i64 (shV .shr .i64 (IntKind.i64.wrap ((IntKind.i64.wrap (c.seed * 6364136223846793005)) + 1442695040888963407)) 33) (shV .shr .i64 (IntKind.i64.wrap ((IntKind.i64.wrap (c.seed * 6364136223846793005)) + 1442695040888963407)) 45)) % 256) (by kernel_rfl) (by kernel_rfl) (by kernel_rfl) (by kernel_rfl) (andM 8 256 _ _ (by decide) (by decide) (by decide)) ·) ?_
 refine dv (At.zD 1 ·) ?_
 refine dv (AW.seq ·) ?_
 refine dv (AW.seq ·) ?_
 refine dv (AW.gD Tryz_mix ·) ?_
 refine dv (At.a 9 ·) ?_
 refine dv (At.sL 33 encU8 c.data ·) ?_
 refine dv (At.zD 1 ·) ?_
 by_cases h1 : c.pos < (c.data.length : Int)
 · refine dv (AW.condT (decide (c.pos < (c.data.length : Int))) (by kernel_rfl) (decide_eq_true h1) ·) ?_
   refine dv (AW.seq ·) ?_
   refine dv (AW.gD Tryz_mix ·) ?_
   refine dv (At.a 9 ·) ?_
   refine dv (At.iSl 22 44 (.tmp 39) (.tmp 43) false 1 (c.data.map encU8) .i64 c.pos 5 (by omega) (by simp only [List.length_map]; omega) ·) ?_
   refine Exists.elim (gE c.data ((c.pos).toNat) (by omega)) fun e1 he1 => ?_
   have hbe1 := UInt8.toNat_lt e1
   refine dv (At.lVp 5 45 (.tmp 44) false 1 (c.data.map encU8) ((c.pos).toNat) 0 false 1 (encU8 e1) (.int .u8 (e1.toNat : Int)) (mapGet he1) ·) ?_
   refine dv (At.conv (s := 5) (t := 3) (d := 46) (x := .tmp 45) (kd := .u8) (kd' := .i64) (a := (e1.toNat : Int)) (.int .i64 (e1.toNat : Int)) (by kernel_rfl) (by kernel_rfl) (by kernel_rfl) (by kernel_rfl) (sayI _ (by have := UInt8.toNat_lt e1; omega)) ·) ?_
   refine dv (At.a 1 ·) ?_
   refine dv (At.sI 47 (((bitV .xor .i64 (shV .shr .i64 (IntKind.i64.wrap ((IntKind.i64.wrap (c.seed * 6364136223846793005)) + 1442695040888963407)) 33) (shV .shr .i64 (IntKind.i64.wrap ((IntKind.i64.wrap (c.seed * 6364136223846793005)) + 1442695040888963407)) 45)) % 256) + (e1.toNat : Int)) (by omega) ·) ?_
   refine dv (At.bits (t := 3) (u := 3) (d := 48) (op := .and) (x := .tmp 47) (y := .const (.int .i64 255)) (kd := .i64) (a := ((bitV .xor .i64 (shV .shr .i64 (IntKind.i64.wrap ((IntKind.i64.wrap (c.seed * 6364136223846793005)) + 1442695040888963407)) 33) (shV .shr .i64 (IntKind.i64.wrap ((IntKind.i64.wrap (c.seed * 6364136223846793005)) + 1442695040888963407)) 45)) % 256) + (e1.toNat : Int)) (b := 255) ((((bitV .xor .i64 (shV .shr .i64 (IntKind.i64.wrap ((IntKind.i64.wrap (c.seed * 6364136223846793005)) + 1442695040888963407)) 33) (shV .shr .i64 (IntKind.i64.wrap ((IntKind.i64.wrap (c.seed * 6364136223846793005)) + 1442695040888963407)) 45)) % 256) + (e1.toNat : Int)) % 256) (by kernel_rfl) (by kernel_rfl) (by kernel_rfl) (by kernel_rfl) (andM 8 256 _ _ (by decide) (by decide) (by decide)) ·) ?_
   refine dv (At.zD 1 ·) ?_
   refine dv (AW.g ·) ?_
   refine dv (At.a 6 ·) ?_
   refine dv (At.sI 54 (c.pos + 1) (by omega) ·) ?_
   refine dv (At.z 3 ·) ?_
   refine dv (AW.q 2 ·) ?_
   refine dv (AW.ret ·) ?_
   refine dv (⟨_, Sub.refl _ _, ·⟩) ?_
   exact ⟨(c.pos + 1, IntKind.i64.wrap ((IntKind.i64.wrap (c.seed * 6364136223846793005)) + 1442695040888963407), (((bitV .xor .i64 (shV .shr .i64 (IntKind.i64.wrap ((IntKind.i64.wrap (c.seed * 6364136223846793005)) + 1442695040888963407)) 33) (shV .shr .i64 (IntKind.i64.wrap ((IntKind.i64.wrap (c.seed * 6364136223846793005)) + 1442695040888963407)) 45)) % 256) + (e1.toNat : Int)) % 256), (by dsimp only; omega), KF.mk (.inr rfl) [(0, 0)] [.int .i64 ((((bitV .xor .i64 (shV .shr .i64 (IntKind.i64.wrap ((IntKind.i64.wrap (c.seed * 6364136223846793005)) + 1442695040888963407)) 33) (shV .shr .i64 (IntKind.i64.wrap ((IntKind.i64.wrap (c.seed * 6364136223846793005)) + 1442695040888963407)) 45)) % 256) + (e1.toNat : Int)) % 256)] (by kernel_rfl) (by kernel_rfl) (by kernel_rfl) (by kernel_rfl) (by kernel_rfl)⟩
 refine dv (AW.condF (decide (c.pos < (c.data.length : Int))) (by kernel_rfl) (decide_eq_false h1) ·) ?_
 refine dv (AW.skip ·) ?_
 refine dv (AW.q 2 ·) ?_
 refine dv (AW.ret ·) ?_
 refine dv (⟨_, Sub.refl _ _, ·⟩) ?_
 exact ⟨(c.pos, IntKind.i64.wrap ((IntKind.i64.wrap (c.seed * 6364136223846793005)) + 1442695040888963407), (bitV .xor .i64 (shV .shr .i64 (IntKind.i64.wrap ((IntKind.i64.wrap (c.seed * 6364136223846793005)) + 1442695040888963407)) 33) (shV .shr .i64 (IntKind.i64.wrap ((IntKind.i64.wrap (c.seed * 6364136223846793005)) + 1442695040888963407)) 45)) % 256), (by dsimp only; omega), KF.mk (.inr rfl) [(0, 0)] [.int .i64 ((bitV .xor .i64 (shV .shr .i64 (IntKind.i64.wrap ((IntKind.i64.wrap (c.seed * 6364136223846793005)) + 1442695040888963407)) 33) (shV .shr .i64 (IntKind.i64.wrap ((IntKind.i64.wrap (c.seed * 6364136223846793005)) + 1442695040888963407)) 45)) % 256)] (by kernel_rfl) (by kernel_rfl) (by kernel_rfl) (by kernel_rfl) (by kernel_rfl)⟩
theorem spec_l1Below_spec  (c : Cur) (n : Int) (hp : 0 ≤ c.pos ∧ c.pos ≤ c.data.length ∧ c.data.length ≤ 1048576) : ∃ rho_ : Int × Int × Int, (0 ≤ rho_.1 ∧ rho_.1 ≤ c.data.length ∧ 0 ≤ rho_.2.2 ∧ (0 < n → rho_.2.2 < n) ∧ (n ≤ 0 → rho_.2.2 = 0)) ∧ FnSpec Tryz.prog 36 [.ptr 0 0 0, .int .i64 n] [.box 67 [.sl false 1 (c.data.map encU8), .int .i64 c.pos, .int .i64 c.seed]] (.int .i64 rho_.2.2) [.box 67 [.sl false 1 (c.data.map encU8), .int .i64 rho_.1, .int .i64 rho_.2.1]] := by
 refine dv (fun h_ => FnSpec.of 37 Tryz.func36 rfl Tryz.ntmps36 (by simp) (AW.weakK h_)) ?_
 refine dv (AW.q 1 ·) ?_
 refine dv (AW.seq ·) ?_
 refine dv (AW.q 2 ·) ?_
 by_cases h1 : n ≤ 0
 · refine dv (AW.condT (decide (n ≤ 0)) (by kernel_rfl) (decide_eq_true h1) ·) ?_
   refine dv (AW.q 1 ·) ?_
   refine dv (AW.ret ·) ?_
   refine dv (⟨_, Sub.refl _ _, ·⟩) ?_
   exact ⟨(c.pos, c.seed, 0), (by refine ⟨by dsimp only; omega, by dsimp only; omega, ?_⟩; dsimp only; first | omega | exact ⟨Int.emod_nonneg _ (by omega), fun _ => Int.emod_lt_of_pos _ (by omega), fun _ => by omega⟩), KF.mk (.inr rfl) [(0, 0)] [.int .i64 0] (by kernel_rfl) (by kernel_rfl) (by kernel_rfl) (by kernel_rfl) (by kernel_rfl)⟩
 refine dv (AW.condF (decide (n ≤ 0)) (by kernel_rfl) (decide_eq_false h1) ·) ?_
 refine dv (AW.skip ·) ?_
 refine dv (AW.seq ·) ?_
 refine dv (AW.q 2 ·) ?_
 by_cases h2 : n ≤ 256
 · refine dv (AW.condT (decide (n ≤ 256)) (by kernel_rfl) (decide_eq_true h2) ·) ?_
   refine dv (AW.r ·) ?_
   refine dv (At.a 1 ·) ?_
   refine Exists.elim (spec_l1Byte_spec  c (by omega)) fun r1_ hr1_ => ?_
   obtain ⟨qr1_, hr1_⟩ := hr1_
   try dsimp only at qr1_
   refine dv (At.c (hr1_) Tryz.call67 true [(0, 0)] [] [] trivial ·) ?_
   refine dv (At.a 1 ·) ?_
   refine dv (At.div (t := 3) (u := 3) (d := 16) (op := .rem) (x := .tmp 14) (y := .tmp 15) (kd := .i64) (a := r1_.2.2) (b := n) (by kernel_rfl) (by kernel_rfl) (by kernel_rfl) (by kernel_rfl) (by omega) (.int .i64 (r1_.2.2.tmod n)) (.inr ⟨rfl, rfl⟩) ·) ?_
   refine dv (At.say 16 (.int .i64 (r1_.2.2.tmod n)) (.int .i64 (r1_.2.2 % n)) (by kernel_rfl) (sayRem (by omega)) ·) ?_
   refine dv (At.z 1 ·) ?_
   refine dv (AW.ret ·) ?_
   refine dv (⟨_, Sub.refl _ _, ·⟩) ?_
   exact ⟨(r1_.1, r1_.2.1, r1_.2.2 % n), (by refine ⟨by dsimp only; omega, by dsimp only; omega, ?_⟩; dsimp only; first | omega | exact ⟨Int.emod_nonneg _ (by omega), fun _ => Int.emod_lt_of_pos _ (by omega), fun _ => by omega⟩), KF.mk (.inr rfl) [(0, 0)] [.int .i64 (r1_.2.2 % n)] (by kernel_rfl) (by kernel_rfl) (by kernel_rfl) (by kernel_rfl) (by kernel_rfl)⟩
 refine dv (AW.condF (decide (n ≤ 256)) (by kernel_rfl) (decide_eq_false h2) ·) ?_
 refine dv (AW.skip ·) ?_
 refine dv (AW.r ·) ?_
 refine dv (At.a 1 ·) ?_
 refine Exists.elim (spec_l1Byte_spec  c (by omega)) fun r1_ hr1_ => ?_
 obtain ⟨qr1_, hr1_⟩ := hr1_
 try dsimp only at qr1_
 refine dv (At.c (hr1_) Tryz.call67 true [(0, 0)] [] [] trivial ·) ?_
 refine dv (At.z 1 ·) ?_
 refine dv (AW.r ·) ?_
 refine dv (At.a 1 ·) ?_
 refine Exists.elim (spec_l1Byte_spec  (⟨c.data, r1_.1, r1_.2.1⟩ : Cur) (by dsimp only; omega)) fun r2_ hr2_ => ?_
 obtain ⟨qr2_, hr2_⟩ := hr2_
 try dsimp only at qr2_
 refine dv (At.c (hr2_) Tryz.call67 true [(0, 0)] [] [] trivial ·) ?_
 refine dv (At.z 1 ·) ?_
 refine dv (AW.r ·) ?_
 refine dv (At.a 1 ·) ?_
 refine Exists.elim (spec_l1Byte_spec  (⟨c.data, r2_.1, r2_.2.1⟩ : Cur) (by dsimp only; omega)) fun r3_ hr3_ => ?_
 obtain ⟨qr3_, hr3_⟩ := hr3_
 try dsimp only at qr3_
 refine dv (At.c (hr3_) Tryz.call67 true [(0, 0)] [] [] trivial ·) ?_
 refine dv (At.z 1 ·) ?_
 refine dv (AW.r ·) ?_
 refine dv (At.a 1 ·) ?_
 refine Exists.elim (spec_l1Byte_spec  (⟨c.data, r3_.1, r3_.2.1⟩ : Cur) (by dsimp only; omega)) fun r4_ hr4_ => ?_
 obtain ⟨qr4_, hr4_⟩ := hr4_
 try dsimp only at qr4_
 refine dv (At.c (hr4_) Tryz.call67 true [(0, 0)] [] [] trivial ·) ?_
 refine dv (At.z 1 ·) ?_
 refine dv (AW.r ·) ?_
 refine dv (At.a 2 ·) ?_
 refine dv (At.sI 26 (r1_.2.2 * 16777216) (by omega) ·) ?_
 refine dv (At.a 2 ·) ?_
 refine dv (At.sI 28 (r2_.2.2 * 65536) (by omega) ·) ?_
 refine dv (At.a 1 ·) ?_
 refine dv (At.sI 29 ((r1_.2.2 * 16777216) + (r2_.2.2 * 65536)) (by omega) ·) ?_
 refine dv (At.a 2 ·) ?_
 refine dv (At.sI 31 (r3_.2.2 * 256) (by omega) ·) ?_
 refine dv (At.a 1 ·) ?_
 refine dv (At.sI 32 (((r1_.2.2 * 16777216) + (r2_.2.2 * 65536)) + (r3_.2.2 * 256)) (by omega) ·) ?_
 refine dv (At.a 2 ·) ?_
 refine dv (At.sI 34 ((((r1_.2.2 * 16777216) + (r2_.2.2 * 65536)) + (r3_.2.2 * 256)) + r4_.2.2) (by omega) ·) ?_
 refine dv (At.a 1 ·) ?_
 refine dv (At.div (t := 3) (u := 3) (d := 36) (op := .rem) (x := .tmp 34) (y := .tmp 35) (kd := .i64) (a := (((r1_.2.2 * 16777216) + (r2_.2.2 * 65536)) + (r3_.2.2 * 256)) + r4_.2.2) (b := n) (by kernel_rfl) (by kernel_rfl) (by kernel_rfl) (by kernel_rfl) (by omega) (.int .i64 (((((r1_.2.2 * 16777216) + (r2_.2.2 * 65536)) + (r3_.2.2 * 256)) + r4_.2.2).tmod n)) (.inr ⟨rfl, rfl⟩) ·) ?_
 refine dv (At.say 36 (.int .i64 (((((r1_.2.2 * 16777216) + (r2_.2.2 * 65536)) + (r3_.2.2 * 256)) + r4_.2.2).tmod n)) (.int .i64 (((((r1_.2.2 * 16777216) + (r2_.2.2 * 65536)) + (r3_.2.2 * 256)) + r4_.2.2) % n)) (by kernel_rfl) (sayRem (by omega)) ·) ?_
 refine dv (At.z 1 ·) ?_
 refine dv (AW.ret ·) ?_
 refine dv (⟨_, Sub.refl _ _, ·⟩) ?_
 exact ⟨(r4_.1, r4_.2.1, ((((r1_.2.2 * 16777216) + (r2_.2.2 * 65536)) + (r3_.2.2 * 256)) + r4_.2.2) % n), (by refine ⟨by dsimp only; omega, by dsimp only; omega, ?_⟩; dsimp only; first | omega | exact ⟨Int.emod_nonneg _ (by omega), fun _ => Int.emod_lt_of_pos _ (by omega), fun _ => by omega⟩), KF.mk (.inr rfl) [(0, 0)] [.int .i64 (((((r1_.2.2 * 16777216) + (r2_.2.2 * 65536)) + (r3_.2.2 * 256)) + r4_.2.2) % n)] (by kernel_rfl) (by kernel_rfl) (by kernel_rfl) (by kernel_rfl) (by kernel_rfl)⟩
theorem spec_l1PickInt_spec  (c : Cur) (list : List Int) (hp : 0 ≤ c.pos ∧ c.pos ≤ c.data.length ∧ c.data.length ≤ 1048576) (hl : 0 < list.length ∧ list.length ≤ 1000) : ∃ rho_ : Int × Int × Int, (0 ≤ rho_.1 ∧ rho_.1 ≤ c.data.length ∧ rho_.2.2 ∈ list) ∧ FnSpec Tryz.prog 81 [.ptr 0 0 0, .ref 1] [.box 67 [.sl false 1 (c.data.map encU8), .int .i64 c.pos, .int .i64 c.seed], .arr 3 1 (list.map encI)] (.int .i64 rho_.2.2) [.box 67 [.sl false 1 (c.data.map encU8), .int .i64 rho_.1, .int .i64 rho_.2.1], .arr 3 1 (list.map encI)] := by
 refine dv (fun h_ => FnSpec.of 12 Tryz.func81 rfl Tryz.ntmps81 (by simp) (AW.weakK h_)) ?_
 refine dv (AW.q 1 ·) ?_
 refine dv (AW.r ·) ?_
 refine dv (At.a 4 ·) ?_
 refine dv (At.sL 8 encI list ·) ?_
 refine Exists.elim (spec_l1Below_spec  c (list.length : Int) (by omega)) fun r1_ hr1_ => ?_
 obtain ⟨qr1_, hr1_⟩ := hr1_
 try dsimp only at qr1_
 try simp only [Int.reduceLT, Int.reduceLE, true_implies, false_implies, and_true] at qr1_
 refine dv (At.c (hr1_) Tryz.call36 true [(0, 0)] [] [] trivial ·) ?_
 refine dv (At.iRf 103 10 (.tmp 5) (.tmp 9) 1 (list.map encI) .i64 r1_.2.2 3 1 (by omega) (by simp only [List.length_map]; omega) ·) ?_
 refine Exists.elim (gE list ((r1_.2.2).toNat) (by omega)) fun e1 he1 => ?_
 refine dv (At.lEl 3 11 (.tmp 10) 1 3 1 (list.map encI) ((r1_.2.2).toNat) 0 false 1 (encI e1) (.int .i64 e1) (mapGet he1) ·) ?_
 refine dv (At.z 1 ·) ?_
 refine dv (AW.ret ·) ?_
 refine dv (⟨_, Sub.refl _ _, ·⟩) ?_
 exact ⟨(r1_.1, r1_.2.1, e1), ⟨by dsimp only; omega, by dsimp only; omega, List.mem_of_getElem? he1⟩, KF.mk (.inr rfl) [(0, 0), (1, 1)] [.int .i64 e1] (by kernel_rfl) (by kernel_rfl) (by kernel_rfl) (by kernel_rfl) (by kernel_rfl)⟩
theorem spec_l1Once_spec  (c : Cur) (n : Int) (hp : 0 ≤ c.pos ∧ c.pos ≤ c.data.length ∧ c.data.length ≤ 1048576) : ∃ rho_ : Int × Int × Bool, (0 ≤ rho_.1 ∧ rho_.1 ≤ c.data.length) ∧ FnSpec Tryz.prog 61 [.ptr 0 0 0, .int .i64 n] [.box 67 [.sl false 1 (c.data.map encU8), .int .i64 c.pos, .int .i64 c.seed]] (.bool rho_.2.2) [.box 67 [.sl false 1 (c.data.map encU8), .int .i64 rho_.1, .int .i64 rho_.2.1]] := by
 refine dv (fun h_ => FnSpec.of 9 Tryz.func61 rfl Tryz.ntmps61 (by simp) (AW.weakK h_)) ?_
 refine dv (AW.q 1 ·) ?_
 refine dv (AW.r ·) ?_
 refine dv (At.a 2 ·) ?_
 refine Exists.elim (spec_l1Below_spec  c n (by omega)) fun r1_ hr1_ => ?_
 obtain ⟨qr1_, hr1_⟩ := hr1_
 try dsimp only at qr1_
 try simp only [Int.reduceLT, Int.reduceLE, true_implies, false_implies, and_true] at qr1_
 refine dv (At.c (hr1_) Tryz.call36 true [(0, 0)] [] [] trivial ·) ?_
 refine dv (At.z 2 ·) ?_
 refine dv (AW.ret ·) ?_
 refine dv (⟨_, Sub.refl _ _, ·⟩) ?_
 exact ⟨(r1_.1, r1_.2.1, r1_.2.2 == 0), (by dsimp only; omega), KF.mk (.inr rfl) [(0, 0)] [.bool (r1_.2.2 == 0)] (by kernel_rfl) (by kernel_rfl) (by kernel_rfl) (by kernel_rfl) (by kernel_rfl)⟩
theorem spec_l12DrawRule_spec  (c : Cur) (hp : 0 ≤ c.pos ∧ c.pos ≤ c.data.length ∧ c.data.length ≤ 1048576) : ∃ rho_ : Int × Int × Rul, (0 ≤ rho_.1 ∧ rho_.1 ≤ c.data.length) ∧ FnSpec Tryz.prog 66 [.ptr 0 0 0] [.box 67 [.sl false 1 (c.data.map encU8), .int .i64 c.pos, .int .i64 c.seed]] (.agg [.int .i64 rho_.2.2.name, .int .i64 rho_.2.2.from_, .int .i64 rho_.2.2.to, .int .i64 rho_.2.2.month, .int .i64 rho_.2.2.on.kind, .int .i64 rho_.2.2.on.day, .int .i64 rho_.2.2.on.week, .int .i64 rho_.2.2.at_, .int .i64 rho_.2.2.save]) [.box 67 [.sl false 1 (c.data.map encU8), .int .i64 rho_.1, .int .i64 rho_.2.1]] := by
 refine dv (fun h_ => FnSpec.of 47 Tryz.func66 rfl Tryz.ntmps66 (by simp) (AW.weakK h_)) ?_
 refine dv (AW.q 1 ·) ?_
 refine dv (AW.r ·) ?_
 refine dv (At.a 1 ·) ?_
 refine Exists.elim (spec_l1Below_spec  c 3 (by omega)) fun r1_ hr1_ => ?_
 obtain ⟨qr1_, hr1_⟩ := hr1_
 try dsimp only at qr1_
 try simp only [Int.reduceLT, Int.reduceLE, true_implies, false_implies, and_true] at qr1_
 refine dv (At.c (hr1_) Tryz.call36 true [(0, 0)] [] [] trivial ·) ?_
 refine dv (At.a 1 ·) ?_
 refine dv (At.sI 6 (97 + r1_.2.2) (by omega) ·) ?_
 refine dv (At.a 1 ·) ?_
 refine Exists.elim (spec_l1Below_spec  (⟨c.data, r1_.1, r1_.2.1⟩ : Cur) 70 (by dsimp only; omega)) fun r2_ hr2_ => ?_
 obtain ⟨qr2_, hr2_⟩ := hr2_
 try dsimp only at qr2_
 try simp only [Int.reduceLT, Int.reduceLE, true_implies, false_implies, and_true] at qr2_
 refine dv (At.c (hr2_) Tryz.call36 true [(0, 0)] [] [] trivial ·) ?_
 refine dv (At.a 1 ·) ?_
 refine dv (At.sI 9 (1960 + r2_.2.2) (by omega) ·) ?_
 refine dv (At.a 1 ·) ?_
 refine Exists.elim (spec_l1Below_spec  (⟨c.data, r2_.1, r2_.2.1⟩ : Cur) 12 (by dsimp only; omega)) fun r3_ hr3_ => ?_
 obtain ⟨qr3_, hr3_⟩ := hr3_
 try dsimp only at qr3_
 try simp only [Int.reduceLT, Int.reduceLE, true_implies, false_implies, and_true] at qr3_
 refine dv (At.c (hr3_) Tryz.call36 true [(0, 0)] [] [] trivial ·) ?_
 refine dv (At.a 1 ·) ?_
 refine dv (At.sI 12 (1 + r3_.2.2) (by omega) ·) ?_
 refine dv (At.a 1 ·) ?_
 refine Exists.elim (spec_l1Below_spec  (⟨c.data, r3_.1, r3_.2.1⟩ : Cur) 24 (by dsimp only; omega)) fun r4_ hr4_ => ?_
 obtain ⟨qr4_, hr4_⟩ := hr4_
 try dsimp only at qr4_
 try simp only [Int.reduceLT, Int.reduceLE, true_implies, false_implies, and_true] at qr4_
 refine dv (At.c (hr4_) Tryz.call36 true [(0, 0)] [] [] trivial ·) ?_
 refine dv (At.a 1 ·) ?_
 refine dv (At.sI 15 (60 * r4_.2.2) (by omega) ·) ?_
 refine dv (At.a 1 ·) ?_
 refine dv (At.ll 17 3 1 117 (0, 6) (([0, 60, 30, 0]).map encI) ·) ?_
 refine Exists.elim (spec_l1PickInt_spec  (⟨c.data, r4_.1, r4_.2.1⟩ : Cur) ([0, 60, 30, 0]) (by dsimp only; omega) (by decide)) fun r5_ hr5_ => ?_
 obtain ⟨qr5_, hr5_⟩ := hr5_
 try dsimp only at qr5_
 refine dv (At.c (hr5_) Tryz.call81 true [(0, 0), (117, 1)] [] [] trivial ·) ?_
 have hS := qr5_.2.2
 simp only [List.mem_cons, List.not_mem_nil, or_false] at hS
 refine dv (At.z 3 ·) ?_
 refine dv (AW.seq ·) ?_
 refine dv (AW.gD Tryz_mix ·) ?_
 refine dv (At.a 3 ·) ?_
 refine Exists.elim (spec_l1Below_spec  (⟨c.data, r5_.1, r5_.2.1⟩ : Cur) 20 (by dsimp only; omega)) fun r6_ hr6_ => ?_
 obtain ⟨qr6_, hr6_⟩ := hr6_
 try dsimp only at qr6_
 try simp only [Int.reduceLT, Int.reduceLE, true_implies, false_implies, and_true] at qr6_
 refine dv (At.c (hr6_) Tryz.call36 true [(0, 0)] [] [] trivial ·) ?_
 refine dv (At.a 1 ·) ?_
 refine dv (At.sI 24 ((1960 + r2_.2.2) + r6_.2.2) (by omega) ·) ?_
 refine dv (At.zD 2 ·) ?_
 refine dv (AW.r ·) ?_
 refine dv (At.a 1 ·) ?_
 refine Exists.elim (spec_l1Below_spec  (⟨c.data, r6_.1, r6_.2.1⟩ : Cur) 7 (by dsimp only; omega)) fun r7_ hr7_ => ?_
 obtain ⟨qr7_, hr7_⟩ := hr7_
 try dsimp only at qr7_
 try simp only [Int.reduceLT, Int.reduceLE, true_implies, false_implies, and_true] at qr7_
 refine dv (At.c (hr7_) Tryz.call36 true [(0, 0)] [] [] trivial ·) ?_
 refine dv (At.z 3 ·) ?_
 refine dv (AW.seq ·) ?_
 refine dv (AW.r ·) ?_
 refine dv (At.a 1 ·) ?_
 refine Exists.elim (spec_l1Once_spec  (⟨c.data, r7_.1, r7_.2.1⟩ : Cur) 2 (by dsimp only; omega)) fun r8_ hr8_ => ?_
 obtain ⟨qr8_, hr8_⟩ := hr8_
 try dsimp only at qr8_
 refine dv (At.c (hr8_) Tryz.call61 true [(0, 0)] [] [] trivial ·) ?_
 refine dv (At.done rfl ·) ?_
 by_cases h1 : r8_.2.2 = true
 · refine dv (AW.condT (r8_.2.2) (by kernel_rfl) h1 ·) ?_
   refine dv (AW.g ·) ?_
   refine dv (At.a 1 ·) ?_
   refine Exists.elim (spec_l1Below_spec  (⟨c.data, r8_.1, r8_.2.1⟩ : Cur) 7 (by dsimp only; omega)) fun r9_ hr9_ => ?_
   obtain ⟨qr9_, hr9_⟩ := hr9_
   try dsimp only at qr9_
   try simp only [Int.reduceLT, Int.reduceLE, true_implies, false_implies, and_true] at qr9_
   refine dv (At.c (hr9_) Tryz.call36 true [(0, 0)] [] [] trivial ·) ?_
   refine dv (At.a 1 ·) ?_
   refine Exists.elim (spec_l1Below_spec  (⟨c.data, r9_.1, r9_.2.1⟩ : Cur) 20 (by dsimp only; omega)) fun r10_ hr10_ => ?_
   obtain ⟨qr10_, hr10_⟩ := hr10_
   try dsimp only at qr10_
   try simp only [Int.reduceLT, Int.reduceLE, true_implies, false_implies, and_true] at qr10_
   refine dv (At.c (hr10_) Tryz.call36 true [(0, 0)] [] [] trivial ·) ?_
   refine dv (At.a 1 ·) ?_
   refine dv (At.sI 36 (1 + r10_.2.2) (by omega) ·) ?_
   refine dv (At.z 3 ·) ?_
   refine dv (AW.seq ·) ?_
   refine dv (AW.r ·) ?_
   refine dv (At.a 1 ·) ?_
   refine Exists.elim (spec_l1Once_spec  (⟨c.data, r10_.1, r10_.2.1⟩ : Cur) 4 (by dsimp only; omega)) fun r11_ hr11_ => ?_
   obtain ⟨qr11_, hr11_⟩ := hr11_
   try dsimp only at qr11_
   refine dv (At.c (hr11_) Tryz.call61 true [(0, 0)] [] [] trivial ·) ?_
   refine dv (At.done rfl ·) ?_
   by_cases h2 : r11_.2.2 = true
   · refine dv (AW.condT (r11_.2.2) (by kernel_rfl) h2 ·) ?_
     refine dv (AW.g ·) ?_
     refine dv (At.a 1 ·) ?_
     refine Exists.elim (spec_l1Below_spec  (⟨c.data, r11_.1, r11_.2.1⟩ : Cur) 31 (by dsimp only; omega)) fun r12_ hr12_ => ?_
     obtain ⟨qr12_, hr12_⟩ := hr12_
     try dsimp only at qr12_
     try simp only [Int.reduceLT, Int.reduceLE, true_implies, false_implies, and_true] at qr12_
     refine dv (At.c (hr12_) Tryz.call36 true [(0, 0)] [] [] trivial ·) ?_
     refine dv (At.a 1 ·) ?_
     refine dv (At.sI 43 (1 + r12_.2.2) (by omega) ·) ?_
     refine dv (At.z 3 ·) ?_
     refine dv (AW.q 2 ·) ?_
     refine dv (AW.ret ·) ?_
     refine dv (⟨_, Sub.refl _ _, ·⟩) ?_
     exact ⟨(r12_.1, r12_.2.1, (⟨97 + r1_.2.2, 1960 + r2_.2.2, (1960 + r2_.2.2) + r6_.2.2, 1 + r3_.2.2, ⟨1, 1 + r12_.2.2, 0⟩, 60 * r4_.2.2, r5_.2.2⟩ : Rul)), (by dsimp only; omega), KF.mk (.inr rfl) [(0, 0)] [.agg [.int .i64 (97 + r1_.2.2), .int .i64 (1960 + r2_.2.2), .int .i64 ((1960 + r2_.2.2) + r6_.2.2), .int .i64 (1 + r3_.2.2), .int .i64 1, .int .i64 (1 + r12_.2.2), .int .i64 0, .int .i64 (60 * r4_.2.2), .int .i64 r5_.2.2]] (by kernel_rfl) (by kernel_rfl) (by kernel_rfl) (by kernel_rfl) (by kernel_rfl)⟩
   replace h2 := Bool.eq_false_iff.2 h2
   refine dv (AW.condF (r11_.2.2) (by kernel_rfl) h2 ·) ?_
   refine dv (AW.skip ·) ?_
   refine dv (AW.q 2 ·) ?_
   refine dv (AW.ret ·) ?_
   refine dv (⟨_, Sub.refl _ _, ·⟩) ?_
   exact ⟨(r11_.1, r11_.2.1, (⟨97 + r1_.2.2, 1960 + r2_.2.2, (1960 + r2_.2.2) + r6_.2.2, 1 + r3_.2.2, ⟨3, 1 + r10_.2.2, r9_.2.2⟩, 60 * r4_.2.2, r5_.2.2⟩ : Rul)), (by dsimp only; omega), KF.mk (.inr rfl) [(0, 0)] [.agg [.int .i64 (97 + r1_.2.2), .int .i64 (1960 + r2_.2.2), .int .i64 ((1960 + r2_.2.2) + r6_.2.2), .int .i64 (1 + r3_.2.2), .int .i64 3, .int .i64 (1 + r10_.2.2), .int .i64 r9_.2.2, .int .i64 (60 * r4_.2.2), .int .i64 r5_.2.2]] (by kernel_rfl) (by kernel_rfl) (by kernel_rfl) (by kernel_rfl) (by kernel_rfl)⟩
 replace h1 := Bool.eq_false_iff.2 h1
 refine dv (AW.condF (r8_.2.2) (by kernel_rfl) h1 ·) ?_
 refine dv (AW.skip ·) ?_
 refine dv (AW.seq ·) ?_
 refine dv (AW.r ·) ?_
 refine dv (At.a 1 ·) ?_
 refine Exists.elim (spec_l1Once_spec  (⟨c.data, r8_.1, r8_.2.1⟩ : Cur) 4 (by dsimp only; omega)) fun r9_ hr9_ => ?_
 obtain ⟨qr9_, hr9_⟩ := hr9_
 try dsimp only at qr9_
 refine dv (At.c (hr9_) Tryz.call61 true [(0, 0)] [] [] trivial ·) ?_
 refine dv (At.done rfl ·) ?_
 by_cases h3 : r9_.2.2 = true
 · refine dv (AW.condT (r9_.2.2) (by kernel_rfl) h3 ·) ?_
   refine dv (AW.g ·) ?_
   refine dv (At.a 1 ·) ?_
   refine Exists.elim (spec_l1Below_spec  (⟨c.data, r9_.1, r9_.2.1⟩ : Cur) 31 (by dsimp only; omega)) fun r10_ hr10_ => ?_
   obtain ⟨qr10_, hr10_⟩ := hr10_
   try dsimp only at qr10_
   try simp only [Int.reduceLT, Int.reduceLE, true_implies, false_implies, and_true] at qr10_
   refine dv (At.c (hr10_) Tryz.call36 true [(0, 0)] [] [] trivial ·) ?_
   refine dv (At.a 1 ·) ?_
   refine dv (At.sI 43 (1 + r10_.2.2) (by omega) ·) ?_
   refine dv (At.z 3 ·) ?_
   refine dv (AW.q 2 ·) ?_
   refine dv (AW.ret ·) ?_
   refine dv (⟨_, Sub.refl _ _, ·⟩) ?_
   exact ⟨(r10_.1, r10_.2.1, (⟨97 + r1_.2.2, 1960 + r2_.2.2, (1960 + r2_.2.2) + r6_.2.2, 1 + r3_.2.2, ⟨1, 1 + r10_.2.2, 0⟩, 60 * r4_.2.2, r5_.2.2⟩ : Rul)), (by dsimp only; omega), KF.mk (.inr rfl) [(0, 0)] [.agg [.int .i64 (97 + r1_.2.2), .int .i64 (1960 + r2_.2.2), .int .i64 ((1960 + r2_.2.2) + r6_.2.2), .int .i64 (1 + r3_.2.2), .int .i64 1, .int .i64 (1 + r10_.2.2), .int .i64 0, .int .i64 (60 * r4_.2.2), .int .i64 r5_.2.2]] (by kernel_rfl) (by kernel_rfl) (by kernel_rfl) (by kernel_rfl) (by kernel_rfl)⟩
 replace h3 := Bool.eq_false_iff.2 h3
 refine dv (AW.condF (r9_.2.2) (by kernel_rfl) h3 ·) ?_
 refine dv (AW.skip ·) ?_
 refine dv (AW.q 2 ·) ?_
 refine dv (AW.ret ·) ?_
 refine dv (⟨_, Sub.refl _ _, ·⟩) ?_
 exact ⟨(r9_.1, r9_.2.1, (⟨97 + r1_.2.2, 1960 + r2_.2.2, (1960 + r2_.2.2) + r6_.2.2, 1 + r3_.2.2, ⟨2, 0, r7_.2.2⟩, 60 * r4_.2.2, r5_.2.2⟩ : Rul)), (by dsimp only; omega), KF.mk (.inr rfl) [(0, 0)] [.agg [.int .i64 (97 + r1_.2.2), .int .i64 (1960 + r2_.2.2), .int .i64 ((1960 + r2_.2.2) + r6_.2.2), .int .i64 (1 + r3_.2.2), .int .i64 2, .int .i64 0, .int .i64 r7_.2.2, .int .i64 (60 * r4_.2.2), .int .i64 r5_.2.2]] (by kernel_rfl) (by kernel_rfl) (by kernel_rfl) (by kernel_rfl) (by kernel_rfl)⟩
theorem spec_l12DrawRight_spec  (c : Cur) (hp : 0 ≤ c.pos ∧ c.pos ≤ c.data.length ∧ c.data.length ≤ 1048576) : ∃ rho_ : Int × Int × Srce, (0 ≤ rho_.1 ∧ rho_.1 ≤ c.data.length ∧ rho_.2.2.rules.length ≤ 100 ∧ rho_.2.2.zones.length ≤ 100 ∧ rho_.2.2.links.length ≤ 100) ∧ FnSpec Tryz.prog 35 [.ptr 0 0 0] [.box 67 [.sl false 1 (c.data.map encU8), .int .i64 c.pos, .int .i64 c.seed]] (.agg [.ref 1, .ref 2, .ref 3]) [.box 67 [.sl false 1 (c.data.map encU8), .int .i64 rho_.1, .int .i64 rho_.2.1], .arr 43 9 (rho_.2.2.rules.map encRul), .arr 49 3 (rho_.2.2.zones.map encZon), .arr 51 2 (rho_.2.2.links.map encLnk)] := by
 refine dv (fun h_ => FnSpec.of 112 Tryz.func35 rfl Tryz.ntmps35 (by simp) (AW.weakK h_)) ?_
 refine dv (AW.q 1 ·) ?_
 refine dv (AW.seq ·) ?_
 refine dv (AW.weak (Sub.nils [⟨true, 102, some 0, 5001, 43, 9⟩, ⟨true, 102, some 1, 5002, 49, 3⟩, ⟨true, 102, some 2, 5003, 51, 2⟩] (by kernel_rfl)) ·) ?_
 refine dv (AW.gq 3 ·) ?_
 refine dv (AW.seq ·) ?_
 refine dv (AW.seq ·) ?_
 refine dv (AW.weak (Sub.nils [⟨true, 103, some 0, 5004, 43, 9⟩, ⟨true, 103, some 1, 5005, 49, 3⟩, ⟨true, 103, some 2, 5006, 51, 2⟩] (by kernel_rfl)) ·) ?_
 refine dv (AW.gq 1 ·) ?_
 refine dv (AW.block ·) ?_
 refine DW.loopQ (fun (x : Nat × List Rul × Int × Int) => match x with | (i, rs, p, sd) => Go.Sy.mk [.ptr 0 0 0, .un, .ptr 102 0 0, .ptr 103 0 0, .int .i64 (i : Int)] [(0, .box 67 [.sl false 1 (c.data.map encU8), .int .i64 p, .int .i64 sd]), (102, .box 28 [.ref 5001, .ref 5002, .ref 5003]), (103, .box 28 [.ref 5004, .ref 5005, .ref 5006]), (5001, .arr 43 9 []), (5002, .arr 49 3 []), (5003, .arr 51 2 []), (5004, .arr 43 9 (rs.map encRul)), (5005, .arr 49 3 []), (5006, .arr 51 2 [])]) (fun (x : Nat × List Rul × Int × Int) => match x with | (i, rs, p, sd) => (i ≤ 5 ∧ rs.length ≤ i) ∧ (0 ≤ p ∧ p ≤ c.data.length)) (fun (x : Nat × List Rul × Int × Int) => match x with | (i, rs, p, sd) => 5 - i) (0, [], c.pos, c.seed) (by dsimp only; (try simp only [List.length_nil]); omega) (Sub.o [(0, 0), (102, 102), (103, 103), (5001, 5001), (5002, 5002), (5003, 5003), (5004, 5004), (5005, 5005), (5006, 5006)] [true, false, true, true, true]) ?_
 rintro ⟨i, rs, p, sd⟩ hqrs ih1
 refine dv (AW.seq ·) ?_
 refine dv (AW.r ·) ?_
 refine dv (At.a 2 ·) ?_
 refine Exists.elim (spec_l1Below_spec  (⟨c.data, p, sd⟩ : Cur) 5 (by dsimp only; omega)) fun r1_ hr1_ => ?_
 obtain ⟨qr1_, hr1_⟩ := hr1_
 try dsimp only at qr1_
 try simp only [Int.reduceLT, Int.reduceLE, true_implies, false_implies, and_true] at qr1_
 refine dv (At.c (hr1_) Tryz.call36 true [(0, 0)] [] [] trivial ·) ?_
 refine dv (At.z 1 ·) ?_
 by_cases h1 : (i : Int) < r1_.2.2
 · refine dv (AW.condT (decide ((i : Int) < r1_.2.2)) (by kernel_rfl) (decide_eq_true h1) ·) ?_
   refine dv (AW.skip ·) ?_
   refine dv (AW.seq ·) ?_
   refine dv (AW.block ·) ?_
   refine dv (AW.gD Tryz_mix ·) ?_
   refine dv (At.a 3 ·) ?_
   refine Exists.elim (spec_l12DrawRule_spec  (⟨c.data, r1_.1, r1_.2.1⟩ : Cur) (by dsimp only; omega)) fun r2_ hr2_ => ?_
   obtain ⟨qr2_, hr2_⟩ := hr2_
   try dsimp only at qr2_
   refine dv (At.c (hr2_) Tryz.call66 true [(0, 0)] [] [] trivial ·) ?_
   refine dv (At.ll 20 43 9 120 (0, 6) (([r2_.2.2]).map encRul) ·) ?_
   refine dv (At.apK 21 43 9 72 121 5004 120 encRul rs ([r2_.2.2]) (by simp only [List.length_map, List.length_append, List.length_take, List.length_drop, List.length_replicate, List.length_set, List.length_cons, List.length_nil]; omega) ·) ?_
   refine dv (At.zD 2 ·) ?_
   refine dv (AW.g ·) ?_
   refine dv (At.a 2 ·) ?_
   refine dv (At.sI 15 ((i : Int) + 1) (by omega) ·) ?_
   refine dv (At.z 1 ·) ?_
   exact dw (fun _ h_ => AWL.weak (Sub.o [(0, 0), (102, 102), (103, 103), (5001, 5001), (5002, 5002), (5003, 5003), (121, 5004), (5005, 5005), (5006, 5006)] [true, false, true, true, true]) h_) (ih1 (i + 1, (rs ++ ([r2_.2.2])), r2_.1, r2_.2.1) (by dsimp only; (try simp only [List.length_append, List.length_cons, List.length_nil, List.length_set]); omega) (by simp only; omega))
 refine dv (AW.condF (decide ((i : Int) < r1_.2.2)) (by kernel_rfl) (decide_eq_false h1) ·) ?_
 refine dv (AW.exit ·) ?_
 refine dv (AW.q 1 ·) ?_
 refine dv (AW.seq ·) ?_
 refine dv (AW.q 1 ·) ?_
 refine dv (AW.block ·) ?_
 refine DW.loopQ (fun (x : Nat × List Zon × Int × Int × Int) => match x with | (j, zs, p, sd, nm) => Go.Sy.mk [.ptr 0 0 0, .un, .ptr 102 0 0, .ptr 103 0 0, .un, .int .i32 nm, .int .i64 (j : Int)] [(0, .box 67 [.sl false 1 (c.data.map encU8), .int .i64 p, .int .i64 sd]), (102, .box 28 [.ref 5001, .ref 5002, .ref 5003]), (103, .box 28 [.ref 5004, .ref 5005, .ref 5006]), (5001, .arr 43 9 []), (5002, .arr 49 3 []), (5003, .arr 51 2 []), (5004, .arr 43 9 (rs.map encRul)), (5005, .arr 49 3 (zs.map encZon)), (5006, .arr 51 2 [])]) (fun (x : Nat × List Zon × Int × Int × Int) => match x with | (j, zs, p, sd, nm) => (j ≤ 4 ∧ zs.length ≤ j) ∧ (0 ≤ p ∧ p ≤ c.data.length) ∧ (65 ≤ nm ∧ nm ≤ 65 + 2 * j)) (fun (x : Nat × List Zon × Int × Int × Int) => match x with | (j, zs, p, sd, nm) => 4 - j) (0, [], r1_.1, r1_.2.1, 65) (by dsimp only; (try simp only [List.length_nil]); omega) (Sub.o [(0, 0), (102, 102), (103, 103), (5001, 5001), (5002, 5002), (5003, 5003), (5004, 5004), (5005, 5005), (5006, 5006)] [true, false, true, true, false, true, true]) ?_
 rintro ⟨j, zs, p, sd, nm⟩ hqzs ih2
 refine dv (AW.seq ·) ?_
 refine dv (AW.r ·) ?_
 refine dv (At.a 2 ·) ?_
 refine Exists.elim (spec_l1Below_spec  (⟨c.data, p, sd⟩ : Cur) 4 (by dsimp only; omega)) fun r2_ hr2_ => ?_
 obtain ⟨qr2_, hr2_⟩ := hr2_
 try dsimp only at qr2_
 try simp only [Int.reduceLT, Int.reduceLE, true_implies, false_implies, and_true] at qr2_
 refine dv (At.c (hr2_) Tryz.call36 true [(0, 0)] [] [] trivial ·) ?_
 refine dv (At.z 1 ·) ?_
 by_cases h2 : (j : Int) < r2_.2.2
 · refine dv (AW.condT (decide ((j : Int) < r2_.2.2)) (by kernel_rfl) (decide_eq_true h2) ·) ?_
   refine dv (AW.skip ·) ?_
   refine dv (AW.seq ·) ?_
   refine dv (AW.block ·) ?_
   refine dv (AW.r ·) ?_
   refine dv (At.a 1 ·) ?_
   refine dv (At.conv (s := 21) (t := 3) (d := 30) (x := .tmp 29) (kd := .i32) (kd' := .i64) (a := nm) (.int .i64 nm) (by kernel_rfl) (by kernel_rfl) (by kernel_rfl) (by kernel_rfl) (sayI _ (by omega)) ·) ?_
   refine dv (At.a 1 ·) ?_
   refine Exists.elim (spec_l1Below_spec  (⟨c.data, r2_.1, r2_.2.1⟩ : Cur) 50 (by dsimp only; omega)) fun r3_ hr3_ => ?_
   obtain ⟨qr3_, hr3_⟩ := hr3_
   try dsimp only at qr3_
   try simp only [Int.reduceLT, Int.reduceLE, true_implies, false_implies, and_true] at qr3_
   refine dv (At.c (hr3_) Tryz.call36 true [(0, 0)] [] [] trivial ·) ?_
   refine dv (At.a 1 ·) ?_
   refine dv (At.sI 33 (30 * r3_.2.2) (by omega) ·) ?_
   refine dv (At.a 1 ·) ?_
   refine dv (At.sI 34 ((30 * r3_.2.2) - 720) (by omega) ·) ?_
   refine dv (At.z 3 ·) ?_
   refine dv (AW.seq ·) ?_
   refine dv (AW.r ·) ?_
   refine dv (At.a 3 ·) ?_
   refine dv (At.sL 38 encRul rs ·) ?_
   refine dv (At.a 2 ·) ?_
   by_cases h3 : (rs.length : Int) > 0
   · refine dv (At.sB 40 _ _ (sayT h3) ·) ?_
     refine dv (At.a 1 ·) ?_
     refine Exists.elim (spec_l1Once_spec  (⟨c.data, r3_.1, r3_.2.1⟩ : Cur) 4 (by dsimp only; omega)) fun r4_ hr4_ => ?_
     obtain ⟨qr4_, hr4_⟩ := hr4_
     try dsimp only at qr4_
     refine dv (At.c (hr4_) Tryz.call61 true [(0, 0)] [] [] trivial ·) ?_
     refine dv (At.z 2 ·) ?_
     by_cases h4 : r4_.2.2 = true
     · refine dv (AW.condF (!r4_.2.2) (by kernel_rfl) (by rw [show (r4_.2.2) = true from h4]; rfl) ·) ?_
       refine dv (AW.skip ·) ?_
       refine dv (AW.r ·) ?_
       refine dv (At.a 3 ·) ?_
       refine dv (At.ll 59 49 3 159 (0, 6) (([(⟨nm, (30 * r3_.2.2) - 720, 0⟩ : Zon)]).map encZon) ·) ?_
       refine dv (At.apK 60 49 3 24 160 5005 159 encZon zs ([(⟨nm, (30 * r3_.2.2) - 720, 0⟩ : Zon)]) (by simp only [List.length_map, List.length_append, List.length_take, List.length_drop, List.length_replicate, List.length_set, List.length_cons, List.length_nil]; omega) ·) ?_
       refine dv (At.z 2 ·) ?_
       refine dv (AW.g ·) ?_
       refine dv (At.a 2 ·) ?_
       refine dv (At.say 63 (.int .i32 (IntKind.i32.wrap (nm + 1))) (.int .i32 (nm + 1)) (by kernel_rfl) (say32 _ (by omega)) ·) ?_
       refine dv (At.a 1 ·) ?_
       refine Exists.elim (spec_l1Below_spec  (⟨c.data, r4_.1, r4_.2.1⟩ : Cur) 2 (by dsimp only; omega)) fun r5_ hr5_ => ?_
       obtain ⟨qr5_, hr5_⟩ := hr5_
       try dsimp only at qr5_
       try simp only [Int.reduceLT, Int.reduceLE, true_implies, false_implies, and_true] at qr5_
       refine dv (At.c (hr5_) Tryz.call36 true [(0, 0)] [] [] trivial ·) ?_
       refine dv (At.conv (s := 3) (t := 21) (d := 66) (x := .tmp 65) (kd := .i64) (kd' := .i32) (a := r5_.2.2) (.int .i32 r5_.2.2) (by kernel_rfl) (by kernel_rfl) (by kernel_rfl) (by kernel_rfl) (say32 _ (by omega)) ·) ?_
       refine dv (At.a 1 ·) ?_
       refine dv (At.say 67 (.int .i32 (IntKind.i32.wrap ((nm + 1) + r5_.2.2))) (.int .i32 ((nm + 1) + r5_.2.2)) (by kernel_rfl) (say32 _ (by omega)) ·) ?_
       refine dv (At.z 1 ·) ?_
       refine dv (AW.g ·) ?_
       refine dv (At.a 2 ·) ?_
       refine dv (At.sI 28 ((j : Int) + 1) (by omega) ·) ?_
       refine dv (At.z 1 ·) ?_
       exact dw (fun _ h_ => AWL.weak (Sub.o [(0, 0), (102, 102), (103, 103), (5001, 5001), (5002, 5002), (5003, 5003), (5004, 5004), (160, 5005), (5006, 5006)] [true, false, true, true, false, true, true]) h_) (ih2 (j + 1, (zs ++ ([(⟨nm, (30 * r3_.2.2) - 720, 0⟩ : Zon)])), r5_.1, r5_.2.1, ((nm + 1) + r5_.2.2)) (by dsimp only; (try simp only [List.length_append, List.length_cons, List.length_nil, List.length_set]); omega) (by simp only; omega))
     replace h4 := Bool.eq_false_iff.2 h4
     refine dv (AW.condT (!r4_.2.2) (by kernel_rfl) (by rw [show (r4_.2.2) = false from h4]; rfl) ·) ?_
     refine dv (AW.gD Tryz_mix ·) ?_
     refine dv (At.a 6 ·) ?_
     refine dv (At.sL 50 encRul rs ·) ?_
     refine Exists.elim (spec_l1Below_spec  (⟨c.data, r4_.1, r4_.2.1⟩ : Cur) (rs.length : Int) (by dsimp only; omega)) fun r5_ hr5_ => ?_
     obtain ⟨qr5_, hr5_⟩ := hr5_
     try dsimp only at qr5_
     try simp only [Int.reduceLT, Int.reduceLE, true_implies, false_implies, and_true] at qr5_
     refine dv (At.c (hr5_) Tryz.call36 true [(0, 0)] [] [] trivial ·) ?_
     refine dv (At.iRf 24 52 (.tmp 46) (.tmp 51) 5004 (rs.map encRul) .i64 r5_.2.2 43 9 (by omega) (by simp only [List.length_map]; omega) ·) ?_
     refine dv (At.a 1 ·) ?_
     refine Exists.elim (gE rs ((r5_.2.2).toNat) (by omega)) fun e1 he1 => ?_
     refine dv (At.lEl 3 54 (.tmp 53) 5004 43 9 (rs.map encRul) ((r5_.2.2).toNat) 0 false 1 (encRul e1) (.int .i64 e1.name) (mapGet he1) ·) ?_
     refine dv (At.zD 2 ·) ?_
     refine dv (AW.r ·) ?_
     refine dv (At.a 3 ·) ?_
     refine dv (At.ll 59 49 3 159 (0, 6) (([(⟨nm, (30 * r3_.2.2) - 720, e1.name⟩ : Zon)]).map encZon) ·) ?_
     refine dv (At.apK 60 49 3 24 160 5005 159 encZon zs ([(⟨nm, (30 * r3_.2.2) - 720, e1.name⟩ : Zon)]) (by simp only [List.length_map, List.length_append, List.length_take, List.length_drop, List.length_replicate, List.length_set, List.length_cons, List.length_nil]; omega) ·) ?_
     refine dv (At.z 2 ·) ?_
     refine dv (AW.g ·) ?_
     refine dv (At.a 2 ·) ?_
     refine dv (At.say 63 (.int .i32 (IntKind.i32.wrap (nm + 1))) (.int .i32 (nm + 1)) (by kernel_rfl) (say32 _ (by omega)) ·) ?_
     refine dv (At.a 1 ·) ?_
     refine Exists.elim (spec_l1Below_spec  (⟨c.data, r5_.1, r5_.2.1⟩ : Cur) 2 (by dsimp only; omega)) fun r6_ hr6_ => ?_
     obtain ⟨qr6_, hr6_⟩ := hr6_
     try dsimp only at qr6_
     try simp only [Int.reduceLT, Int.reduceLE, true_implies, false_implies, and_true] at qr6_
     refine dv (At.c (hr6_) Tryz.call36 true [(0, 0)] [] [] trivial ·) ?_
     refine dv (At.conv (s := 3) (t := 21) (d := 66) (x := .tmp 65) (kd := .i64) (kd' := .i32) (a := r6_.2.2) (.int .i32 r6_.2.2) (by kernel_rfl) (by kernel_rfl) (by kernel_rfl) (by kernel_rfl) (say32 _ (by omega)) ·) ?_
     refine dv (At.a 1 ·) ?_
     refine dv (At.say 67 (.int .i32 (IntKind.i32.wrap ((nm + 1) + r6_.2.2))) (.int .i32 ((nm + 1) + r6_.2.2)) (by kernel_rfl) (say32 _ (by omega)) ·) ?_
     refine dv (At.z 1 ·) ?_
     refine dv (AW.g ·) ?_
     refine dv (At.a 2 ·) ?_
     refine dv (At.sI 28 ((j : Int) + 1) (by omega) ·) ?_
     refine dv (At.z 1 ·) ?_
     exact dw (fun _ h_ => AWL.weak (Sub.o [(0, 0), (102, 102), (103, 103), (5001, 5001), (5002, 5002), (5003, 5003), (5004, 5004), (160, 5005), (5006, 5006)] [true, false, true, true, false, true, true]) h_) (ih2 (j + 1, (zs ++ ([(⟨nm, (30 * r3_.2.2) - 720, e1.name⟩ : Zon)])), r6_.1, r6_.2.1, ((nm + 1) + r6_.2.2)) (by dsimp only; (try simp only [List.length_append, List.length_cons, List.length_nil, List.length_set]); omega) (by simp only; omega))
   refine dv (At.sB 40 _ _ (sayF h3) ·) ?_
   refine dv (At.z 4 ·) ?_
   refine dv (fun h_ => AW.cond false (by kernel_rfl) (fun h => by cases h) (fun _ => h_)) ?_
   refine dv (AW.skip ·) ?_
   refine dv (AW.r ·) ?_
   refine dv (At.a 3 ·) ?_
   refine dv (At.ll 59 49 3 159 (0, 6) (([(⟨nm, (30 * r3_.2.2) - 720, 0⟩ : Zon)]).map encZon) ·) ?_
   refine dv (At.apK 60 49 3 24 160 5005 159 encZon zs ([(⟨nm, (30 * r3_.2.2) - 720, 0⟩ : Zon)]) (by simp only [List.length_map, List.length_append, List.length_take, List.length_drop, List.length_replicate, List.length_set, List.length_cons, List.length_nil]; omega) ·) ?_
   refine dv (At.z 2 ·) ?_
   refine dv (AW.g ·) ?_
   refine dv (At.a 2 ·) ?_
   refine dv (At.say 63 (.int .i32 (IntKind.i32.wrap (nm + 1))) (.int .i32 (nm + 1)) (by kernel_rfl) (say32 _ (by omega)) ·) ?_
   refine dv (At.a 1 ·) ?_
   refine Exists.elim (spec_l1Below_spec  (⟨c.data, r3_.1, r3_.2.1⟩ : Cur) 2 (by dsimp only; omega)) fun r4_ hr4_ => ?_
   obtain ⟨qr4_, hr4_⟩ := hr4_
   try dsimp only at qr4_
   try simp only [Int.reduceLT, Int.reduceLE, true_implies, false_implies, and_true] at qr4_
   refine dv (At.c (hr4_) Tryz.call36 true [(0, 0)] [] [] trivial ·) ?_
   refine dv (At.conv (s := 3) (t := 21) (d := 66) (x := .tmp 65) (kd := .i64) (kd' := .i32) (a := r4_.2.2) (.int .i32 r4_.2.2) (by kernel_rfl) (by kernel_rfl) (by kernel_rfl) (by kernel_rfl) (say32 _ (by omega)) ·) ?_
   refine dv (At.a 1 ·) ?_
   refine dv (At.say 67 (.int .i32 (IntKind.i32.wrap ((nm + 1) + r4_.2.2))) (.int .i32 ((nm + 1) + r4_.2.2)) (by kernel_rfl) (say32 _ (by omega)) ·) ?_
   refine dv (At.z 1 ·) ?_
   refine dv (AW.g ·) ?_
   refine dv (At.a 2 ·) ?_
   refine dv (At.sI 28 ((j : Int) + 1) (by omega) ·) ?_
   refine dv (At.z 1 ·) ?_
   exact dw (fun _ h_ => AWL.weak (Sub.o [(0, 0), (102, 102), (103, 103), (5001, 5001), (5002, 5002), (5003, 5003), (5004, 5004), (160, 5005), (5006, 5006)] [true, false, true, true, false, true, true]) h_) (ih2 (j + 1, (zs ++ ([(⟨nm, (30 * r3_.2.2) - 720, 0⟩ : Zon)])), r4_.1, r4_.2.1, ((nm + 1) + r4_.2.2)) (by dsimp only; (try simp only [List.length_append, List.length_cons, List.length_nil, List.length_set]); omega) (by simp only; omega))
 refine dv (AW.condF (decide ((j : Int) < r2_.2.2)) (by kernel_rfl) (decide_eq_false h2) ·) ?_
 refine dv (AW.exit ·) ?_
 refine dv (AW.seq ·) ?_
 refine dv (AW.q 1 ·) ?_
 refine dv (AW.block ·) ?_
 refine DW.loopQ (fun (x : Nat × List Lnk × Int × Int) => match x with | (m, ls, p, sd) => Go.Sy.mk [.ptr 0 0 0, .un, .ptr 102 0 0, .ptr 103 0 0, .un, .un, .un, .un, .int .i64 (m : Int)] [(0, .box 67 [.sl false 1 (c.data.map encU8), .int .i64 p, .int .i64 sd]), (102, .box 28 [.ref 5001, .ref 5002, .ref 5003]), (103, .box 28 [.ref 5004, .ref 5005, .ref 5006]), (5001, .arr 43 9 []), (5002, .arr 49 3 []), (5003, .arr 51 2 []), (5004, .arr 43 9 (rs.map encRul)), (5005, .arr 49 3 (zs.map encZon)), (5006, .arr 51 2 (ls.map encLnk))]) (fun (x : Nat × List Lnk × Int × Int) => match x with | (m, ls, p, sd) => (m ≤ 3 ∧ ls.length ≤ m) ∧ (0 ≤ p ∧ p ≤ c.data.length)) (fun (x : Nat × List Lnk × Int × Int) => match x with | (m, ls, p, sd) => 3 - m) (0, [], r2_.1, r2_.2.1) (by dsimp only; (try simp only [List.length_nil]); omega) (Sub.o [(0, 0), (102, 102), (103, 103), (5001, 5001), (5002, 5002), (5003, 5003), (5004, 5004), (5005, 5005), (5006, 5006)] [true, false, true, true, false, false, false, false, true]) ?_
 rintro ⟨m, ls, p, sd⟩ hqls ih3
 refine dv (AW.seq ·) ?_
 refine dv (AW.r ·) ?_
 refine dv (At.a 2 ·) ?_
 refine Exists.elim (spec_l1Below_spec  (⟨c.data, p, sd⟩ : Cur) 3 (by dsimp only; omega)) fun r3_ hr3_ => ?_
 obtain ⟨qr3_, hr3_⟩ := hr3_
 try dsimp only at qr3_
 try simp only [Int.reduceLT, Int.reduceLE, true_implies, false_implies, and_true] at qr3_
 refine dv (At.c (hr3_) Tryz.call36 true [(0, 0)] [] [] trivial ·) ?_
 refine dv (At.a 2 ·) ?_
 by_cases h5 : (m : Int) < r3_.2.2
 · refine dv (At.sB 72 _ _ (sayT h5) ·) ?_
   refine dv (At.a 3 ·) ?_
   refine dv (At.sL 75 encZon zs ·) ?_
   refine dv (At.z 2 ·) ?_
   by_cases h6 : (zs.length : Int) > 0
   · refine dv (AW.condT (decide ((zs.length : Int) > 0)) (by kernel_rfl) (decide_eq_true h6) ·) ?_
     refine dv (AW.skip ·) ?_
     refine dv (AW.seq ·) ?_
     refine dv (AW.block ·) ?_
     refine dv (AW.gD Tryz_mix ·) ?_
     refine dv (At.a 4 ·) ?_
     refine dv (At.sI 83 (84 + (m : Int)) (by omega) ·) ?_
     refine dv (At.a 6 ·) ?_
     refine dv (At.sL 89 encZon zs ·) ?_
     refine Exists.elim (spec_l1Below_spec  (⟨c.data, r3_.1, r3_.2.1⟩ : Cur) (zs.length : Int) (by dsimp only; omega)) fun r4_ hr4_ => ?_
     obtain ⟨qr4_, hr4_⟩ := hr4_
     try dsimp only at qr4_
     try simp only [Int.reduceLT, Int.reduceLE, true_implies, false_implies, and_true] at qr4_
     refine dv (At.c (hr4_) Tryz.call36 true [(0, 0)] [] [] trivial ·) ?_
     refine dv (At.iRf 25 91 (.tmp 85) (.tmp 90) 5005 (zs.map encZon) .i64 r4_.2.2 49 3 (by omega) (by simp only [List.length_map]; omega) ·) ?_
     refine dv (At.a 1 ·) ?_
     refine Exists.elim (gE zs ((r4_.2.2).toNat) (by omega)) fun e2 he2 => ?_
     refine dv (At.lEl 3 93 (.tmp 92) 5005 49 3 (zs.map encZon) ((r4_.2.2).toNat) 0 false 1 (encZon e2) (.int .i64 e2.name) (mapGet he2) ·) ?_
     refine dv (At.a 1 ·) ?_
     refine dv (At.ll 95 51 2 195 (0, 6) (([(⟨84 + (m : Int), e2.name⟩ : Lnk)]).map encLnk) ·) ?_
     refine dv (At.apK 96 51 2 16 196 5006 195 encLnk ls ([(⟨84 + (m : Int), e2.name⟩ : Lnk)]) (by simp only [List.length_map, List.length_append, List.length_take, List.length_drop, List.length_replicate, List.length_set, List.length_cons, List.length_nil]; omega) ·) ?_
     refine dv (At.zD 2 ·) ?_
     refine dv (AW.g ·) ?_
     refine dv (At.a 2 ·) ?_
     refine dv (At.sI 79 ((m : Int) + 1) (by omega) ·) ?_
     refine dv (At.z 1 ·) ?_
     exact dw (fun _ h_ => AWL.weak (Sub.o [(0, 0), (102, 102), (103, 103), (5001, 5001), (5002, 5002), (5003, 5003), (5004, 5004), (5005, 5005), (196, 5006)] [true, false, true, true, false, false, false, false, true]) h_) (ih3 (m + 1, (ls ++ ([(⟨84 + (m : Int), e2.name⟩ : Lnk)])), r4_.1, r4_.2.1) (by dsimp only; (try simp only [List.length_append, List.length_cons, List.length_nil, List.length_set]); omega) (by simp only; omega))
   refine dv (AW.condF (decide ((zs.length : Int) > 0)) (by kernel_rfl) (decide_eq_false h6) ·) ?_
   refine dv (AW.exit ·) ?_
   refine dv (AW.seq ·) ?_
   refine dv (AW.r ·) ?_
   refine dv (At.a 1 ·) ?_
   refine Exists.elim (spec_l1Once_spec  (⟨c.data, r3_.1, r3_.2.1⟩ : Cur) 20 (by dsimp only; omega)) fun r4_ hr4_ => ?_
   obtain ⟨qr4_, hr4_⟩ := hr4_
   try dsimp only at qr4_
   refine dv (At.c (hr4_) Tryz.call61 true [(0, 0)] [] [] trivial ·) ?_
   refine dv (At.done rfl ·) ?_
   by_cases h7 : r4_.2.2 = true
   · refine dv (AW.condT (r4_.2.2) (by kernel_rfl) h7 ·) ?_
     refine dv (AW.block ·) ?_
     refine DW.loopQ (fun (x : List Rul × Int × Int) => match x with | (rs2, p, sd) => Go.Sy.mk [.ptr 0 0 0, .un, .ptr 102 0 0, .ptr 103 0 0] [(0, .box 67 [.sl false 1 (c.data.map encU8), .int .i64 p, .int .i64 sd]), (102, .box 28 [.ref 5001, .ref 5002, .ref 5003]), (103, .box 28 [.ref 5004, .ref 5005, .ref 5006]), (5001, .arr 43 9 []), (5002, .arr 49 3 []), (5003, .arr 51 2 []), (5004, .arr 43 9 (rs2.map encRul)), (5005, .arr 49 3 (zs.map encZon)), (5006, .arr 51 2 (ls.map encLnk))]) (fun (x : List Rul × Int × Int) => match x with | (rs2, p, sd) => rs2.length ≤ 20 ∧ (0 ≤ p ∧ p ≤ c.data.length)) (fun (x : List Rul × Int × Int) => match x with | (rs2, p, sd) => 20 - rs2.length) (rs, r4_.1, r4_.2.1) (by dsimp only; omega) (Sub.o [(0, 0), (102, 102), (103, 103), (5001, 5001), (5002, 5002), (5003, 5003), (5004, 5004), (5005, 5005), (5006, 5006)] [true, false, true, true]) ?_
     rintro ⟨rs2, p, sd⟩ hq3 ih4
     refine dv (AW.seq ·) ?_
     refine dv (AW.r ·) ?_
     refine dv (At.a 3 ·) ?_
     refine dv (At.sL 102 encRul rs2 ·) ?_
     refine dv (At.z 1 ·) ?_
     by_cases h8 : (rs2.length : Int) < 20
     · refine dv (AW.condT (decide ((rs2.length : Int) < 20)) (by kernel_rfl) (decide_eq_true h8) ·) ?_
       refine dv (AW.skip ·) ?_
       refine dv (AW.block ·) ?_
       refine dv (AW.gD Tryz_mix ·) ?_
       refine dv (At.a 3 ·) ?_
       refine Exists.elim (spec_l12DrawRule_spec  (⟨c.data, p, sd⟩ : Cur) (by dsimp only; omega)) fun r5_ hr5_ => ?_
       obtain ⟨qr5_, hr5_⟩ := hr5_
       try dsimp only at qr5_
       refine dv (At.c (hr5_) Tryz.call66 true [(0, 0)] [] [] trivial ·) ?_
       refine dv (At.ll 108 43 9 208 (0, 6) (([r5_.2.2]).map encRul) ·) ?_
       refine dv (At.apK 109 43 9 72 209 5004 208 encRul rs2 ([r5_.2.2]) (by simp only [List.length_map, List.length_append, List.length_take, List.length_drop, List.length_replicate, List.length_set, List.length_cons, List.length_nil]; omega) ·) ?_
       refine dv (At.zD 2 ·) ?_
       exact dw (fun _ h_ => AWL.weak (Sub.o [(0, 0), (102, 102), (103, 103), (5001, 5001), (5002, 5002), (5003, 5003), (209, 5004), (5005, 5005), (5006, 5006)] [true, false, true, true]) h_) (ih4 ((rs2 ++ ([r5_.2.2])), r5_.1, r5_.2.1) (by dsimp only; (try simp only [List.length_append, List.length_cons, List.length_nil, List.length_set]); omega) (by simp only [List.length_append, List.length_cons, List.length_nil]; omega))
     refine dv (AW.condF (decide ((rs2.length : Int) < 20)) (by kernel_rfl) (decide_eq_false h8) ·) ?_
     refine dv (AW.exit ·) ?_
     refine dv (AW.q 2 ·) ?_
     refine dv (AW.ret ·) ?_
     refine dv (⟨_, Sub.refl _ _, ·⟩) ?_
     exact ⟨(p, sd, (⟨rs2, zs, ls⟩ : Srce)), (by dsimp only; (try simp only [List.length_append, List.length_cons, List.length_nil, List.length_set]); omega), KF.mk (.inr rfl) [(0, 0), (5004, 1), (5005, 2), (5006, 3)] [.agg [.ref 5004, .ref 5005, .ref 5006]] (by kernel_rfl) (by kernel_rfl) (by kernel_rfl) (by kernel_rfl) (by kernel_rfl)⟩
   replace h7 := Bool.eq_false_iff.2 h7
   refine dv (AW.condF (r4_.2.2) (by kernel_rfl) h7 ·) ?_
   refine dv (AW.skip ·) ?_
   refine dv (AW.q 2 ·) ?_
   refine dv (AW.ret ·) ?_
   refine dv (⟨_, Sub.refl _ _, ·⟩) ?_
   exact ⟨(r4_.1, r4_.2.1, (⟨rs, zs, ls⟩ : Srce)), (by dsimp only; (try simp only [List.length_append, List.length_cons, List.length_nil, List.length_set]); omega), KF.mk (.inr rfl) [(0, 0), (5004, 1), (5005, 2), (5006, 3)] [.agg [.ref 5004, .ref 5005, .ref 5006]] (by kernel_rfl) (by kernel_rfl) (by kernel_rfl) (by kernel_rfl) (by kernel_rfl)⟩
 refine dv (At.sB 72 _ _ (sayF h5) ·) ?_
 refine dv (At.z 5 ·) ?_
 refine dv (fun h_ => AW.cond false (by kernel_rfl) (fun h => by cases h) (fun _ => h_)) ?_
 refine dv (AW.exit ·) ?_
 refine dv (AW.seq ·) ?_
 refine dv (AW.r ·) ?_
 refine dv (At.a 1 ·) ?_
 refine Exists.elim (spec_l1Once_spec  (⟨c.data, r3_.1, r3_.2.1⟩ : Cur) 20 (by dsimp only; omega)) fun r4_ hr4_ => ?_
 obtain ⟨qr4_, hr4_⟩ := hr4_
 try dsimp only at qr4_
 refine dv (At.c (hr4_) Tryz.call61 true [(0, 0)] [] [] trivial ·) ?_
 refine dv (At.done rfl ·) ?_
 by_cases h9 : r4_.2.2 = true
 · refine dv (AW.condT (r4_.2.2) (by kernel_rfl) h9 ·) ?_
   refine dv (AW.block ·) ?_
   refine DW.loopQ (fun (x : List Rul × Int × Int) => match x with | (rs2, p, sd) => Go.Sy.mk [.ptr 0 0 0, .un, .ptr 102 0 0, .ptr 103 0 0] [(0, .box 67 [.sl false 1 (c.data.map encU8), .int .i64 p, .int .i64 sd]), (102, .box 28 [.ref 5001, .ref 5002, .ref 5003]), (103, .box 28 [.ref 5004, .ref 5005, .ref 5006]), (5001, .arr 43 9 []), (5002, .arr 49 3 []), (5003, .arr 51 2 []), (5004, .arr 43 9 (rs2.map encRul)), (5005, .arr 49 3 (zs.map encZon)), (5006, .arr 51 2 (ls.map encLnk))]) (fun (x : List Rul × Int × Int) => match x with | (rs2, p, sd) => rs2.length ≤ 20 ∧ (0 ≤ p ∧ p ≤ c.data.length)) (fun (x : List Rul × Int × Int) => match x with | (rs2, p, sd) => 20 - rs2.length) (rs, r4_.1, r4_.2.1) (by dsimp only; omega) (Sub.o [(0, 0), (102, 102), (103, 103), (5001, 5001), (5002, 5002), (5003, 5003), (5004, 5004), (5005, 5005), (5006, 5006)] [true, false, true, true]) ?_
   rintro ⟨rs2, p, sd⟩ hq3 ih5
   refine dv (AW.seq ·) ?_
   refine dv (AW.r ·) ?_
   refine dv (At.a 3 ·) ?_
   refine dv (At.sL 102 encRul rs2 ·) ?_
   refine dv (At.z 1 ·) ?_
   by_cases h10 : (rs2.length : Int) < 20
   · refine dv (AW.condT (decide ((rs2.length : Int) < 20)) (by kernel_rfl) (decide_eq_true h10) ·) ?_
     refine dv (AW.skip ·) ?_
     refine dv (AW.block ·) ?_
     refine dv (AW.gD Tryz_mix ·) ?_
     refine dv (At.a 3 ·) ?_
     refine Exists.elim (spec_l12DrawRule_spec  (⟨c.data, p, sd⟩ : Cur) (by dsimp only; omega)) fun r5_ hr5_ => ?_
     obtain ⟨qr5_, hr5_⟩ := hr5_
     try dsimp only at qr5_
     refine dv (At.c (hr5_) Tryz.call66 true [(0, 0)] [] [] trivial ·) ?_
     refine dv (At.ll 108 43 9 208 (0, 6) (([r5_.2.2]).map encRul) ·) ?_
     refine dv (At.apK 109 43 9 72 209 5004 208 encRul rs2 ([r5_.2.2]) (by simp only [List.length_map, List.length_append, List.length_take, List.length_drop, List.length_replicate, List.length_set, List.length_cons, List.length_nil]; omega) ·) ?_
     refine dv (At.zD 2 ·) ?_
     exact dw (fun _ h_ => AWL.weak (Sub.o [(0, 0), (102, 102), (103, 103), (5001, 5001), (5002, 5002), (5003, 5003), (209, 5004), (5005, 5005), (5006, 5006)] [true, false, true, true]) h_) (ih5 ((rs2 ++ ([r5_.2.2])), r5_.1, r5_.2.1) (by dsimp only; (try simp only [List.length_append, List.length_cons, List.length_nil, List.length_set]); omega) (by simp only [List.length_append, List.length_cons, List.length_nil]; omega))
   refine dv (AW.condF (decide ((rs2.length : Int) < 20)) (by kernel_rfl) (decide_eq_false h10) ·) ?_
   refine dv (AW.exit ·) ?_
   refine dv (AW.q 2 ·) ?_
   refine dv (AW.ret ·) ?_
   refine dv (⟨_, Sub.refl _ _, ·⟩) ?_
   exact ⟨(p, sd, (⟨rs2, zs, ls⟩ : Srce)), (by dsimp only; (try simp only [List.length_append, List.length_cons, List.length_nil, List.length_set]); omega), KF.mk (.inr rfl) [(0, 0), (5004, 1), (5005, 2), (5006, 3)] [.agg [.ref 5004, .ref 5005, .ref 5006]] (by kernel_rfl) (by kernel_rfl) (by kernel_rfl) (by kernel_rfl) (by kernel_rfl)⟩
 replace h9 := Bool.eq_false_iff.2 h9
 refine dv (AW.condF (r4_.2.2) (by kernel_rfl) h9 ·) ?_
 refine dv (AW.skip ·) ?_
 refine dv (AW.q 2 ·) ?_
 refine dv (AW.ret ·) ?_
 refine dv (⟨_, Sub.refl _ _, ·⟩) ?_
 exact ⟨(r4_.1, r4_.2.1, (⟨rs, zs, ls⟩ : Srce)), (by dsimp only; (try simp only [List.length_append, List.length_cons, List.length_nil, List.length_set]); omega), KF.mk (.inr rfl) [(0, 0), (5004, 1), (5005, 2), (5006, 3)] [.agg [.ref 5004, .ref 5005, .ref 5006]] (by kernel_rfl) (by kernel_rfl) (by kernel_rfl) (by kernel_rfl) (by kernel_rfl)⟩
theorem spec_l12DrawSource_spec  (c : Cur) (hp : 0 ≤ c.pos ∧ c.pos ≤ c.data.length ∧ c.data.length ≤ 1048576) : ∃ rho_ : Int × Int × Srce, (0 ≤ rho_.1 ∧ rho_.1 ≤ c.data.length ∧ rho_.2.2.rules.length ≤ 200 ∧ rho_.2.2.zones.length ≤ 200 ∧ rho_.2.2.links.length ≤ 200) ∧ FnSpec Tryz.prog 14 [.ptr 0 0 0] [.box 67 [.sl false 1 (c.data.map encU8), .int .i64 c.pos, .int .i64 c.seed]] (.agg [.ref 1, .ref 2, .ref 3]) [.box 67 [.sl false 1 (c.data.map encU8), .int .i64 rho_.1, .int .i64 rho_.2.1], .arr 43 9 (rho_.2.2.rules.map encRul), .arr 49 3 (rho_.2.2.zones.map encZon), .arr 51 2 (rho_.2.2.links.map encLnk)] := by
 refine dv (fun h_ => FnSpec.of 57 Tryz.func14 rfl Tryz.ntmps14 (by simp) (AW.weakK h_)) ?_
 refine dv (AW.q 1 ·) ?_
 refine dv (AW.seq ·) ?_
 refine dv (AW.weak (Sub.nils [⟨true, 102, some 0, 5001, 43, 9⟩, ⟨true, 102, some 1, 5002, 49, 3⟩, ⟨true, 102, some 2, 5003, 51, 2⟩] (by kernel_rfl)) ·) ?_
 refine dv (AW.g ·) ?_
 refine dv (At.a 1 ·) ?_
 refine Exists.elim (spec_l12DrawRight_spec  c (by omega)) fun r1_ hr1_ => ?_
 obtain ⟨qr1_, hr1_⟩ := hr1_
 try dsimp only at qr1_
 refine dv (At.c (hr1_) Tryz.call35 true [(0, 0)] [(1100, 1), (1101, 2), (1102, 3)] [] trivial ·) ?_
 refine dv (At.z 2 ·) ?_
 refine dv (AW.seq ·) ?_
 refine dv (AW.r ·) ?_
 refine dv (At.a 1 ·) ?_
 refine Exists.elim (spec_l1Below_spec  (⟨c.data, r1_.1, r1_.2.1⟩ : Cur) 20 (by dsimp only; omega)) fun r2_ hr2_ => ?_
 obtain ⟨qr2_, hr2_⟩ := hr2_
 try dsimp only at qr2_
 try simp only [Int.reduceLT, Int.reduceLE, true_implies, false_implies, and_true] at qr2_
 refine dv (At.c (hr2_) Tryz.call36 true [(0, 0)] [] [] trivial ·) ?_
 refine dv (At.done rfl ·) ?_
 refine dv (AW.block ·) ?_
 refine dv (AW.q 2 ·) ?_
 by_cases h1 : r2_.2.2 = 0
 · refine dv (AW.condT (r2_.2.2 == 0) (by kernel_rfl) (beq_iff_eq.2 h1) ·) ?_
   refine dv (AW.r ·) ?_
   refine dv (At.a 3 ·) ?_
   refine dv (At.sL 12 encRul r1_.2.2.rules ·) ?_
   refine dv (At.z 1 ·) ?_
   by_cases h2 : (r1_.2.2.rules.length : Int) > 0
   · refine dv (AW.condT (decide ((r1_.2.2.rules.length : Int) > 0)) (by kernel_rfl) (decide_eq_true h2) ·) ?_
     refine dv (AW.gD Tryz_mix ·) ?_
     refine dv (At.a 3 ·) ?_
     refine Exists.elim (spec_l1Below_spec  (⟨c.data, r2_.1, r2_.2.1⟩ : Cur) 14 (by dsimp only; omega)) fun r3_ hr3_ => ?_
     obtain ⟨qr3_, hr3_⟩ := hr3_
     try dsimp only at qr3_
     try simp only [Int.reduceLT, Int.reduceLE, true_implies, false_implies, and_true] at qr3_
     refine dv (At.c (hr3_) Tryz.call36 true [(0, 0)] [] [] trivial ·) ?_
     refine dv (At.iRf 24 18 (.tmp 15) (.const (.int .i64 0)) 1100 (r1_.2.2.rules.map encRul) .i64 0 43 9 (by omega) (by simp only [List.length_map]; omega) ·) ?_
     refine dv (At.a 1 ·) ?_
     refine Exists.elim (gE r1_.2.2.rules 0 (by omega)) fun e1 he1 => ?_
     refine dv (At.sEl 3 1100 43 9 0 3 (.tmp 19) (.tmp 17) (r1_.2.2.rules.map encRul) ((r1_.2.2.rules.set 0 (⟨e1.name, e1.from_, e1.to, r3_.2.2, e1.on, e1.at_, e1.save⟩ : Rul)).map encRul) [.int .i64 r3_.2.2] (.int .i64 r3_.2.2) (encRul e1) (encRul (⟨e1.name, e1.from_, e1.to, r3_.2.2, e1.on, e1.at_, e1.save⟩ : Rul)) (mapGet he1) setV ·) ?_
     refine dv (At.done rfl ⟨by kernel_rfl, ·⟩) ?_
     refine dv (AW.q 2 ·) ?_
     refine dv (AW.ret ·) ?_
     refine dv (⟨_, Sub.refl _ _, ·⟩) ?_
     exact ⟨(r3_.1, r3_.2.1, (⟨r1_.2.2.rules.set 0 (⟨e1.name, e1.from_, e1.to, r3_.2.2, e1.on, e1.at_, e1.save⟩ : Rul), r1_.2.2.zones, r1_.2.2.links⟩ : Srce)), (by dsimp only; (try simp only [List.length_append, List.length_cons, List.length_nil, List.length_set]); omega), KF.mk (.inr rfl) [(0, 0), (1100, 1), (1101, 2), (1102, 3)] [.agg [.ref 1100, .ref 1101, .ref 1102]] (by kernel_rfl) (by kernel_rfl) (by kernel_rfl) (by kernel_rfl) (by kernel_rfl)⟩
   refine dv (AW.condF (decide ((r1_.2.2.rules.length : Int) > 0)) (by kernel_rfl) (decide_eq_false h2) ·) ?_
   refine dv (AW.skip ·) ?_
   refine dv (AW.q 2 ·) ?_
   refine dv (AW.ret ·) ?_
   refine dv (⟨_, Sub.refl _ _, ·⟩) ?_
   exact ⟨(r2_.1, r2_.2.1, r1_.2.2), (by dsimp only; (try simp only [List.length_append, List.length_cons, List.length_nil, List.length_set]); omega), KF.mk (.inr rfl) [(0, 0), (1100, 1), (1101, 2), (1102, 3)] [.agg [.ref 1100, .ref 1101, .ref 1102]] (by kernel_rfl) (by kernel_rfl) (by kernel_rfl) (by kernel_rfl) (by kernel_rfl)⟩
 refine dv (AW.condF (r2_.2.2 == 0) (by kernel_rfl) (beq_eq_false_iff_ne.2 h1) ·) ?_
 refine dv (AW.q 2 ·) ?_
 by_cases h3 : r2_.2.2 = 1
 · refine dv (AW.condT (r2_.2.2 == 1) (by kernel_rfl) (beq_iff_eq.2 h3) ·) ?_
   refine dv (AW.gD Tryz_mix ·) ?_
   refine dv (At.a 3 ·) ?_
   refine Exists.elim (spec_l1Below_spec  (⟨c.data, r2_.1, r2_.2.1⟩ : Cur) 30 (by dsimp only; omega)) fun r3_ hr3_ => ?_
   obtain ⟨qr3_, hr3_⟩ := hr3_
   try dsimp only at qr3_
   try simp only [Int.reduceLT, Int.reduceLE, true_implies, false_implies, and_true] at qr3_
   refine dv (At.c (hr3_) Tryz.call36 true [(0, 0)] [] [] trivial ·) ?_
   refine dv (At.a 1 ·) ?_
   refine dv (At.sI 26 (65 + r3_.2.2) (by omega) ·) ?_
   refine dv (At.a 1 ·) ?_
   refine Exists.elim (spec_l1Below_spec  (⟨c.data, r3_.1, r3_.2.1⟩ : Cur) 2 (by dsimp only; omega)) fun r4_ hr4_ => ?_
   obtain ⟨qr4_, hr4_⟩ := hr4_
   try dsimp only at qr4_
   try simp only [Int.reduceLT, Int.reduceLE, true_implies, false_implies, and_true] at qr4_
   refine dv (At.c (hr4_) Tryz.call36 true [(0, 0)] [] [] trivial ·) ?_
   refine dv (At.a 1 ·) ?_
   refine dv (At.sI 29 (901 - r4_.2.2) (by omega) ·) ?_
   refine dv (At.a 1 ·) ?_
   refine dv (At.ll 31 49 3 131 (0, 6) (([(⟨65 + r3_.2.2, 901 - r4_.2.2, 0⟩ : Zon)]).map encZon) ·) ?_
   refine dv (At.apK 32 49 3 24 132 1101 131 encZon r1_.2.2.zones ([(⟨65 + r3_.2.2, 901 - r4_.2.2, 0⟩ : Zon)]) (by simp only [List.length_map, List.length_append, List.length_take, List.length_drop, List.length_replicate, List.length_set, List.length_cons, List.length_nil]; omega) ·) ?_
   refine dv (At.zD 2 ·) ?_
   refine dv (AW.q 2 ·) ?_
   refine dv (AW.ret ·) ?_
   refine dv (⟨_, Sub.refl _ _, ·⟩) ?_
   exact ⟨(r4_.1, r4_.2.1, (⟨r1_.2.2.rules, r1_.2.2.zones ++ ([(⟨65 + r3_.2.2, 901 - r4_.2.2, 0⟩ : Zon)]), r1_.2.2.links⟩ : Srce)), (by dsimp only; (try simp only [List.length_append, List.length_cons, List.length_nil, List.length_set]); omega), KF.mk (.inr rfl) [(0, 0), (1100, 1), (132, 2), (1102, 3)] [.agg [.ref 1100, .ref 132, .ref 1102]] (by kernel_rfl) (by kernel_rfl) (by kernel_rfl) (by kernel_rfl) (by kernel_rfl)⟩
 refine dv (AW.condF (r2_.2.2 == 1) (by kernel_rfl) (beq_eq_false_iff_ne.2 h3) ·) ?_
 refine dv (AW.q 2 ·) ?_
 by_cases h4 : r2_.2.2 = 2
 · refine dv (AW.condT (r2_.2.2 == 2) (by kernel_rfl) (beq_iff_eq.2 h4) ·) ?_
   refine dv (AW.gD Tryz_mix ·) ?_
   refine dv (At.a 3 ·) ?_
   refine Exists.elim (spec_l1Below_spec  (⟨c.data, r2_.1, r2_.2.1⟩ : Cur) 3 (by dsimp only; omega)) fun r3_ hr3_ => ?_
   obtain ⟨qr3_, hr3_⟩ := hr3_
   try dsimp only at qr3_
   try simp only [Int.reduceLT, Int.reduceLE, true_implies, false_implies, and_true] at qr3_
   refine dv (At.c (hr3_) Tryz.call36 true [(0, 0)] [] [] trivial ·) ?_
   refine dv (At.a 1 ·) ?_
   refine dv (At.sI 40 (65 + r3_.2.2) (by omega) ·) ?_
   refine dv (At.a 1 ·) ?_
   refine dv (At.ll 42 51 2 142 (0, 6) (([(⟨90, 65 + r3_.2.2⟩ : Lnk)]).map encLnk) ·) ?_
   refine dv (At.apK 43 51 2 16 143 1102 142 encLnk r1_.2.2.links ([(⟨90, 65 + r3_.2.2⟩ : Lnk)]) (by simp only [List.length_map, List.length_append, List.length_take, List.length_drop, List.length_replicate, List.length_set, List.length_cons, List.length_nil]; omega) ·) ?_
   refine dv (At.zD 2 ·) ?_
   refine dv (AW.q 2 ·) ?_
   refine dv (AW.ret ·) ?_
   refine dv (⟨_, Sub.refl _ _, ·⟩) ?_
   exact ⟨(r3_.1, r3_.2.1, (⟨r1_.2.2.rules, r1_.2.2.zones, r1_.2.2.links ++ ([(⟨90, 65 + r3_.2.2⟩ : Lnk)])⟩ : Srce)), (by dsimp only; (try simp only [List.length_append, List.length_cons, List.length_nil, List.length_set]); omega), KF.mk (.inr rfl) [(0, 0), (1100, 1), (1101, 2), (143, 3)] [.agg [.ref 1100, .ref 1101, .ref 143]] (by kernel_rfl) (by kernel_rfl) (by kernel_rfl) (by kernel_rfl) (by kernel_rfl)⟩
 refine dv (AW.condF (r2_.2.2 == 2) (by kernel_rfl) (beq_eq_false_iff_ne.2 h4) ·) ?_
 refine dv (AW.q 2 ·) ?_
 by_cases h5 : r2_.2.2 = 3
 · refine dv (AW.condT (r2_.2.2 == 3) (by kernel_rfl) (beq_iff_eq.2 h5) ·) ?_
   refine dv (AW.gD Tryz_mix ·) ?_
   refine dv (At.a 3 ·) ?_
   refine Exists.elim (spec_l1Below_spec  (⟨c.data, r2_.1, r2_.2.1⟩ : Cur) 5 (by dsimp only; omega)) fun r3_ hr3_ => ?_
   obtain ⟨qr3_, hr3_⟩ := hr3_
   try dsimp only at qr3_
   try simp only [Int.reduceLT, Int.reduceLE, true_implies, false_implies, and_true] at qr3_
   refine dv (At.c (hr3_) Tryz.call36 true [(0, 0)] [] [] trivial ·) ?_
   refine dv (At.a 1 ·) ?_
   refine dv (At.sI 51 (97 + r3_.2.2) (by omega) ·) ?_
   refine dv (At.a 1 ·) ?_
   refine dv (At.ll 53 49 3 153 (0, 6) (([(⟨90, 0, 97 + r3_.2.2⟩ : Zon)]).map encZon) ·) ?_
   refine dv (At.apK 54 49 3 24 154 1101 153 encZon r1_.2.2.zones ([(⟨90, 0, 97 + r3_.2.2⟩ : Zon)]) (by simp only [List.length_map, List.length_append, List.length_take, List.length_drop, List.length_replicate, List.length_set, List.length_cons, List.length_nil]; omega) ·) ?_
   refine dv (At.zD 2 ·) ?_
   refine dv (AW.q 2 ·) ?_
   refine dv (AW.ret ·) ?_
   refine dv (⟨_, Sub.refl _ _, ·⟩) ?_
   exact ⟨(r3_.1, r3_.2.1, (⟨r1_.2.2.rules, r1_.2.2.zones ++ ([(⟨90, 0, 97 + r3_.2.2⟩ : Zon)]), r1_.2.2.links⟩ : Srce)), (by dsimp only; (try simp only [List.length_append, List.length_cons, List.length_nil, List.length_set]); omega), KF.mk (.inr rfl) [(0, 0), (1100, 1), (154, 2), (1102, 3)] [.agg [.ref 1100, .ref 154, .ref 1102]] (by kernel_rfl) (by kernel_rfl) (by kernel_rfl) (by kernel_rfl) (by kernel_rfl)⟩
 refine dv (AW.condF (r2_.2.2 == 3) (by kernel_rfl) (beq_eq_false_iff_ne.2 h5) ·) ?_
 refine dv (AW.skip ·) ?_
 refine dv (AW.q 2 ·) ?_
 refine dv (AW.ret ·) ?_
 refine dv (⟨_, Sub.refl _ _, ·⟩) ?_
 exact ⟨(r2_.1, r2_.2.1, r1_.2.2), (by dsimp only; (try simp only [List.length_append, List.length_cons, List.length_nil, List.length_set]); omega), KF.mk (.inr rfl) [(0, 0), (1100, 1), (1101, 2), (1102, 3)] [.agg [.ref 1100, .ref 1101, .ref 1102]] (by kernel_rfl) (by kernel_rfl) (by kernel_rfl) (by kernel_rfl) (by kernel_rfl)⟩
theorem spec_DrawSourcePrint_spec  (code : List UInt8) (hc : code.length ≤ 1048576) : ∃ rho_ : Srce, (rho_.rules.length ≤ 200 ∧ rho_.zones.length ≤ 200 ∧ rho_.links.length ≤ 200) ∧ FnSpec Tryz.prog 5 [.sl false 1 (code.map encU8)] [] (.agg [.ref 0, .ref 1, .ref 2]) [.arr 43 9 (rho_.rules.map encRul), .arr 49 3 (rho_.zones.map encZon), .arr 51 2 (rho_.links.map encLnk)] := by
 refine dv (fun h_ => FnSpec.of 6 Tryz.func5 rfl Tryz.ntmps5 (by simp) (AW.weakK h_)) ?_
 refine dv (AW.q 1 ·) ?_
 refine dv (AW.seq ·) ?_
 refine dv (AW.weak (Sub.nils [⟨true, 102, some 0, 5001, 43, 9⟩, ⟨true, 102, some 1, 5002, 49, 3⟩, ⟨true, 102, some 2, 5003, 51, 2⟩] (by kernel_rfl)) ·) ?_
 refine dv (AW.g ·) ?_
 refine dv (At.a 1 ·) ?_
 refine Exists.elim (spec_l1New_spec  code hc) fun r1_ hr1_ => ?_
 obtain ⟨qr1_, hr1_⟩ := hr1_
 try dsimp only at qr1_
 refine dv (At.c (hr1_) Tryz.call15 true [] [(1080, 0)] [] trivial ·) ?_
 refine Exists.elim (spec_l12DrawSource_spec  (⟨code, 0, r1_⟩ : Cur) (by dsimp only; omega)) fun r2_ hr2_ => ?_
 obtain ⟨qr2_, hr2_⟩ := hr2_
 try dsimp only at qr2_
 refine dv (At.c (hr2_) Tryz.call14 true [(1080, 0)] [(1100, 1), (1101, 2), (1102, 3)] [] trivial ·) ?_
 refine dv (At.z 1 ·) ?_
 refine dv (AW.ret ·) ?_
 refine dv (⟨_, Sub.refl _ _, ·⟩) ?_
 exact ⟨(r2_.2.2), (by (try dsimp only); omega), KF.mk (.inr rfl) [(1100, 0), (1101, 1), (1102, 2)] [.agg [.ref 1100, .ref 1101, .ref 1102]] (by kernel_rfl) (by kernel_rfl) (by kernel_rfl) (by kernel_rfl) (by kernel_rfl)⟩
theorem impl_within_spec  (n : Int) (low : Int) (high : Int) : FnSpec Tryz.prog 45 [.int .i64 n, .int .i64 low, .int .i64 high] [] (.bool (inR n low high)) [] := by
 refine FnSpec.of 15 Tryz.func45 rfl Tryz.ntmps45 (by simp) (AW.weakK ?_)
 refine AW.q 1 ?_
 refine AW.r ?_
 refine At.a 4 ?_
 by_cases h1 : n ≥ low
 · refine At.sB 10 _ _ (sayT h1) ?_
   refine At.z 5 ?_
   refine AW.ret ?_
   refine ⟨_, Sub.refl _ _, ?_⟩
   refine KF.conv (fun w => .bool w) (fun w => []) (show (decide (n ≤ high)) = (inR n low high) from by simp [inR, *]) ?_
   exact KF.n []
 refine At.sB 10 _ _ (sayF h1) ?_
 refine At.z 5 ?_
 refine AW.ret ?_
 refine ⟨_, Sub.refl _ _, ?_⟩
 refine KF.conv (fun w => .bool w) (fun w => []) (show (false) = (inR n low high) from by simp [inR, *]) ?_
 exact KF.n []
theorem impl_isYear_spec  (n : Int) : FnSpec Tryz.prog 43 [.int .i64 n] [] (.bool (inR n 1900 2200)) [] := by
 refine FnSpec.of 5 Tryz.func43 rfl Tryz.ntmps43 (by simp) (AW.weakK ?_)
 refine AW.q 1 ?_
 refine AW.r ?_
 refine At.a 1 ?_
 refine At.c (impl_within_spec  n 1900 2200 ) Tryz.call45 true [] [] [] trivial ?_
 refine At.z 1 ?_
 exact AW.ret (rf (KF.n []))
theorem impl_isSmall_spec  (n : Int) : FnSpec Tryz.prog 44 [.int .i64 n] [] (.bool (inR n 97 122)) [] := by
 refine FnSpec.of 5 Tryz.func44 rfl Tryz.ntmps44 (by simp) (AW.weakK ?_)
 refine AW.q 1 ?_
 refine AW.r ?_
 refine At.a 1 ?_
 refine At.c (impl_within_spec  n 97 122 ) Tryz.call45 true [] [] [] trivial ?_
 refine At.z 1 ?_
 exact AW.ret (rf (KF.n []))
def K_impl_OnOk (rs : List ResultVar) (o : On) (w0_ : Bool) : Exit → Sg → Prop := KF Tryz.prog 0 rs (.bool w0_) []
theorem impl_OnOk_spec  (o : On) : FnSpec Tryz.prog 38 [.agg [.int .i64 o.kind, .int .i64 o.day, .int .i64 o.week]] [] (.bool (onOk o)) [] := by
 refine FnSpec.of 38 Tryz.func38 rfl Tryz.ntmps38 (by simp) (AW.weakK ?_)
 refine AW.q 2 ?_
 refine AW.seq ?_
 refine AW.q 2 ?_
 refine AW.block ?_
 refine AW.q 2 ?_
 refine AW.cE o.kind (1 : Int) (fun h1 => ?_) (fun h1 => ?_)
 · refine AW.r ?_
   refine At.a 2 ?_
   refine At.c (impl_within_spec  o.day 1 31 ) Tryz.call45 true [] [] [] trivial ?_
   refine At.a 1 ?_
   by_cases h2 : (inR o.day 1 31) = true
   · refine At.sB 10 (inR o.day 1 31) true (sayB h2) ?_
     have h2i := inR_iff.1 h2
     refine At.z 5 ?_
     exact AW.ret (rf (k1 (K_impl_OnOk _ o) (show (o.week == 0) = (onOk o) from by simp [onOk, *]; done) (KF.n [])))
   refine At.sB 10 (inR o.day 1 31) false (sayB (Bool.eq_false_iff.2 h2)) ?_
   replace h2 := Bool.eq_false_iff.2 h2
   refine At.z 5 ?_
   exact AW.ret (rf (k1 (K_impl_OnOk _ o) (show (false) = (onOk o) from by simp [onOk, *]; done) (KF.n [])))
 refine AW.q 2 ?_
 refine AW.cE o.kind (2 : Int) (fun h3 => ?_) (fun h3 => ?_)
 · refine AW.r ?_
   refine At.a 4 ?_
   by_cases h4 : o.day = 0
   · refine At.sB 20 _ _ (sayET h4) ?_
     refine At.a 2 ?_
     refine At.c (impl_within_spec  o.week 0 6 ) Tryz.call45 true [] [] [] trivial ?_
     refine At.z 2 ?_
     exact AW.ret (rf (k1 (K_impl_OnOk _ o) (show (inR o.week 0 6) = (onOk o) from by simp [onOk, *]; done) (KF.n [])))
   refine At.sB 20 _ _ (sayEF h4) ?_
   refine At.z 5 ?_
   exact AW.ret (rf (k1 (K_impl_OnOk _ o) (show (false) = (onOk o) from by simp [onOk, *]; done) (KF.n [])))
 refine AW.skip ?_
 refine AW.r ?_
 refine At.a 4 ?_
 by_cases h5 : o.kind = 3
 · refine At.sB 28 _ _ (sayET h5) ?_
   refine At.a 2 ?_
   refine At.c (impl_within_spec  o.day 1 31 ) Tryz.call45 true [] [] [] trivial ?_
   refine At.a 2 ?_
   by_cases h6 : (inR o.day 1 31) = true
   · refine At.sB 33 (inR o.day 1 31) true (sayB h6) ?_
     have h6i := inR_iff.1 h6
     refine At.a 2 ?_
     refine At.c (impl_within_spec  o.week 0 6 ) Tryz.call45 true [] [] [] trivial ?_
     refine At.z 2 ?_
     exact AW.ret (rf (k1 (K_impl_OnOk _ o) (show (inR o.week 0 6) = (onOk o) from by simp [onOk, *]; done) (KF.n [])))
   refine At.sB 33 (inR o.day 1 31) false (sayB (Bool.eq_false_iff.2 h6)) ?_
   replace h6 := Bool.eq_false_iff.2 h6
   refine At.z 5 ?_
   exact AW.ret (rf (k1 (K_impl_OnOk _ o) (show (false) = (onOk o) from by simp [onOk, *]; done) (KF.n [])))
 refine At.sB 28 _ _ (sayEF h5) ?_
 refine At.z 10 ?_
 exact AW.ret (rf (k1 (K_impl_OnOk _ o) (show (false) = (onOk o) from by simp [onOk, *]; done) (KF.n [])))
def K_impl_ruleOk (rs : List ResultVar) (r : Rul) (w0_ : Bool) : Exit → Sg → Prop := KF Tryz.prog 0 rs (.bool w0_) []
theorem impl_ruleOk_spec  (r : Rul) : FnSpec Tryz.prog 23 [.agg [.int .i64 r.name, .int .i64 r.from_, .int .i64 r.to, .int .i64 r.month, .int .i64 r.on.kind, .int .i64 r.on.day, .int .i64 r.on.week, .int .i64 r.at_, .int .i64 r.save]] [] (.bool (ruleOk r)) [] := by
 refine FnSpec.of 45 Tryz.func23 rfl Tryz.ntmps23 (by simp) (AW.weakK ?_)
 refine AW.q 2 ?_
 refine AW.r ?_
 refine At.a 2 ?_
 refine At.c (impl_isYear_spec  r.from_ ) Tryz.call43 true [] [] [] trivial ?_
 refine At.a 1 ?_
 by_cases h1 : (inR r.from_ 1900 2200) = true
 · refine At.sB 7 (inR r.from_ 1900 2200) true (sayB h1) ?_
   have h1i := inR_iff.1 h1
   refine At.a 2 ?_
   refine At.c (impl_isYear_spec  r.to ) Tryz.call43 true [] [] [] trivial ?_
   refine At.a 2 ?_
   by_cases h2 : (inR r.to 1900 2200) = true
   · refine At.sB 12 (inR r.to 1900 2200) true (sayB h2) ?_
     have h2i := inR_iff.1 h2
     refine At.z 7 ?_
     refine AW.r ?_
     refine At.a 2 ?_
     refine At.c (impl_isSmall_spec  r.name ) Tryz.call44 true [] [] [] trivial ?_
     refine At.a 1 ?_
     by_cases h3 : (inR r.name 97 122) = true
     · refine At.sB 22 (inR r.name 97 122) true (sayB h3) ?_
       have h3i := inR_iff.1 h3
       refine At.a 3 ?_
       by_cases h4 : r.from_ ≤ r.to
       · refine At.sB 25 _ _ (sayT h4) ?_
         refine At.a 2 ?_
         refine At.c (impl_within_spec  r.month 1 12 ) Tryz.call45 true [] [] [] trivial ?_
         refine At.a 2 ?_
         by_cases h5 : (inR r.month 1 12) = true
         · refine At.sB 30 (inR r.month 1 12) true (sayB h5) ?_
           have h5i := inR_iff.1 h5
           refine At.a 2 ?_
           refine At.c (impl_OnOk_spec  r.on ) Tryz.call38 true [] [] [] trivial ?_
           refine At.a 2 ?_
           by_cases h6 : (onOk r.on) = true
           · refine At.sB 35 (onOk r.on) true (sayB h6) ?_
             refine At.a 2 ?_
             refine At.c (impl_within_spec  r.at_ 0 1439 ) Tryz.call45 true [] [] [] trivial ?_
             refine At.a 2 ?_
             by_cases h7 : (inR r.at_ 0 1439) = true
             · refine At.sB 40 (inR r.at_ 0 1439) true (sayB h7) ?_
               have h7i := inR_iff.1 h7
               refine At.a 2 ?_
               refine At.c (impl_within_spec  r.save 0 180 ) Tryz.call45 true [] [] [] trivial ?_
               refine At.z 2 ?_
               exact AW.ret (rf (k1 (K_impl_ruleOk _ r) (show (inR r.save 0 180) = (ruleOk r) from by simp [ruleOk, *]; done) (KF.n [])))
             refine At.sB 40 (inR r.at_ 0 1439) false (sayB (Bool.eq_false_iff.2 h7)) ?_
             replace h7 := Bool.eq_false_iff.2 h7
             refine At.z 5 ?_
             exact AW.ret (rf (k1 (K_impl_ruleOk _ r) (show (false) = (ruleOk r) from by simp [ruleOk, *]; done) (KF.n [])))
           refine At.sB 35 (onOk r.on) false (sayB (Bool.eq_false_iff.2 h6)) ?_
           replace h6 := Bool.eq_false_iff.2 h6
           refine At.z 10 ?_
           exact AW.ret (rf (k1 (K_impl_ruleOk _ r) (show (false) = (ruleOk r) from by simp [ruleOk, *]; done) (KF.n [])))
         refine At.sB 30 (inR r.month 1 12) false (sayB (Bool.eq_false_iff.2 h5)) ?_
         replace h5 := Bool.eq_false_iff.2 h5
         refine At.z 15 ?_
         exact AW.ret (rf (k1 (K_impl_ruleOk _ r) (show (false) = (ruleOk r) from by simp [ruleOk, *]; done) (KF.n [])))
       refine At.sB 25 _ _ (sayF h4) ?_
       refine At.z 20 ?_
       exact AW.ret (rf (k1 (K_impl_ruleOk _ r) (show (false) = (ruleOk r) from by simp [ruleOk, *]; done) (KF.n [])))
     refine At.sB 22 (inR r.name 97 122) false (sayB (Bool.eq_false_iff.2 h3)) ?_
     replace h3 := Bool.eq_false_iff.2 h3
     refine At.z 23 ?_
     exact AW.ret (rf (k1 (K_impl_ruleOk _ r) (show (false) = (ruleOk r) from by simp [ruleOk, *]; done) (KF.n [])))
   refine At.sB 12 (inR r.to 1900 2200) false (sayB (Bool.eq_false_iff.2 h2)) ?_
   replace h2 := Bool.eq_false_iff.2 h2
   refine At.z 7 ?_
   refine AW.r ?_
   refine At.a 2 ?_
   refine At.c (impl_isSmall_spec  r.name ) Tryz.call44 true [] [] [] trivial ?_
   refine At.a 1 ?_
   by_cases h8 : (inR r.name 97 122) = true
   · refine At.sB 22 (inR r.name 97 122) true (sayB h8) ?_
     have h8i := inR_iff.1 h8
     refine At.z 23 ?_
     exact AW.ret (rf (k1 (K_impl_ruleOk _ r) (show (false) = (ruleOk r) from by simp [ruleOk, *]; done) (KF.n [])))
   refine At.sB 22 (inR r.name 97 122) false (sayB (Bool.eq_false_iff.2 h8)) ?_
   replace h8 := Bool.eq_false_iff.2 h8
   refine At.z 23 ?_
   exact AW.ret (rf (k1 (K_impl_ruleOk _ r) (show (false) = (ruleOk r) from by simp [ruleOk, *]; done) (KF.n [])))
 refine At.sB 7 (inR r.from_ 1900 2200) false (sayB (Bool.eq_false_iff.2 h1)) ?_
 replace h1 := Bool.eq_false_iff.2 h1
 refine At.z 12 ?_
 refine AW.r ?_
 refine At.a 2 ?_
 refine At.c (impl_isSmall_spec  r.name ) Tryz.call44 true [] [] [] trivial ?_
 refine At.a 1 ?_
 by_cases h9 : (inR r.name 97 122) = true
 · refine At.sB 22 (inR r.name 97 122) true (sayB h9) ?_
   have h9i := inR_iff.1 h9
   refine At.z 23 ?_
   exact AW.ret (rf (k1 (K_impl_ruleOk _ r) (show (false) = (ruleOk r) from by simp [ruleOk, *]; done) (KF.n [])))
 refine At.sB 22 (inR r.name 97 122) false (sayB (Bool.eq_false_iff.2 h9)) ?_
 replace h9 := Bool.eq_false_iff.2 h9
 refine At.z 23 ?_
 exact AW.ret (rf (k1 (K_impl_ruleOk _ r) (show (false) = (ruleOk r) from by simp [ruleOk, *]; done) (KF.n [])))
theorem impl_isGreat_spec  (n : Int) : FnSpec Tryz.prog 26 [.int .i64 n] [] (.bool (inR n 65 90)) [] := by
 refine FnSpec.of 5 Tryz.func26 rfl Tryz.ntmps26 (by simp) (AW.weakK ?_)
 refine AW.q 1 ?_
 refine AW.r ?_
 refine At.a 1 ?_
 refine At.c (impl_within_spec  n 65 90 ) Tryz.call45 true [] [] [] trivial ?_
 refine At.z 1 ?_
 exact AW.ret (rf (KF.n []))
theorem impl_zoneOk_spec  (z : Zon) : FnSpec Tryz.prog 24 [.agg [.int .i64 z.name, .int .i64 z.off, .int .i64 z.rule]] [] (.bool (zoneOk z)) [] := by
 refine FnSpec.of 21 Tryz.func24 rfl Tryz.ntmps24 (by simp) (AW.weakK ?_)
 refine AW.q 2 ?_
 refine AW.r ?_
 refine At.a 2 ?_
 refine At.c (impl_isGreat_spec  z.name ) Tryz.call26 true [] [] [] trivial ?_
 refine At.a 1 ?_
 by_cases h1 : (inR z.name 65 90) = true
 · refine At.sB 6 (inR z.name 65 90) true (sayB h1) ?_
   have h1i := inR_iff.1 h1
   refine At.a 2 ?_
   refine At.c (impl_within_spec  z.off (-900) 900 ) Tryz.call45 true [] [] [] trivial ?_
   refine At.a 2 ?_
   by_cases h2 : (inR z.off (-900) 900) = true
   · refine At.sB 11 (inR z.off (-900) 900) true (sayB h2) ?_
     have h2i := inR_iff.1 h2
     refine At.a 4 ?_
     by_cases h3 : z.rule = 0
     · refine At.sB 15 _ _ (sayET h3) ?_
       refine At.z 6 ?_
       refine AW.ret ?_
       refine ⟨_, Sub.refl _ _, ?_⟩
       refine KF.conv (fun w => .bool w) (fun w => []) (show (true) = (zoneOk z) from by simp [zoneOk, *]; done) ?_
       exact KF.n []
     refine At.sB 15 _ _ (sayEF h3) ?_
     refine At.a 2 ?_
     refine At.c (impl_isSmall_spec  z.rule ) Tryz.call44 true [] [] [] trivial ?_
     refine At.z 3 ?_
     refine AW.ret ?_
     refine ⟨_, Sub.refl _ _, ?_⟩
     refine KF.conv (fun w => .bool w) (fun w => []) (show (inR z.rule 97 122) = (zoneOk z) from by simp [zoneOk, *]; done) ?_
     exact KF.n []
   refine At.sB 11 (inR z.off (-900) 900) false (sayB (Bool.eq_false_iff.2 h2)) ?_
   replace h2 := Bool.eq_false_iff.2 h2
   refine At.z 10 ?_
   refine AW.ret ?_
   refine ⟨_, Sub.refl _ _, ?_⟩
   refine KF.conv (fun w => .bool w) (fun w => []) (show (false) = (zoneOk z) from by simp [zoneOk, *]; done) ?_
   exact KF.n []
 refine At.sB 6 (inR z.name 65 90) false (sayB (Bool.eq_false_iff.2 h1)) ?_
 replace h1 := Bool.eq_false_iff.2 h1
 refine At.z 15 ?_
 refine AW.ret ?_
 refine ⟨_, Sub.refl _ _, ?_⟩
 refine KF.conv (fun w => .bool w) (fun w => []) (show (false) = (zoneOk z) from by simp [zoneOk, *]; done) ?_
 exact KF.n []
theorem impl_hasRule_spec  (s : Srce) (name : Int) : FnSpec Tryz.prog 25 [.agg [.sl false 9 (s.rules.map encRul), .sl false 3 (s.zones.map encZon), .sl false 2 (s.links.map encLnk)], .int .i64 name] [] (.bool (hasR name s.rules)) [] := hasRule_s s name
theorem impl_zoneAt_spec  (s : Srce) (name : Int) : FnSpec Tryz.prog 27 [.agg [.sl false 9 (s.rules.map encRul), .sl false 3 (s.zones.map encZon), .sl false 2 (s.links.map encLnk)], .int .i64 name] [] (.int .i64 (posZ name s.zones 0)) [] := zoneAt_s s name
def K_impl_SourceOk (rs : List ResultVar) (s : Srce) (w0_ : Bool) : Exit → Sg → Prop := KF Tryz.prog 0 rs (.bool w0_) []
theorem impl_SourceOk_spec  (s : Srce) (hs : (s.rules.length ≤ 1048576 ∧ s.zones.length ≤ 1048576 ∧ s.links.length ≤ 1048576)) : FnSpec Tryz.prog 8 [.agg [.sl false 9 (s.rules.map encRul), .sl false 3 (s.zones.map encZon), .sl false 2 (s.links.map encLnk)]] [] (.bool (srcOk s)) [] := by
 refine FnSpec.of 107 Tryz.func8 rfl Tryz.ntmps8 (by simp) (AW.weakK ?_)
 refine AW.q 2 ?_
 refine AW.seq ?_
 refine AW.r ?_
 refine At.a 3 ?_
 refine At.sL 11 encRul s.rules ?_
 refine At.z 1 ?_
 refine AW.block ?_
 refine AW.loopW (fun (k : Nat) => Go.Sy.mk [.un, .ptr 101 0 0, .un, .un, .un, .un, .un, .un, .un, .un, .sl false 9 (s.rules.map encRul), .int .i64 (s.rules.length : Int), .int .i64 (k : Int)] [(101, .box 28 [.sl false 9 (s.rules.map encRul), .sl false 3 (s.zones.map encZon), .sl false 2 (s.links.map encLnk)])]) (fun (k : Nat) => k ≤ s.rules.length ∧ rulesOk s.rules = rulesOk (s.rules.drop k)) (fun (k : Nat) => s.rules.length - k) 0 ⟨by omega, by rw [List.drop_zero]⟩ (Sub.o [(101, 101)] [false, true, false, false, false, false, false, false, false, false, true, true, true]) ?_
 rintro k ⟨hk, hR1⟩
 refine AW.q 1 ?_
 refine AW.seq ?_
 refine AW.cD ((k : Int) < (s.rules.length : Int)) (fun h1 => ?_) (fun h1 => ?_)
 · refine AW.skip ?_
   refine AW.seq ?_
   refine AW.block ?_
   refine AW.r ?_
   refine At.iSl 24 14 (.tmp 10) (.tmp 12) false 9 (s.rules.map encRul) .i64 (k : Int) 43 (by omega) (by simp only [List.length_map]; omega) ?_
   refine Exists.elim (gE s.rules k (by omega)) fun e1 he1 => ?_
   refine At.lVp 43 15 (.tmp 14) false 9 (s.rules.map encRul) k 0 true 9 (encRul e1) (.agg [.int .i64 e1.name, .int .i64 e1.from_, .int .i64 e1.to, .int .i64 e1.month, .int .i64 e1.on.kind, .int .i64 e1.on.day, .int .i64 e1.on.week, .int .i64 e1.at_, .int .i64 e1.save]) (mapGet he1) ?_
   refine At.z 2 ?_
   refine AW.r ?_
   refine At.a 1 ?_
   refine At.c (impl_ruleOk_spec  e1 ) Tryz.call23 true [] [] [] trivial ?_
   refine At.z 1 ?_
   refine AW.cNB (ruleOk e1) (fun h2 => ?_) (fun h2 => ?_)
   · refine AW.q 1 ?_
     exact AW.ret (rf (k1 (K_impl_SourceOk _ s) (show (false) = (srcOk s) from by exact (srcOk_rb (hR1.trans (rules_bad (by assumption) (by assumption)))).symm) (KF.n [])))
   refine AW.skip ?_
   refine AW.g ?_
   refine At.a 1 ?_
   refine At.sI 19 ((k : Int) + 1) (by omega) ?_
   refine At.z 1 ?_
   exact ⟨k + 1, ⟨by omega, hR1.trans (rules_step he1 (by assumption))⟩, (by omega), Sub.o [(101, 101)] [false, true, false, false, false, false, false, false, false, false, true, true, true]⟩
 refine AW.exit ?_
 refine AW.seq ?_
 refine AW.r ?_
 refine At.a 3 ?_
 refine At.sL 22 encZon s.zones ?_
 refine At.z 1 ?_
 refine AW.block ?_
 refine AW.loopW (fun (j : Nat) => Go.Sy.mk [.un, .ptr 101 0 0, .un, .un, .un, .un, .un, .un, .un, .un, .un, .un, .un, .un, .un, .un, .un, .un, .un, .un, .un, .sl false 3 (s.zones.map encZon), .int .i64 (s.zones.length : Int), .int .i64 (j : Int)] [(101, .box 28 [.sl false 9 (s.rules.map encRul), .sl false 3 (s.zones.map encZon), .sl false 2 (s.links.map encLnk)])]) (fun (j : Nat) => j ≤ s.zones.length ∧ zonesOk s.rules 0 s.zones = zonesOk s.rules (lastZ (s.zones.take j)) (s.zones.drop j)) (fun (j : Nat) => s.zones.length - j) 0 ⟨by omega, by rw [List.drop_zero]; rfl⟩ (Sub.o [(101, 101)] [false, true, false, false, false, false, false, false, false, false, false, false, false, false, false, false, false, false, false, false, false, true, true, true]) ?_
 rintro j ⟨hj, hR2⟩
 refine AW.q 1 ?_
 refine AW.seq ?_
 refine AW.cD ((j : Int) < (s.zones.length : Int)) (fun h3 => ?_) (fun h3 => ?_)
 · refine AW.skip ?_
   refine AW.seq ?_
   refine AW.block ?_
   refine AW.r ?_
   refine At.a 1 ?_
   refine At.iSl 25 26 (.tmp 21) (.tmp 23) false 3 (s.zones.map encZon) .i64 (j : Int) 49 (by omega) (by simp only [List.length_map]; omega) ?_
   refine Exists.elim (gE s.zones j (by omega)) fun e2 he2 => ?_
   refine At.lVp 49 27 (.tmp 26) false 3 (s.zones.map encZon) j 0 true 3 (encZon e2) (.agg [.int .i64 e2.name, .int .i64 e2.off, .int .i64 e2.rule]) (mapGet he2) ?_
   refine At.z 3 ?_
   refine AW.seq ?_
   refine AW.gD Tryz_mix ?_
   refine At.a 1 ?_
   refine At.c (impl_zoneOk_spec  e2 ) Tryz.call24 true [] [] [] trivial ?_
   refine At.a 2 ?_
   by_cases h4 : (zoneOk e2) = true
   · refine At.sB 31 (!(zoneOk e2)) false (sayNF (sayB h4)) ?_
     refine At.a 3 ?_
     by_cases h5 : (j : Int) > 0
     · refine At.sB 34 _ _ (sayT h5) ?_
       refine At.a 4 ?_
       refine At.sI 38 ((j : Int) - 1) (by omega) ?_
       refine At.iSl 25 39 (.tmp 36) (.tmp 38) false 3 (s.zones.map encZon) .i64 ((j : Int) - 1) 49 (by omega) (by simp only [List.length_map]; omega) ?_
       refine At.a 1 ?_
       refine Exists.elim (gE s.zones (((j : Int) - 1).toNat) (by omega)) fun e3 he3 => ?_
       refine At.lVp 3 41 (.tmp 40) false 3 (s.zones.map encZon) (((j : Int) - 1).toNat) 0 false 1 (encZon e3) (.int .i64 e3.name) (mapGet he3) ?_
       refine At.a 6 ?_
       by_cases h6 : e3.name ≥ e2.name
       · refine At.sB 47 _ _ (sayT h6) ?_
         refine At.zD 11 ?_
         refine AW.cond true (by kernel_rfl) (fun _ => ?_) (fun h => by cases h)
         refine AW.q 1 ?_
         exact AW.ret (rf (k1 (K_impl_SourceOk _ s) (show (false) = (srcOk s) from by exact (srcOk_zb (hR2.trans (zones_bad (by assumption) (by first | exact zone1_f1 (hR1.trans (rules_end (by omega))) (by assumption) | exact zone1_f3 (by assumption) (by assumption) | exact zone1_f2 (by rw [prevZ (by assumption) (by assumption)]; omega))))).symm) (KF.n [])))
       refine At.sB 47 _ _ (sayF h6) ?_
       refine At.a 4 ?_
       by_cases h7 : e2.rule = 0
       · refine At.sB 51 _ _ (sayUF h7) ?_
         refine At.zD 7 ?_
         refine AW.cond false (by kernel_rfl) (fun h => by cases h) (fun _ => ?_)
         refine AW.skip ?_
         refine AW.g ?_
         refine At.a 1 ?_
         refine At.sI 59 ((j : Int) + 1) (by omega) ?_
         refine At.z 1 ?_
         exact ⟨j + 1, ⟨by omega, hR2.trans (zones_step (by assumption) (zone1_tI (hR1.trans (rules_end (by omega))) (by assumption) (by rw [prevZ (by assumption) (by assumption)]; omega) (by exact .inl (by assumption))))⟩, (by omega), Sub.o [(101, 101)] [false, true, false, false, false, false, false, false, false, false, false, false, false, false, false, false, false, false, false, false, false, true, true, true]⟩
       refine At.sB 51 _ _ (sayUT h7) ?_
       refine At.a 3 ?_
       refine At.c (impl_hasRule_spec  s e2.rule ) Tryz.call25 true [] [] [] trivial ?_
       refine At.zD 3 ?_
       refine AW.cNB (hasR e2.rule s.rules) (fun h8 => ?_) (fun h8 => ?_)
       · refine AW.q 1 ?_
         exact AW.ret (rf (k1 (K_impl_SourceOk _ s) (show (false) = (srcOk s) from by exact (srcOk_zb (hR2.trans (zones_bad (by assumption) (by first | exact zone1_f1 (hR1.trans (rules_end (by omega))) (by assumption) | exact zone1_f3 (by assumption) (by assumption) | exact zone1_f2 (by rw [prevZ (by assumption) (by assumption)]; omega))))).symm) (KF.n [])))
       refine AW.skip ?_
       refine AW.g ?_
       refine At.a 1 ?_
       refine At.sI 59 ((j : Int) + 1) (by omega) ?_
       refine At.z 1 ?_
       exact ⟨j + 1, ⟨by omega, hR2.trans (zones_step (by assumption) (zone1_tI (hR1.trans (rules_end (by omega))) (by assumption) (by rw [prevZ (by assumption) (by assumption)]; omega) (by exact .inr (by assumption))))⟩, (by omega), Sub.o [(101, 101)] [false, true, false, false, false, false, false, false, false, false, false, false, false, false, false, false, false, false, false, false, false, true, true, true]⟩
     refine At.sB 34 _ _ (sayF h5) ?_
     refine At.a 17 ?_
     by_cases h9 : e2.rule = 0
     · refine At.sB 51 _ _ (sayUF h9) ?_
       refine At.zD 7 ?_
       refine AW.cond false (by kernel_rfl) (fun h => by cases h) (fun _ => ?_)
       refine AW.skip ?_
       refine AW.g ?_
       refine At.a 1 ?_
       refine At.sI 59 ((j : Int) + 1) (by omega) ?_
       refine At.z 1 ?_
       exact ⟨j + 1, ⟨by omega, hR2.trans (zones_step (by assumption) (zone1_tI (hR1.trans (rules_end (by omega))) (by assumption) (by rw [prevZ0 (by assumption)]; have := zoneOk_name (by assumption); omega) (by exact .inl (by assumption))))⟩, (by omega), Sub.o [(101, 101)] [false, true, false, false, false, false, false, false, false, false, false, false, false, false, false, false, false, false, false, false, false, true, true, true]⟩
     refine At.sB 51 _ _ (sayUT h9) ?_
     refine At.a 3 ?_
     refine At.c (impl_hasRule_spec  s e2.rule ) Tryz.call25 true [] [] [] trivial ?_
     refine At.zD 3 ?_
     refine AW.cNB (hasR e2.rule s.rules) (fun h10 => ?_) (fun h10 => ?_)
     · refine AW.q 1 ?_
       exact AW.ret (rf (k1 (K_impl_SourceOk _ s) (show (false) = (srcOk s) from by exact (srcOk_zb (hR2.trans (zones_bad (by assumption) (by first | exact zone1_f1 (hR1.trans (rules_end (by omega))) (by assumption) | exact zone1_f3 (by assumption) (by assumption) | exact zone1_f2 (by rw [prevZ (by assumption) (by assumption)]; omega))))).symm) (KF.n [])))
     refine AW.skip ?_
     refine AW.g ?_
     refine At.a 1 ?_
     refine At.sI 59 ((j : Int) + 1) (by omega) ?_
     refine At.z 1 ?_
     exact ⟨j + 1, ⟨by omega, hR2.trans (zones_step (by assumption) (zone1_tI (hR1.trans (rules_end (by omega))) (by assumption) (by rw [prevZ0 (by assumption)]; have := zoneOk_name (by assumption); omega) (by exact .inr (by assumption))))⟩, (by omega), Sub.o [(101, 101)] [false, true, false, false, false, false, false, false, false, false, false, false, false, false, false, false, false, false, false, false, false, true, true, true]⟩
   refine At.sB 31 (!(zoneOk e2)) true (sayNT (sayB (Bool.eq_false_iff.2 h4))) ?_
   replace h4 := Bool.eq_false_iff.2 h4
   refine At.zD 27 ?_
   refine AW.cond true (by kernel_rfl) (fun _ => ?_) (fun h => by cases h)
   refine AW.q 1 ?_
   exact AW.ret (rf (k1 (K_impl_SourceOk _ s) (show (false) = (srcOk s) from by exact (srcOk_zb (hR2.trans (zones_bad (by assumption) (by first | exact zone1_f1 (hR1.trans (rules_end (by omega))) (by assumption) | exact zone1_f3 (by assumption) (by assumption) | exact zone1_f2 (by rw [prevZ (by assumption) (by assumption)]; omega))))).symm) (KF.n [])))
 refine AW.exit ?_
 refine AW.seq ?_
 refine AW.r ?_
 refine At.a 3 ?_
 refine At.sL 62 encLnk s.links ?_
 refine At.z 1 ?_
 refine AW.block ?_
 refine AW.loopW (fun (i : Nat) => Go.Sy.mk [.un, .ptr 101 0 0, .un, .un, .un, .un, .un, .un, .un, .un, .un, .un, .un, .un, .un, .un, .un, .un, .un, .un, .un, .un, .un, .un, .un, .un, .un, .un, .un, .un, .un, .un, .un, .un, .un, .un, .un, .un, .un, .un, .un, .un, .un, .un, .un, .un, .un, .un, .un, .un, .un, .un, .un, .un, .un, .un, .un, .un, .un, .un, .un, .sl false 2 (s.links.map encLnk), .int .i64 (s.links.length : Int), .int .i64 (i : Int)] [(101, .box 28 [.sl false 9 (s.rules.map encRul), .sl false 3 (s.zones.map encZon), .sl false 2 (s.links.map encLnk)])]) (fun (i : Nat) => i ≤ s.links.length ∧ linksOk s.zones 0 s.links = linksOk s.zones (lastL (s.links.take i)) (s.links.drop i)) (fun (i : Nat) => s.links.length - i) 0 ⟨by omega, by rw [List.drop_zero]; rfl⟩ (Sub.o [(101, 101)] [false, true, false, false, false, false, false, false, false, false, false, false, false, false, false, false, false, false, false, false, false, false, false, false, false, false, false, false, false, false, false, false, false, false, false, false, false, false, false, false, false, false, false, false, false, false, false, false, false, false, false, false, false, false, false, false, false, false, false, false, false, true, true, true]) ?_
 rintro i ⟨hi, hR3⟩
 refine AW.q 1 ?_
 refine AW.seq ?_
 refine AW.cD ((i : Int) < (s.links.length : Int)) (fun h11 => ?_) (fun h11 => ?_)
 · refine AW.skip ?_
   refine AW.seq ?_
   refine AW.block ?_
   refine AW.r ?_
   refine At.a 1 ?_
   refine At.iSl 26 66 (.tmp 61) (.tmp 63) false 2 (s.links.map encLnk) .i64 (i : Int) 51 (by omega) (by simp only [List.length_map]; omega) ?_
   refine Exists.elim (gE s.links i (by omega)) fun e4 he4 => ?_
   refine At.lVp 51 67 (.tmp 66) false 2 (s.links.map encLnk) i 0 true 2 (encLnk e4) (.agg [.int .i64 e4.name, .int .i64 e4.to]) (mapGet he4) ?_
   refine At.z 3 ?_
   refine AW.seq ?_
   refine AW.gD Tryz_mix ?_
   refine At.a 2 ?_
   refine At.c (impl_isGreat_spec  e4.name ) Tryz.call26 true [] [] [] trivial ?_
   refine At.a 2 ?_
   by_cases h12 : (inR e4.name 65 90) = true
   · refine At.sB 72 (!(inR e4.name 65 90)) false (sayNF (sayB h12)) ?_
     have h12i := inR_iff.1 h12
     refine At.a 3 ?_
     by_cases h13 : (i : Int) > 0
     · refine At.sB 75 _ _ (sayT h13) ?_
       refine At.a 4 ?_
       refine At.sI 79 ((i : Int) - 1) (by omega) ?_
       refine At.iSl 26 80 (.tmp 77) (.tmp 79) false 2 (s.links.map encLnk) .i64 ((i : Int) - 1) 51 (by omega) (by simp only [List.length_map]; omega) ?_
       refine At.a 1 ?_
       refine Exists.elim (gE s.links (((i : Int) - 1).toNat) (by omega)) fun e5 he5 => ?_
       refine At.lVp 3 82 (.tmp 81) false 2 (s.links.map encLnk) (((i : Int) - 1).toNat) 0 false 1 (encLnk e5) (.int .i64 e5.name) (mapGet he5) ?_
       refine At.a 6 ?_
       by_cases h14 : e5.name ≥ e4.name
       · refine At.sB 88 _ _ (sayT h14) ?_
         refine At.zD 13 ?_
         refine AW.cond true (by kernel_rfl) (fun _ => ?_) (fun h => by cases h)
         refine AW.q 1 ?_
         exact AW.ret (rf (k1 (K_impl_SourceOk _ s) (show (false) = (srcOk s) from by exact (srcOk_lb (hR3.trans (links_bad (by assumption) (by first | exact link1_f1 (by assumption) | exact link1_f3 (by assumption) | exact link1_f4 (by assumption) | exact link1_f2 (by rw [prevL (by assumption) (by assumption)]; omega))))).symm) (KF.n [])))
       refine At.sB 88 _ _ (sayF h14) ?_
       refine At.a 3 ?_
       refine At.c (impl_zoneAt_spec  s e4.to ) Tryz.call27 true [] [] [] trivial ?_
       refine At.a 3 ?_
       by_cases h15 : (posZ e4.to s.zones 0) < 0
       · refine At.sB 95 _ _ (sayT h15) ?_
         refine At.zD 6 ?_
         refine AW.cond true (by kernel_rfl) (fun _ => ?_) (fun h => by cases h)
         refine AW.q 1 ?_
         exact AW.ret (rf (k1 (K_impl_SourceOk _ s) (show (false) = (srcOk s) from by exact (srcOk_lb (hR3.trans (links_bad (by assumption) (by first | exact link1_f1 (by assumption) | exact link1_f3 (by assumption) | exact link1_f4 (by assumption) | exact link1_f2 (by rw [prevL (by assumption) (by assumption)]; omega))))).symm) (KF.n [])))
       refine At.sB 95 _ _ (sayF h15) ?_
       refine At.a 3 ?_
       refine At.c (impl_zoneAt_spec  s e4.name ) Tryz.call27 true [] [] [] trivial ?_
       refine At.zD 2 ?_
       refine AW.cD ((posZ e4.name s.zones 0) ≥ 0) (fun h16 => ?_) (fun h16 => ?_)
       · refine AW.q 1 ?_
         exact AW.ret (rf (k1 (K_impl_SourceOk _ s) (show (false) = (srcOk s) from by exact (srcOk_lb (hR3.trans (links_bad (by assumption) (by first | exact link1_f1 (by assumption) | exact link1_f3 (by assumption) | exact link1_f4 (by assumption) | exact link1_f2 (by rw [prevL (by assumption) (by assumption)]; omega))))).symm) (KF.n [])))
       refine AW.skip ?_
       refine AW.g ?_
       refine At.a 1 ?_
       refine At.sI 102 ((i : Int) + 1) (by omega) ?_
       refine At.z 1 ?_
       exact ⟨i + 1, ⟨by omega, hR3.trans (links_step (by assumption) (link1_t (by assumption) (by rw [prevL (by assumption) (by assumption)]; omega) (by assumption) (by assumption)))⟩, (by omega), Sub.o [(101, 101)] [false, true, false, false, false, false, false, false, false, false, false, false, false, false, false, false, false, false, false, false, false, false, false, false, false, false, false, false, false, false, false, false, false, false, false, false, false, false, false, false, false, false, false, false, false, false, false, false, false, false, false, false, false, false, false, false, false, false, false, false, false, true, true, true]⟩
     refine At.sB 75 _ _ (sayF h13) ?_
     refine At.a 16 ?_
     refine At.c (impl_zoneAt_spec  s e4.to ) Tryz.call27 true [] [] [] trivial ?_
     refine At.a 3 ?_
     by_cases h17 : (posZ e4.to s.zones 0) < 0
     · refine At.sB 95 _ _ (sayT h17) ?_
       refine At.zD 6 ?_
       refine AW.cond true (by kernel_rfl) (fun _ => ?_) (fun h => by cases h)
       refine AW.q 1 ?_
       exact AW.ret (rf (k1 (K_impl_SourceOk _ s) (show (false) = (srcOk s) from by exact (srcOk_lb (hR3.trans (links_bad (by assumption) (by first | exact link1_f1 (by assumption) | exact link1_f3 (by assumption) | exact link1_f4 (by assumption) | exact link1_f2 (by rw [prevL (by assumption) (by assumption)]; omega))))).symm) (KF.n [])))
     refine At.sB 95 _ _ (sayF h17) ?_
     refine At.a 3 ?_
     refine At.c (impl_zoneAt_spec  s e4.name ) Tryz.call27 true [] [] [] trivial ?_
     refine At.zD 2 ?_
     refine AW.cD ((posZ e4.name s.zones 0) ≥ 0) (fun h18 => ?_) (fun h18 => ?_)
     · refine AW.q 1 ?_
       exact AW.ret (rf (k1 (K_impl_SourceOk _ s) (show (false) = (srcOk s) from by exact (srcOk_lb (hR3.trans (links_bad (by assumption) (by first | exact link1_f1 (by assumption) | exact link1_f3 (by assumption) | exact link1_f4 (by assumption) | exact link1_f2 (by rw [prevL (by assumption) (by assumption)]; omega))))).symm) (KF.n [])))
     refine AW.skip ?_
     refine AW.g ?_
     refine At.a 1 ?_
     refine At.sI 102 ((i : Int) + 1) (by omega) ?_
     refine At.z 1 ?_
     exact ⟨i + 1, ⟨by omega, hR3.trans (links_step (by assumption) (link1_t (by assumption) (by rw [prevL0 (by assumption)]; omega) (by assumption) (by assumption)))⟩, (by omega), Sub.o [(101, 101)] [false, true, false, false, false, false, false, false, false, false, false, false, false, false, false, false, false, false, false, false, false, false, false, false, false, false, false, false, false, false, false, false, false, false, false, false, false, false, false, false, false, false, false, false, false, false, false, false, false, false, false, false, false, false, false, false, false, false, false, false, false, true, true, true]⟩
   refine At.sB 72 (!(inR e4.name 65 90)) true (sayNT (sayB (Bool.eq_false_iff.2 h12))) ?_
   replace h12 := Bool.eq_false_iff.2 h12
   refine At.zD 29 ?_
   refine AW.cond true (by kernel_rfl) (fun _ => ?_) (fun h => by cases h)
   refine AW.q 1 ?_
   exact AW.ret (rf (k1 (K_impl_SourceOk _ s) (show (false) = (srcOk s) from by exact (srcOk_lb (hR3.trans (links_bad (by assumption) (by first | exact link1_f1 (by assumption) | exact link1_f3 (by assumption) | exact link1_f4 (by assumption) | exact link1_f2 (by rw [prevL (by assumption) (by assumption)]; omega))))).symm) (KF.n [])))
 refine AW.exit ?_
 refine AW.r ?_
 refine At.a 3 ?_
 refine At.sL 105 encRul s.rules ?_
 refine At.z 2 ?_
 exact AW.ret (rf (k1 (K_impl_SourceOk _ s) (show (decide ((s.rules.length : Int) ≤ 20)) = (srcOk s) from by exact srcOk_20 (hR1.trans (rules_end (by omega))) (hR2.trans (zones_end (by omega) _)) (hR3.trans (links_end (by omega) _))) (KF.n [])))
theorem impl_letter_spec  (n : Int) : FnSpec Tryz.prog 16 [.int .i64 n] [] (.str (strOf (letT n))) [] := by
 refine FnSpec.of 9 Tryz.func16 rfl Tryz.ntmps16 (by simp) (AW.weakK ?_)
 refine AW.q 1 ?_
 refine AW.seq ?_
 refine AW.q 2 ?_
 refine AW.cE n (0 : Int) (fun h1 => ?_) (fun h1 => ?_)
 · refine AW.q 1 ?_
   refine AW.ret ?_
   refine ⟨_, Sub.refl _ _, ?_⟩
   refine KF.conv (fun w => .str w) (fun w => []) (show ((⟨#[45]⟩ : ByteArray)) = (strOf (letT n)) from by unfold letT; first | (rw [if_pos (by assumption)]; rfl) | (rw [if_neg (by assumption)]; done)) ?_
   exact KF.n []
 refine AW.skip ?_
 refine AW.r ?_
 refine At.a 1 ?_
 refine At.conv (s := 3) (t := 5) (d := 6) (x := .tmp 5) (kd := .i64) (kd' := .u8) (a := n) (.int .u8 ((u8Of n).toNat : Int)) (by kernel_rfl) (by kernel_rfl) (by kernel_rfl) (by kernel_rfl) (sayByte _) ?_
 refine At.ll 7 5 1 107 (0, 6) (([(u8Of n)]).map encU8) ?_
 refine At.b2s (s := 22) (t := 9) (e := 5) (d := 8) (x := .tmp 7) (T := .ref 107) ([(u8Of n)]) [] (by kernel_rfl) (by kernel_rfl) (by kernel_rfl) (by kernel_rfl) ⟨by kernel_rfl, .inl ⟨rfl, (allP_encU8 _)⟩⟩ ?_
 refine At.z 1 ?_
 refine AW.ret ?_
 refine ⟨_, Sub.refl _ _, ?_⟩
 refine KF.conv (fun w => .str w) (fun w => []) (show (strOf ([(u8Of n)])) = (strOf (letT n)) from by unfold letT; first | (rw [if_pos (by assumption)]; rfl) | (rw [if_neg (by assumption)]; done)) ?_
 exact KF.n []
theorem impl_digits_spec  (n : Int) (hn : -9223372036854775808 ≤ n ∧ n ≤ 9223372036854775807) : FnSpecQ GB Tryz.prog 17 [.int .i64 n] (.str (strOf (Lib.itoa n))) := digits_q n hn
theorem impl_OnText_spec  (o : On) (ho : (-9223372036854775808 ≤ o.day ∧ o.day ≤ 9223372036854775807) ∧ (-9223372036854775808 ≤ o.week ∧ o.week ≤ 9223372036854775807)) : FnSpecQ GB Tryz.prog 18 [.agg [.int .i64 o.kind, .int .i64 o.day, .int .i64 o.week]] (.str (strOf (txO o))) := by
 have hl1 : (⟨#[108, 97, 115, 116]⟩ : ByteArray).size = 4 := rfl
 have hl2 : (⟨#[62, 61]⟩ : ByteArray).size = 2 := rfl
 have hid := Lib.itoa_length_le o.day (by omega) (by omega)
 have hiw := Lib.itoa_length_le o.week (by omega) (by omega)
 refine FnSpecQ.of 27 Tryz.func18 rfl Tryz.ntmps18 (by simp) (AW.weakK ?_)
 refine AW.q 2 ?_
 refine AW.seq ?_
 refine AW.r ?_
 refine At.a 1 ?_
 refine At.c (impl_OnOk_spec  o ) Tryz.call38 true [] [] [] trivial ?_
 refine At.z 1 ?_
 refine AW.cNB (onOk o) (fun h1 => ?_) (fun h1 => ?_)
 · refine AW.q 1 ?_
   refine AW.ret ?_
   refine ⟨_, Sub.refl _ _, ?_⟩
   refine KF.conv (fun w => .str w) (fun w => []) (show ((⟨#[]⟩ : ByteArray)) = (strOf (txO o)) from by exact tx_no (by assumption)) ?_
   exact KF.n []
 refine AW.skip ?_
 refine AW.seq ?_
 refine AW.q 2 ?_
 refine AW.block ?_
 refine AW.q 2 ?_
 refine AW.cE o.kind (1 : Int) (fun h2 => ?_) (fun h2 => ?_)
 · refine AW.r ?_
   refine At.a 2 ?_
   refine At.callQ glLasts rfl (impl_digits_spec  o.day (by omega)) Tryz.call17 true [] [] [] (by kernel_rfl) (by kernel_rfl) (by kernel_rfl) (by kernel_rfl) (by kernel_rfl) trivial ?_
   refine At.z 1 ?_
   refine AW.ret ?_
   refine ⟨_, Sub.refl _ _, ?_⟩
   refine KF.conv (fun w => .str w) (fun w => []) (show (strOf (Lib.itoa o.day)) = (strOf (txO o)) from by exact tx_1 (by assumption) (by assumption)) ?_
   exact KF.n []
 refine AW.q 2 ?_
 refine AW.cE o.kind (2 : Int) (fun h3 => ?_) (fun h3 => ?_)
 · refine AW.r ?_
   refine At.a 2 ?_
   refine At.callQ glLasts rfl (impl_digits_spec  o.week (by omega)) Tryz.call17 true [] [] [] (by kernel_rfl) (by kernel_rfl) (by kernel_rfl) (by kernel_rfl) (by kernel_rfl) trivial ?_
   refine At.cat (t := 9) (u := 9) (d := 18) (x := .const (.string ⟨#[108, 97, 115, 116]⟩)) (y := .tmp 17) (a := (⟨#[108, 97, 115, 116]⟩ : ByteArray)) (b := strOf (Lib.itoa o.week)) (by kernel_rfl) (by kernel_rfl) (by kernel_rfl) (by kernel_rfl) (by simp only [cat_size, strOf_size]; omega) ?_
   refine At.z 1 ?_
   refine AW.ret ?_
   refine ⟨_, Sub.refl _ _, ?_⟩
   refine KF.conv (fun w => .str w) (fun w => []) (show ((⟨#[108, 97, 115, 116]⟩ : ByteArray) ++ (strOf (Lib.itoa o.week))) = (strOf (txO o)) from by exact tx_2 (by assumption) (by assumption) (by assumption)) ?_
   exact KF.n []
 refine AW.skip ?_
 refine AW.seq ?_
 refine AW.gD Tryz_mix ?_
 refine At.a 2 ?_
 refine At.callQ glLasts rfl (impl_digits_spec  o.week (by omega)) Tryz.call17 true [] [] [] (by kernel_rfl) (by kernel_rfl) (by kernel_rfl) (by kernel_rfl) (by kernel_rfl) trivial ?_
 refine At.cat (t := 9) (u := 9) (d := 22) (x := .tmp 21) (y := .const (.string ⟨#[62, 61]⟩)) (a := strOf (Lib.itoa o.week)) (b := (⟨#[62, 61]⟩ : ByteArray)) (by kernel_rfl) (by kernel_rfl) (by kernel_rfl) (by kernel_rfl) (by simp only [cat_size, strOf_size]; omega) ?_
 refine At.a 2 ?_
 refine At.callQ glLasts rfl (impl_digits_spec  o.day (by omega)) Tryz.call17 true [] [] [] (by kernel_rfl) (by kernel_rfl) (by kernel_rfl) (by kernel_rfl) (by kernel_rfl) trivial ?_
 refine At.cat (t := 9) (u := 9) (d := 26) (x := .tmp 22) (y := .tmp 25) (a := (strOf (Lib.itoa o.week)) ++ (⟨#[62, 61]⟩ : ByteArray)) (b := strOf (Lib.itoa o.day)) (by kernel_rfl) (by kernel_rfl) (by kernel_rfl) (by kernel_rfl) (by simp only [cat_size, strOf_size]; omega) ?_
 refine At.zD 1 ?_
 refine AW.ret ?_
 refine ⟨_, Sub.refl _ _, ?_⟩
 refine KF.conv (fun w => .str w) (fun w => []) (show (((strOf (Lib.itoa o.week)) ++ (⟨#[62, 61]⟩ : ByteArray)) ++ (strOf (Lib.itoa o.day))) = (strOf (txO o)) from by exact tx_3 (by assumption) (by assumption) (by assumption)) ?_
 exact KF.n []
theorem strings_Join_spec  (a : List ByteArray) (sep : ByteArray) (hl : a.length ≤ 1048576) (hc : (Lib.join (a.map (·.data.toList)) sep.data.toList).length ≤ 1048576) : FnSpec Tryz.prog 19 [.sl false 1 (a.map encS), .str sep] [] (.str (strOf (Lib.join (a.map (·.data.toList)) sep.data.toList))) [] := join_q a sep hl hc
def K_impl_SourcePrint (rs : List ResultVar) (s : Srce) (w0_ : ByteArray) (w1_ : Bool) : Exit → Sg → Prop := KF Tryz.prog 0 rs (.tup [.str w0_, .bool w1_]) []
theorem impl_SourcePrint_spec  (s : Srce) (hs : (s.rules.length ≤ 1048576 ∧ s.zones.length ≤ 1048576 ∧ s.links.length ≤ 1048576)) : FnSpecQ GB Tryz.prog 6 [.agg [.sl false 9 (s.rules.map encRul), .sl false 3 (s.zones.map encZon), .sl false 2 (s.links.map encLnk)]] (.tup [.str (strOf (srcP s).1), .bool ((srcP s).2)]) := by
 have hb0 : (⟨#[45]⟩ : ByteArray).size = 1 := rfl
 have hb1 : (⟨#[32]⟩ : ByteArray).size = 1 := rfl
 have hb2 : (⟨#[10]⟩ : ByteArray).size = 1 := rfl
 have hb3 : (⟨#[114, 117, 108, 101, 32]⟩ : ByteArray).size = 5 := rfl
 have hb4 : (⟨#[122, 111, 110, 101, 32]⟩ : ByteArray).size = 5 := rfl
 have hb5 : (⟨#[108, 105, 110, 107, 32]⟩ : ByteArray).size = 5 := rfl
 refine FnSpecQ.of 99 Tryz.func6 rfl Tryz.ntmps6 (by simp) (AW.weakK ?_)
 refine AW.q 3 ?_
 refine AW.seq ?_
 refine AW.r ?_
 refine At.a 1 ?_
 refine At.c (impl_SourceOk_spec  s (by omega)) Tryz.call8 true [] [] [] trivial ?_
 refine At.z 1 ?_
 refine AW.cNB (srcOk s) (fun h1 => ?_) (fun h1 => ?_)
 · refine AW.q 2 ?_
   exact AW.ret (rf (k2 (K_impl_SourcePrint _ s) (show ((⟨#[]⟩ : ByteArray)) = (strOf (srcP s).1) from by rw [srcP_no (by assumption)]; first | done | rfl) (show (false) = ((srcP s).2) from by rw [srcP_no (by assumption)]; first | done | rfl) (KF.n [])))
 obtain ⟨q1, q2, q3, q4⟩ := srcOk_iff.1 h1
 have q5 := zones_few q3
 have q6 := links_few q4
 refine AW.skip ?_
 refine AW.q 1 ?_
 refine AW.seq ?_
 refine AW.r ?_
 refine At.a 3 ?_
 refine At.sL 17 encRul s.rules ?_
 refine At.z 1 ?_
 refine AW.block ?_
 refine AW.loopW (fun (x : Nat × ByteArray) => match x with | (k, o) => Go.Sy.mk [.un, .ptr 101 0 0, .un, .un, .str o, .un, .un, .un, .un, .un, .un, .un, .un, .un, .un, .un, .sl false 9 (s.rules.map encRul), .int .i64 (s.rules.length : Int), .int .i64 (k : Int)] [(101, .box 28 [.sl false 9 (s.rules.map encRul), .sl false 3 (s.zones.map encZon), .sl false 2 (s.links.map encLnk)])]) (fun (x : Nat × ByteArray) => match x with | (k, o) => (k ≤ s.rules.length ∧ o.size ≤ 0 + 200 * k) ∧ o = strOf (([] : List UInt8) ++ (s.rules.take k).flatMap ruleT)) (fun (x : Nat × ByteArray) => match x with | (k, o) => s.rules.length - k) (0, ⟨#[]⟩) ⟨⟨by omega, by decide⟩, rfl⟩ (Sub.o [(101, 101)] [false, true, false, false, true, false, false, false, false, false, false, false, false, false, false, false, true, true, true]) ?_
 rintro ⟨k, o⟩ ⟨hsk, hRk⟩
 refine AW.q 1 ?_
 refine AW.seq ?_
 refine AW.cD ((k : Int) < (s.rules.length : Int)) (fun h2 => ?_) (fun h2 => ?_)
 · refine AW.skip ?_
   refine AW.seq ?_
   refine AW.block ?_
   refine AW.r ?_
   refine At.iSl 24 20 (.tmp 16) (.tmp 18) false 9 (s.rules.map encRul) .i64 (k : Int) 43 (by omega) (by simp only [List.length_map]; omega) ?_
   refine Exists.elim (gE s.rules k (by omega)) fun e1 he1 => ?_
   have hoke1 := rulesOk_mem q2 he1
   have hlne1 := ruleLens hoke1
   have hnue1 := ruleNums hoke1
   have hnne1 := onOk_nums hnue1.2.2.2.1
   refine At.lVp 43 21 (.tmp 20) false 9 (s.rules.map encRul) k 0 true 9 (encRul e1) (.agg [.int .i64 e1.name, .int .i64 e1.from_, .int .i64 e1.to, .int .i64 e1.month, .int .i64 e1.on.kind, .int .i64 e1.on.day, .int .i64 e1.on.week, .int .i64 e1.at_, .int .i64 e1.save]) (mapGet he1) ?_
   refine At.z 2 ?_
   refine AW.seq ?_
   refine AW.gD Tryz_mix ?_
   refine At.a 2 ?_
   refine At.c (impl_letter_spec  e1.name ) Tryz.call16 true [] [] [] trivial ?_
   refine At.a 2 ?_
   refine At.callQ glLasts rfl (impl_digits_spec  e1.from_ (by omega)) Tryz.call17 true [] [] [] (by kernel_rfl) (by kernel_rfl) (by kernel_rfl) (by kernel_rfl) (by kernel_rfl) trivial ?_
   refine At.a 2 ?_
   refine At.callQ glLasts rfl (impl_digits_spec  e1.to (by omega)) Tryz.call17 true [] [] [] (by kernel_rfl) (by kernel_rfl) (by kernel_rfl) (by kernel_rfl) (by kernel_rfl) trivial ?_
   refine At.a 2 ?_
   refine At.callQ glLasts rfl (impl_digits_spec  e1.month (by omega)) Tryz.call17 true [] [] [] (by kernel_rfl) (by kernel_rfl) (by kernel_rfl) (by kernel_rfl) (by kernel_rfl) trivial ?_
   refine At.a 2 ?_
   refine At.callQ glLasts rfl (impl_OnText_spec  e1.on (by omega)) Tryz.call18 true [] [] [] (by kernel_rfl) (by kernel_rfl) (by kernel_rfl) (by kernel_rfl) (by kernel_rfl) trivial ?_
   refine At.a 2 ?_
   refine At.callQ glLasts rfl (impl_digits_spec  e1.at_ (by omega)) Tryz.call17 true [] [] [] (by kernel_rfl) (by kernel_rfl) (by kernel_rfl) (by kernel_rfl) (by kernel_rfl) trivial ?_
   refine At.a 2 ?_
   refine At.callQ glLasts rfl (impl_digits_spec  e1.save (by omega)) Tryz.call17 true [] [] [] (by kernel_rfl) (by kernel_rfl) (by kernel_rfl) (by kernel_rfl) (by kernel_rfl) trivial ?_
   refine At.ll 43 9 1 143 (0, 6) (([(⟨#[114, 117, 108, 101]⟩ : ByteArray), strOf (letT e1.name), strOf (Lib.itoa e1.from_), strOf (Lib.itoa e1.to), strOf (Lib.itoa e1.month), strOf (txO e1.on), strOf (Lib.itoa e1.at_), strOf (Lib.itoa e1.save)]).map encS) ?_
   refine At.zD 1 ?_
   refine AW.g ?_
   refine At.a 2 ?_
   refine At.c (strings_Join_spec  ([(⟨#[114, 117, 108, 101]⟩ : ByteArray), strOf (letT e1.name), strOf (Lib.itoa e1.from_), strOf (Lib.itoa e1.to), strOf (Lib.itoa e1.month), strOf (txO e1.on), strOf (Lib.itoa e1.at_), strOf (Lib.itoa e1.save)]) (⟨#[32]⟩ : ByteArray) (by simp) (Nat.le_trans (join_len (by assumption)) (by decide))) Tryz.call19 false [] [] [(143, 1, (([(⟨#[114, 117, 108, 101]⟩ : ByteArray), strOf (letT e1.name), strOf (Lib.itoa e1.from_), strOf (Lib.itoa e1.to), strOf (Lib.itoa e1.month), strOf (txO e1.on), strOf (Lib.itoa e1.at_), strOf (Lib.itoa e1.save)]).map encS))] ⟨rfl, ⟨9, (([(⟨#[114, 117, 108, 101]⟩ : ByteArray), strOf (letT e1.name), strOf (Lib.itoa e1.from_), strOf (Lib.itoa e1.to), strOf (Lib.itoa e1.month), strOf (txO e1.on), strOf (Lib.itoa e1.at_), strOf (Lib.itoa e1.save)]).map encS), by kernel_rfl, FrzIs.same (allP_encS _)⟩, trivial⟩ ?_
   have hjl : ((Lib.join (([(⟨#[114, 117, 108, 101]⟩ : ByteArray), strOf (letT e1.name), strOf (Lib.itoa e1.from_), strOf (Lib.itoa e1.to), strOf (Lib.itoa e1.month), strOf (txO e1.on), strOf (Lib.itoa e1.at_), strOf (Lib.itoa e1.save)]).map (·.data.toList)) [32])).length ≤ 199 := join_len (by assumption)
   refine At.cat (t := 9) (u := 9) (d := 47) (x := .tmp 46) (y := .const (.string ⟨#[10]⟩)) (a := strOf (Lib.join (([(⟨#[114, 117, 108, 101]⟩ : ByteArray), strOf (letT e1.name), strOf (Lib.itoa e1.from_), strOf (Lib.itoa e1.to), strOf (Lib.itoa e1.month), strOf (txO e1.on), strOf (Lib.itoa e1.at_), strOf (Lib.itoa e1.save)]).map (·.data.toList)) (⟨#[32]⟩ : ByteArray).data.toList)) (b := (⟨#[10]⟩ : ByteArray)) (by kernel_rfl) (by kernel_rfl) (by kernel_rfl) (by kernel_rfl) (by simp only [cat_size, strOf_size]; omega) ?_
   refine At.cat (t := 9) (u := 9) (d := 48) (x := .tmp 44) (y := .tmp 47) (a := o) (b := (strOf (Lib.join (([(⟨#[114, 117, 108, 101]⟩ : ByteArray), strOf (letT e1.name), strOf (Lib.itoa e1.from_), strOf (Lib.itoa e1.to), strOf (Lib.itoa e1.month), strOf (txO e1.on), strOf (Lib.itoa e1.at_), strOf (Lib.itoa e1.save)]).map (·.data.toList)) (⟨#[32]⟩ : ByteArray).data.toList)) ++ (⟨#[10]⟩ : ByteArray)) (by kernel_rfl) (by kernel_rfl) (by kernel_rfl) (by kernel_rfl) (by simp only [cat_size, strOf_size]; omega) ?_
   refine At.z 1 ?_
   refine AW.g ?_
   refine At.a 1 ?_
   refine At.sI 49 ((k : Int) + 1) (by omega) ?_
   refine At.z 1 ?_
   exact ⟨(k + 1, (o ++ ((strOf (Lib.join (([(⟨#[114, 117, 108, 101]⟩ : ByteArray), strOf (letT e1.name), strOf (Lib.itoa e1.from_), strOf (Lib.itoa e1.to), strOf (Lib.itoa e1.month), strOf (txO e1.on), strOf (Lib.itoa e1.at_), strOf (Lib.itoa e1.save)]).map (·.data.toList)) (⟨#[32]⟩ : ByteArray).data.toList)) ++ (⟨#[10]⟩ : ByteArray)))), ⟨⟨by omega, by simp only [cat_size, strOf_size]; omega⟩, rule_stepI (by assumption) hRk⟩, (by simp only; omega), Sub.o [(101, 101)] [false, true, false, false, true, false, false, false, false, false, false, false, false, false, false, false, true, true, true]⟩
 refine AW.exit ?_
 refine AW.seq ?_
 refine AW.r ?_
 refine At.a 3 ?_
 refine At.sL 52 encZon s.zones ?_
 refine At.z 1 ?_
 refine AW.block ?_
 refine AW.loopW (fun (x : Nat × ByteArray) => match x with | (j, o2) => Go.Sy.mk [.un, .ptr 101 0 0, .un, .un, .str o2, .un, .un, .un, .un, .un, .un, .un, .un, .un, .un, .un, .un, .un, .un, .un, .un, .un, .un, .un, .un, .un, .un, .un, .un, .un, .un, .un, .un, .un, .un, .un, .un, .un, .un, .un, .un, .un, .un, .un, .un, .un, .un, .un, .un, .un, .un, .sl false 3 (s.zones.map encZon), .int .i64 (s.zones.length : Int), .int .i64 (j : Int)] [(101, .box 28 [.sl false 9 (s.rules.map encRul), .sl false 3 (s.zones.map encZon), .sl false 2 (s.links.map encLnk)])]) (fun (x : Nat × ByteArray) => match x with | (j, o2) => (j ≤ s.zones.length ∧ o2.size ≤ 4000 + 60 * j) ∧ o2 = strOf ((([] : List UInt8) ++ s.rules.flatMap ruleT) ++ (s.zones.take j).flatMap zoneT)) (fun (x : Nat × ByteArray) => match x with | (j, o2) => s.zones.length - j) (0, o) ⟨⟨by omega, by omega⟩, base_next hRk (by omega)⟩ (Sub.o [(101, 101)] [false, true, false, false, true, false, false, false, false, false, false, false, false, false, false, false, false, false, false, false, false, false, false, false, false, false, false, false, false, false, false, false, false, false, false, false, false, false, false, false, false, false, false, false, false, false, false, false, false, false, false, true, true, true]) ?_
 rintro ⟨j, o2⟩ ⟨hsj, hRj⟩
 refine AW.q 1 ?_
 refine AW.seq ?_
 refine AW.cD ((j : Int) < (s.zones.length : Int)) (fun h3 => ?_) (fun h3 => ?_)
 · refine AW.skip ?_
   refine AW.seq ?_
   refine AW.block ?_
   refine AW.r ?_
   refine At.iSl 25 55 (.tmp 51) (.tmp 53) false 3 (s.zones.map encZon) .i64 (j : Int) 49 (by omega) (by simp only [List.length_map]; omega) ?_
   refine Exists.elim (gE s.zones j (by omega)) fun e2 he2 => ?_
   have hlne2 := zoneLens q3 he2
   refine At.lVp 49 56 (.tmp 55) false 3 (s.zones.map encZon) j 0 true 3 (encZon e2) (.agg [.int .i64 e2.name, .int .i64 e2.off, .int .i64 e2.rule]) (mapGet he2) ?_
   refine At.z 2 ?_
   refine AW.gD Tryz_mix ?_
   refine At.a 3 ?_
   refine At.c (impl_letter_spec  e2.name ) Tryz.call16 true [] [] [] trivial ?_
   refine At.cat (t := 9) (u := 9) (d := 61) (x := .const (.string ⟨#[122, 111, 110, 101, 32]⟩)) (y := .tmp 60) (a := (⟨#[122, 111, 110, 101, 32]⟩ : ByteArray)) (b := strOf (letT e2.name)) (by kernel_rfl) (by kernel_rfl) (by kernel_rfl) (by kernel_rfl) (by simp only [cat_size, strOf_size]; omega) ?_
   refine At.cat (t := 9) (u := 9) (d := 62) (x := .tmp 61) (y := .const (.string ⟨#[32]⟩)) (a := (⟨#[122, 111, 110, 101, 32]⟩ : ByteArray) ++ (strOf (letT e2.name))) (b := (⟨#[32]⟩ : ByteArray)) (by kernel_rfl) (by kernel_rfl) (by kernel_rfl) (by kernel_rfl) (by simp only [cat_size, strOf_size]; omega) ?_
   refine At.a 2 ?_
   refine At.callQ glLasts rfl (impl_digits_spec  e2.off (by omega)) Tryz.call17 true [] [] [] (by kernel_rfl) (by kernel_rfl) (by kernel_rfl) (by kernel_rfl) (by kernel_rfl) trivial ?_
   refine At.cat (t := 9) (u := 9) (d := 66) (x := .tmp 62) (y := .tmp 65) (a := ((⟨#[122, 111, 110, 101, 32]⟩ : ByteArray) ++ (strOf (letT e2.name))) ++ (⟨#[32]⟩ : ByteArray)) (b := strOf (Lib.itoa e2.off)) (by kernel_rfl) (by kernel_rfl) (by kernel_rfl) (by kernel_rfl) (by simp only [cat_size, strOf_size]; omega) ?_
   refine At.cat (t := 9) (u := 9) (d := 67) (x := .tmp 66) (y := .const (.string ⟨#[32]⟩)) (a := (((⟨#[122, 111, 110, 101, 32]⟩ : ByteArray) ++ (strOf (letT e2.name))) ++ (⟨#[32]⟩ : ByteArray)) ++ (strOf (Lib.itoa e2.off))) (b := (⟨#[32]⟩ : ByteArray)) (by kernel_rfl) (by kernel_rfl) (by kernel_rfl) (by kernel_rfl) (by simp only [cat_size, strOf_size]; omega) ?_
   refine At.a 2 ?_
   refine At.c (impl_letter_spec  e2.rule ) Tryz.call16 true [] [] [] trivial ?_
   refine At.cat (t := 9) (u := 9) (d := 71) (x := .tmp 67) (y := .tmp 70) (a := ((((⟨#[122, 111, 110, 101, 32]⟩ : ByteArray) ++ (strOf (letT e2.name))) ++ (⟨#[32]⟩ : ByteArray)) ++ (strOf (Lib.itoa e2.off))) ++ (⟨#[32]⟩ : ByteArray)) (b := strOf (letT e2.rule)) (by kernel_rfl) (by kernel_rfl) (by kernel_rfl) (by kernel_rfl) (by simp only [cat_size, strOf_size]; omega) ?_
   refine At.cat (t := 9) (u := 9) (d := 72) (x := .tmp 71) (y := .const (.string ⟨#[10]⟩)) (a := (((((⟨#[122, 111, 110, 101, 32]⟩ : ByteArray) ++ (strOf (letT e2.name))) ++ (⟨#[32]⟩ : ByteArray)) ++ (strOf (Lib.itoa e2.off))) ++ (⟨#[32]⟩ : ByteArray)) ++ (strOf (letT e2.rule))) (b := (⟨#[10]⟩ : ByteArray)) (by kernel_rfl) (by kernel_rfl) (by kernel_rfl) (by kernel_rfl) (by simp only [cat_size, strOf_size]; omega) ?_
   refine At.cat (t := 9) (u := 9) (d := 73) (x := .tmp 57) (y := .tmp 72) (a := o2) (b := ((((((⟨#[122, 111, 110, 101, 32]⟩ : ByteArray) ++ (strOf (letT e2.name))) ++ (⟨#[32]⟩ : ByteArray)) ++ (strOf (Lib.itoa e2.off))) ++ (⟨#[32]⟩ : ByteArray)) ++ (strOf (letT e2.rule))) ++ (⟨#[10]⟩ : ByteArray)) (by kernel_rfl) (by kernel_rfl) (by kernel_rfl) (by kernel_rfl) (by simp only [cat_size, strOf_size]; omega) ?_
   refine At.zD 1 ?_
   refine AW.g ?_
   refine At.a 1 ?_
   refine At.sI 74 ((j : Int) + 1) (by omega) ?_
   refine At.z 1 ?_
   exact ⟨(j + 1, (o2 ++ (((((((⟨#[122, 111, 110, 101, 32]⟩ : ByteArray) ++ (strOf (letT e2.name))) ++ (⟨#[32]⟩ : ByteArray)) ++ (strOf (Lib.itoa e2.off))) ++ (⟨#[32]⟩ : ByteArray)) ++ (strOf (letT e2.rule))) ++ (⟨#[10]⟩ : ByteArray)))), ⟨⟨by omega, by simp only [cat_size, strOf_size]; omega⟩, zone_stepI (by assumption) hRj⟩, (by simp only; omega), Sub.o [(101, 101)] [false, true, false, false, true, false, false, false, false, false, false, false, false, false, false, false, false, false, false, false, false, false, false, false, false, false, false, false, false, false, false, false, false, false, false, false, false, false, false, false, false, false, false, false, false, false, false, false, false, false, false, true, true, true]⟩
 refine AW.exit ?_
 refine AW.seq ?_
 refine AW.r ?_
 refine At.a 3 ?_
 refine At.sL 77 encLnk s.links ?_
 refine At.z 1 ?_
 refine AW.block ?_
 refine AW.loopW (fun (x : Nat × ByteArray) => match x with | (i, o3) => Go.Sy.mk [.un, .un, .un, .un, .str o3, .un, .un, .un, .un, .un, .un, .un, .un, .un, .un, .un, .un, .un, .un, .un, .un, .un, .un, .un, .un, .un, .un, .un, .un, .un, .un, .un, .un, .un, .un, .un, .un, .un, .un, .un, .un, .un, .un, .un, .un, .un, .un, .un, .un, .un, .un, .un, .un, .un, .un, .un, .un, .un, .un, .un, .un, .un, .un, .un, .un, .un, .un, .un, .un, .un, .un, .un, .un, .un, .un, .un, .sl false 2 (s.links.map encLnk), .int .i64 (s.links.length : Int), .int .i64 (i : Int)] []) (fun (x : Nat × ByteArray) => match x with | (i, o3) => (i ≤ s.links.length ∧ o3.size ≤ 5600 + 40 * i) ∧ o3 = strOf (((([] : List UInt8) ++ s.rules.flatMap ruleT) ++ s.zones.flatMap zoneT) ++ (s.links.take i).flatMap linkT)) (fun (x : Nat × ByteArray) => match x with | (i, o3) => s.links.length - i) (0, o2) ⟨⟨by omega, by omega⟩, base_next hRj (by omega)⟩ (Sub.o [] [false, false, false, false, true, false, false, false, false, false, false, false, false, false, false, false, false, false, false, false, false, false, false, false, false, false, false, false, false, false, false, false, false, false, false, false, false, false, false, false, false, false, false, false, false, false, false, false, false, false, false, false, false, false, false, false, false, false, false, false, false, false, false, false, false, false, false, false, false, false, false, false, false, false, false, false, true, true, true]) ?_
 rintro ⟨i, o3⟩ ⟨hsi, hRi⟩
 refine AW.q 1 ?_
 refine AW.seq ?_
 refine AW.cD ((i : Int) < (s.links.length : Int)) (fun h4 => ?_) (fun h4 => ?_)
 · refine AW.skip ?_
   refine AW.seq ?_
   refine AW.block ?_
   refine AW.r ?_
   refine At.iSl 26 80 (.tmp 76) (.tmp 78) false 2 (s.links.map encLnk) .i64 (i : Int) 51 (by omega) (by simp only [List.length_map]; omega) ?_
   refine Exists.elim (gE s.links i (by omega)) fun e3 he3 => ?_
   have hlne3 := letT_len e3.name
   have hloe3 := letT_len e3.to
   refine At.lVp 51 81 (.tmp 80) false 2 (s.links.map encLnk) i 0 true 2 (encLnk e3) (.agg [.int .i64 e3.name, .int .i64 e3.to]) (mapGet he3) ?_
   refine At.z 2 ?_
   refine AW.gD Tryz_mix ?_
   refine At.a 3 ?_
   refine At.c (impl_letter_spec  e3.name ) Tryz.call16 true [] [] [] trivial ?_
   refine At.cat (t := 9) (u := 9) (d := 86) (x := .const (.string ⟨#[108, 105, 110, 107, 32]⟩)) (y := .tmp 85) (a := (⟨#[108, 105, 110, 107, 32]⟩ : ByteArray)) (b := strOf (letT e3.name)) (by kernel_rfl) (by kernel_rfl) (by kernel_rfl) (by kernel_rfl) (by simp only [cat_size, strOf_size]; omega) ?_
   refine At.cat (t := 9) (u := 9) (d := 87) (x := .tmp 86) (y := .const (.string ⟨#[32]⟩)) (a := (⟨#[108, 105, 110, 107, 32]⟩ : ByteArray) ++ (strOf (letT e3.name))) (b := (⟨#[32]⟩ : ByteArray)) (by kernel_rfl) (by kernel_rfl) (by kernel_rfl) (by kernel_rfl) (by simp only [cat_size, strOf_size]; omega) ?_
   refine At.a 2 ?_
   refine At.c (impl_letter_spec  e3.to ) Tryz.call16 true [] [] [] trivial ?_
   refine At.cat (t := 9) (u := 9) (d := 91) (x := .tmp 87) (y := .tmp 90) (a := ((⟨#[108, 105, 110, 107, 32]⟩ : ByteArray) ++ (strOf (letT e3.name))) ++ (⟨#[32]⟩ : ByteArray)) (b := strOf (letT e3.to)) (by kernel_rfl) (by kernel_rfl) (by kernel_rfl) (by kernel_rfl) (by simp only [cat_size, strOf_size]; omega) ?_
   refine At.cat (t := 9) (u := 9) (d := 92) (x := .tmp 91) (y := .const (.string ⟨#[10]⟩)) (a := (((⟨#[108, 105, 110, 107, 32]⟩ : ByteArray) ++ (strOf (letT e3.name))) ++ (⟨#[32]⟩ : ByteArray)) ++ (strOf (letT e3.to))) (b := (⟨#[10]⟩ : ByteArray)) (by kernel_rfl) (by kernel_rfl) (by kernel_rfl) (by kernel_rfl) (by simp only [cat_size, strOf_size]; omega) ?_
   refine At.cat (t := 9) (u := 9) (d := 93) (x := .tmp 82) (y := .tmp 92) (a := o3) (b := ((((⟨#[108, 105, 110, 107, 32]⟩ : ByteArray) ++ (strOf (letT e3.name))) ++ (⟨#[32]⟩ : ByteArray)) ++ (strOf (letT e3.to))) ++ (⟨#[10]⟩ : ByteArray)) (by kernel_rfl) (by kernel_rfl) (by kernel_rfl) (by kernel_rfl) (by simp only [cat_size, strOf_size]; omega) ?_
   refine At.zD 1 ?_
   refine AW.g ?_
   refine At.a 1 ?_
   refine At.sI 94 ((i : Int) + 1) (by omega) ?_
   refine At.z 1 ?_
   exact ⟨(i + 1, (o3 ++ (((((⟨#[108, 105, 110, 107, 32]⟩ : ByteArray) ++ (strOf (letT e3.name))) ++ (⟨#[32]⟩ : ByteArray)) ++ (strOf (letT e3.to))) ++ (⟨#[10]⟩ : ByteArray)))), ⟨⟨by omega, by simp only [cat_size, strOf_size]; omega⟩, link_stepI (by assumption) hRi⟩, (by simp only; omega), Sub.o [] [false, false, false, false, true, false, false, false, false, false, false, false, false, false, false, false, false, false, false, false, false, false, false, false, false, false, false, false, false, false, false, false, false, false, false, false, false, false, false, false, false, false, false, false, false, false, false, false, false, false, false, false, false, false, false, false, false, false, false, false, false, false, false, false, false, false, false, false, false, false, false, false, false, false, false, false, true, true, true]⟩
 refine AW.exit ?_
 refine AW.seq ?_
 refine AW.q 3 ?_
 refine AW.cD ((o3.size : Int) > 1000) (fun h5 => ?_) (fun h5 => ?_)
 · refine AW.q 2 ?_
   exact AW.ret (rf (k2 (K_impl_SourcePrint _ s) (show ((⟨#[]⟩ : ByteArray)) = (strOf (srcP s).1) from by rw [srcP_big (by assumption) (base_end hRi (by omega)) (by assumption)]; first | done | rfl) (show (false) = ((srcP s).2) from by rw [srcP_big (by assumption) (base_end hRi (by omega)) (by assumption)]; first | done | rfl) (KF.n [])))
 refine AW.skip ?_
 refine AW.q 3 ?_
 exact AW.ret (rf (k2 (K_impl_SourcePrint _ s) (show (o3) = (strOf (srcP s).1) from by rw [srcP_ok (by assumption) (base_end hRi (by omega)) (by assumption)]; first | done | rfl | exact base_end hRi (by omega)) (show (true) = ((srcP s).2) from by rw [srcP_ok (by assumption) (base_end hRi (by omega)) (by assumption)]; first | done | rfl | exact base_end hRi (by omega)) (KF.n [])))
theorem spec_l1In_spec  (x : Int) (lo : Int) (hi : Int) : FnSpec Tryz.prog 52 [.int .i64 x, .int .i64 lo, .int .i64 hi] [] (.bool (inR x lo hi)) [] := by
 refine FnSpec.of 15 Tryz.func52 rfl Tryz.ntmps52 (by simp) (AW.weakK ?_)
 refine AW.q 1 ?_
 refine AW.r ?_
 refine At.a 4 ?_
 by_cases h1 : x ≥ lo
 · refine At.sB 10 _ _ (sayT h1) ?_
   refine At.z 5 ?_
   refine AW.ret ?_
   refine ⟨_, Sub.refl _ _, ?_⟩
   refine KF.conv (fun w => .bool w) (fun w => []) (show (decide (x ≤ hi)) = (inR x lo hi) from by simp [inR, *]) ?_
   exact KF.n []
 refine At.sB 10 _ _ (sayF h1) ?_
 refine At.z 5 ?_
 refine AW.ret ?_
 refine ⟨_, Sub.refl _ _, ?_⟩
 refine KF.conv (fun w => .bool w) (fun w => []) (show (false) = (inR x lo hi) from by simp [inR, *]) ?_
 exact KF.n []
theorem spec_l12Small_spec  (n : Int) : FnSpec Tryz.prog 50 [.int .i64 n] [] (.bool (inR n 97 122)) [] := by
 refine FnSpec.of 5 Tryz.func50 rfl Tryz.ntmps50 (by simp) (AW.weakK ?_)
 refine AW.q 1 ?_
 refine AW.r ?_
 refine At.a 1 ?_
 refine At.c (spec_l1In_spec  n 97 122 ) Tryz.call52 true [] [] [] trivial ?_
 refine At.z 1 ?_
 exact AW.ret (rf (KF.n []))
theorem spec_l11Year_spec  (n : Int) : FnSpec Tryz.prog 51 [.int .i64 n] [] (.bool (inR n 1900 2200)) [] := by
 refine FnSpec.of 5 Tryz.func51 rfl Tryz.ntmps51 (by simp) (AW.weakK ?_)
 refine AW.q 1 ?_
 refine AW.r ?_
 refine At.a 1 ?_
 refine At.c (spec_l1In_spec  n 1900 2200 ) Tryz.call52 true [] [] [] trivial ?_
 refine At.z 1 ?_
 exact AW.ret (rf (KF.n []))
def K_spec_OnOk (rs : List ResultVar) (o : On) (w0_ : Bool) : Exit → Sg → Prop := KF Tryz.prog 0 rs (.bool w0_) []
theorem spec_OnOk_spec  (o : On) : FnSpec Tryz.prog 42 [.agg [.int .i64 o.kind, .int .i64 o.day, .int .i64 o.week]] [] (.bool (onOk o)) [] := by
 refine FnSpec.of 35 Tryz.func42 rfl Tryz.ntmps42 (by simp) (AW.weakK ?_)
 refine AW.q 2 ?_
 refine AW.seq ?_
 refine AW.q 2 ?_
 refine AW.block ?_
 refine AW.q 2 ?_
 refine AW.cE o.kind (1 : Int) (fun h1 => ?_) (fun h1 => ?_)
 · refine AW.r ?_
   refine At.a 2 ?_
   refine At.c (spec_l1In_spec  o.day 1 31 ) Tryz.call52 true [] [] [] trivial ?_
   refine At.a 1 ?_
   by_cases h2 : (inR o.day 1 31) = true
   · refine At.sB 10 (inR o.day 1 31) true (sayB h2) ?_
     have h2i := inR_iff.1 h2
     refine At.z 5 ?_
     exact AW.ret (rf (k1 (K_spec_OnOk _ o) (show (o.week == 0) = (onOk o) from by simp [onOk, *]; done) (KF.n [])))
   refine At.sB 10 (inR o.day 1 31) false (sayB (Bool.eq_false_iff.2 h2)) ?_
   replace h2 := Bool.eq_false_iff.2 h2
   refine At.z 5 ?_
   exact AW.ret (rf (k1 (K_spec_OnOk _ o) (show (false) = (onOk o) from by simp [onOk, *]; done) (KF.n [])))
 refine AW.q 2 ?_
 refine AW.cE o.kind (2 : Int) (fun h3 => ?_) (fun h3 => ?_)
 · refine AW.r ?_
   refine At.a 4 ?_
   by_cases h4 : o.day = 0
   · refine At.sB 20 _ _ (sayET h4) ?_
     refine At.a 2 ?_
     refine At.c (spec_l1In_spec  o.week 0 6 ) Tryz.call52 true [] [] [] trivial ?_
     refine At.z 2 ?_
     exact AW.ret (rf (k1 (K_spec_OnOk _ o) (show (inR o.week 0 6) = (onOk o) from by simp [onOk, *]; done) (KF.n [])))
   refine At.sB 20 _ _ (sayEF h4) ?_
   refine At.z 5 ?_
   exact AW.ret (rf (k1 (K_spec_OnOk _ o) (show (false) = (onOk o) from by simp [onOk, *]; done) (KF.n [])))
 refine AW.q 2 ?_
 refine AW.cE o.kind (3 : Int) (fun h5 => ?_) (fun h5 => ?_)
 · refine AW.r ?_
   refine At.a 2 ?_
   refine At.c (spec_l1In_spec  o.day 1 31 ) Tryz.call52 true [] [] [] trivial ?_
   refine At.a 1 ?_
   by_cases h6 : (inR o.day 1 31) = true
   · refine At.sB 30 (inR o.day 1 31) true (sayB h6) ?_
     have h6i := inR_iff.1 h6
     refine At.a 2 ?_
     refine At.c (spec_l1In_spec  o.week 0 6 ) Tryz.call52 true [] [] [] trivial ?_
     refine At.z 2 ?_
     exact AW.ret (rf (k1 (K_spec_OnOk _ o) (show (inR o.week 0 6) = (onOk o) from by simp [onOk, *]; done) (KF.n [])))
   refine At.sB 30 (inR o.day 1 31) false (sayB (Bool.eq_false_iff.2 h6)) ?_
   replace h6 := Bool.eq_false_iff.2 h6
   refine At.z 5 ?_
   exact AW.ret (rf (k1 (K_spec_OnOk _ o) (show (false) = (onOk o) from by simp [onOk, *]; done) (KF.n [])))
 refine AW.skip ?_
 refine AW.q 1 ?_
 exact AW.ret (rf (k1 (K_spec_OnOk _ o) (show (false) = (onOk o) from by simp [onOk, *]; done) (KF.n [])))
theorem spec_l12RuleOk_spec  (r : Rul) : FnSpec Tryz.prog 28 [.agg [.int .i64 r.name, .int .i64 r.from_, .int .i64 r.to, .int .i64 r.month, .int .i64 r.on.kind, .int .i64 r.on.day, .int .i64 r.on.week, .int .i64 r.at_, .int .i64 r.save]] [] (.bool (ruleOk r)) [] := by
 refine FnSpec.of 43 Tryz.func28 rfl Tryz.ntmps28 (by simp) (AW.weakK ?_)
 refine AW.q 2 ?_
 refine AW.r ?_
 refine At.a 2 ?_
 refine At.c (spec_l12Small_spec  r.name ) Tryz.call50 true [] [] [] trivial ?_
 refine At.a 1 ?_
 by_cases h1 : (inR r.name 97 122) = true
 · refine At.sB 6 (inR r.name 97 122) true (sayB h1) ?_
   have h1i := inR_iff.1 h1
   refine At.a 2 ?_
   refine At.c (spec_l11Year_spec  r.from_ ) Tryz.call51 true [] [] [] trivial ?_
   refine At.a 2 ?_
   by_cases h2 : (inR r.from_ 1900 2200) = true
   · refine At.sB 11 (inR r.from_ 1900 2200) true (sayB h2) ?_
     have h2i := inR_iff.1 h2
     refine At.a 2 ?_
     refine At.c (spec_l11Year_spec  r.to ) Tryz.call51 true [] [] [] trivial ?_
     refine At.a 2 ?_
     by_cases h3 : (inR r.to 1900 2200) = true
     · refine At.sB 16 (inR r.to 1900 2200) true (sayB h3) ?_
       have h3i := inR_iff.1 h3
       refine At.a 7 ?_
       by_cases h4 : r.from_ ≤ r.to
       · refine At.sB 23 _ _ (sayT h4) ?_
         refine At.a 2 ?_
         refine At.c (spec_l1In_spec  r.month 1 12 ) Tryz.call52 true [] [] [] trivial ?_
         refine At.a 2 ?_
         by_cases h5 : (inR r.month 1 12) = true
         · refine At.sB 28 (inR r.month 1 12) true (sayB h5) ?_
           have h5i := inR_iff.1 h5
           refine At.a 2 ?_
           refine At.c (spec_OnOk_spec  r.on ) Tryz.call42 true [] [] [] trivial ?_
           refine At.a 2 ?_
           by_cases h6 : (onOk r.on) = true
           · refine At.sB 33 (onOk r.on) true (sayB h6) ?_
             refine At.a 2 ?_
             refine At.c (spec_l1In_spec  r.at_ 0 1439 ) Tryz.call52 true [] [] [] trivial ?_
             refine At.a 2 ?_
             by_cases h7 : (inR r.at_ 0 1439) = true
             · refine At.sB 38 (inR r.at_ 0 1439) true (sayB h7) ?_
               have h7i := inR_iff.1 h7
               refine At.a 2 ?_
               refine At.c (spec_l1In_spec  r.save 0 180 ) Tryz.call52 true [] [] [] trivial ?_
               refine At.z 2 ?_
               refine AW.ret ?_
               refine ⟨_, Sub.refl _ _, ?_⟩
               refine KF.conv (fun w => .bool w) (fun w => []) (show (inR r.save 0 180) = (ruleOk r) from by simp [ruleOk, *]; done) ?_
               exact KF.n []
             refine At.sB 38 (inR r.at_ 0 1439) false (sayB (Bool.eq_false_iff.2 h7)) ?_
             replace h7 := Bool.eq_false_iff.2 h7
             refine At.z 5 ?_
             refine AW.ret ?_
             refine ⟨_, Sub.refl _ _, ?_⟩
             refine KF.conv (fun w => .bool w) (fun w => []) (show (false) = (ruleOk r) from by simp [ruleOk, *]; done) ?_
             exact KF.n []
           refine At.sB 33 (onOk r.on) false (sayB (Bool.eq_false_iff.2 h6)) ?_
           replace h6 := Bool.eq_false_iff.2 h6
           refine At.z 10 ?_
           refine AW.ret ?_
           refine ⟨_, Sub.refl _ _, ?_⟩
           refine KF.conv (fun w => .bool w) (fun w => []) (show (false) = (ruleOk r) from by simp [ruleOk, *]; done) ?_
           exact KF.n []
         refine At.sB 28 (inR r.month 1 12) false (sayB (Bool.eq_false_iff.2 h5)) ?_
         replace h5 := Bool.eq_false_iff.2 h5
         refine At.z 15 ?_
         refine AW.ret ?_
         refine ⟨_, Sub.refl _ _, ?_⟩
         refine KF.conv (fun w => .bool w) (fun w => []) (show (false) = (ruleOk r) from by simp [ruleOk, *]; done) ?_
         exact KF.n []
       refine At.sB 23 _ _ (sayF h4) ?_
       refine At.z 20 ?_
       refine AW.ret ?_
       refine ⟨_, Sub.refl _ _, ?_⟩
       refine KF.conv (fun w => .bool w) (fun w => []) (show (false) = (ruleOk r) from by simp [ruleOk, *]; done) ?_
       exact KF.n []
     refine At.sB 16 (inR r.to 1900 2200) false (sayB (Bool.eq_false_iff.2 h3)) ?_
     replace h3 := Bool.eq_false_iff.2 h3
     refine At.z 27 ?_
     refine AW.ret ?_
     refine ⟨_, Sub.refl _ _, ?_⟩
     refine KF.conv (fun w => .bool w) (fun w => []) (show (false) = (ruleOk r) from by simp [ruleOk, *]; done) ?_
     exact KF.n []
   refine At.sB 11 (inR r.from_ 1900 2200) false (sayB (Bool.eq_false_iff.2 h2)) ?_
   replace h2 := Bool.eq_false_iff.2 h2
   refine At.z 32 ?_
   refine AW.ret ?_
   refine ⟨_, Sub.refl _ _, ?_⟩
   refine KF.conv (fun w => .bool w) (fun w => []) (show (false) = (ruleOk r) from by simp [ruleOk, *]; done) ?_
   exact KF.n []
 refine At.sB 6 (inR r.name 97 122) false (sayB (Bool.eq_false_iff.2 h1)) ?_
 replace h1 := Bool.eq_false_iff.2 h1
 refine At.z 37 ?_
 refine AW.ret ?_
 refine ⟨_, Sub.refl _ _, ?_⟩
 refine KF.conv (fun w => .bool w) (fun w => []) (show (false) = (ruleOk r) from by simp [ruleOk, *]; done) ?_
 exact KF.n []
theorem spec_l12Great_spec  (n : Int) : FnSpec Tryz.prog 53 [.int .i64 n] [] (.bool (inR n 65 90)) [] := by
 refine FnSpec.of 5 Tryz.func53 rfl Tryz.ntmps53 (by simp) (AW.weakK ?_)
 refine AW.q 1 ?_
 refine AW.r ?_
 refine At.a 1 ?_
 refine At.c (spec_l1In_spec  n 65 90 ) Tryz.call52 true [] [] [] trivial ?_
 refine At.z 1 ?_
 exact AW.ret (rf (KF.n []))
theorem spec_l12HasRule_spec  (list : List Rul) (x : Int) (hl : list.length ≤ 1048576) : FnSpec Tryz.prog 54 [.sl false 9 (list.map encRul), .int .i64 x] [] (.bool (hasR x list)) [] := by
 refine FnSpec.of 19 Tryz.func54 rfl Tryz.ntmps54 (by simp) (AW.weakK ?_)
 refine AW.q 1 ?_
 refine AW.seq ?_
 refine AW.q 1 ?_
 refine AW.block ?_
 refine AW.loopW (fun (k : Nat) => Go.Sy.mk [.sl false 9 (list.map encRul), .int .i64 x, .un, .un, .un, .int .i64 (k : Int)] []) (fun (k : Nat) => k ≤ list.length ∧ hasR x list = hasR x (list.drop k)) (fun (k : Nat) => list.length - k) 0 ⟨by omega, by rw [List.drop_zero]⟩ (Sub.o [] [true, true, false, false, false, true]) ?_
 rintro k ⟨hk, hR⟩
 refine AW.seq ?_
 refine AW.r ?_
 refine At.a 3 ?_
 refine At.sL 8 encRul list ?_
 refine At.z 1 ?_
 refine AW.cD ((k : Int) < (list.length : Int)) (fun h1 => ?_) (fun h1 => ?_)
 · refine AW.skip ?_
   refine AW.seq ?_
   refine AW.block ?_
   refine AW.r ?_
   refine At.a 2 ?_
   refine At.iSl 24 14 (.tmp 12) (.tmp 13) false 9 (list.map encRul) .i64 (k : Int) 43 (by omega) (by simp only [List.length_map]; omega) ?_
   refine At.a 1 ?_
   refine Exists.elim (gE list k (by omega)) fun e1 he1 => ?_
   refine At.lVp 3 16 (.tmp 15) false 9 (list.map encRul) k 0 false 1 (encRul e1) (.int .i64 e1.name) (mapGet he1) ?_
   refine At.z 2 ?_
   refine AW.cE e1.name x (fun h2 => ?_) (fun h2 => ?_)
   · refine AW.q 1 ?_
     refine AW.ret ?_
     refine ⟨_, Sub.refl _ _, ?_⟩
     refine KF.conv (fun w => .bool w) (fun w => []) (show (true) = (hasR x list) from by rw [hR, hasR_hit he1 (by assumption)]) ?_
     exact KF.n []
   refine AW.skip ?_
   refine AW.g ?_
   refine At.a 2 ?_
   refine At.sI 11 ((k : Int) + 1) (by omega) ?_
   refine At.z 1 ?_
   exact ⟨k + 1, ⟨by omega, hR.trans (hasR_step he1 (by assumption))⟩, (by omega), Sub.o [] [true, true, false, false, false, true]⟩
 refine AW.exit ?_
 refine AW.q 1 ?_
 refine AW.ret ?_
 refine ⟨_, Sub.refl _ _, ?_⟩
 refine KF.conv (fun w => .bool w) (fun w => []) (show (false) = (hasR x list) from by rw [hR, hasR_end (by omega)]) ?_
 exact KF.n []
theorem spec_l12Zone_spec  (s : Srce) (z : Zon) (hs : (s.rules.length ≤ 1048576 ∧ s.zones.length ≤ 1048576 ∧ s.links.length ≤ 1048576)) : FnSpec Tryz.prog 29 [.agg [.sl false 9 (s.rules.map encRul), .sl false 3 (s.zones.map encZon), .sl false 2 (s.links.map encLnk)], .agg [.int .i64 z.name, .int .i64 z.off, .int .i64 z.rule]] [] (.bool (zone1 s.rules (lastZ s.zones) z)) [] := by
 refine FnSpec.of 45 Tryz.func29 rfl Tryz.ntmps29 (by simp) (AW.weakK ?_)
 refine AW.q 3 ?_
 refine AW.r ?_
 refine At.a 3 ?_
 refine At.sL 8 encZon s.zones ?_
 refine At.z 1 ?_
 refine AW.seq ?_
 refine AW.gD Tryz_mix ?_
 refine At.a 2 ?_
 refine At.c (spec_l12Great_spec  z.name ) Tryz.call53 true [] [] [] trivial ?_
 refine At.a 1 ?_
 by_cases h1 : (inR z.name 65 90) = true
 · refine At.sB 12 (inR z.name 65 90) true (sayB h1) ?_
   have h1i := inR_iff.1 h1
   refine At.a 2 ?_
   refine At.c (spec_l1In_spec  z.off (-900) 900 ) Tryz.call52 true [] [] [] trivial ?_
   refine At.a 2 ?_
   by_cases h2 : (inR z.off (-900) 900) = true
   · refine At.sB 17 (inR z.off (-900) 900) true (sayB h2) ?_
     have h2i := inR_iff.1 h2
     refine At.a 3 ?_
     by_cases h3 : (s.zones.length : Int) = 0
     · refine At.sB 20 _ _ (sayET h3) ?_
       refine At.a 17 ?_
       by_cases h4 : z.rule = 0
       · refine At.sB 37 _ _ (sayET h4) ?_
         refine At.zD 8 ?_
         refine AW.ret ?_
         refine ⟨_, Sub.refl _ _, ?_⟩
         refine KF.conv (fun w => .bool w) (fun w => []) (show (true) = (zone1 s.rules (lastZ s.zones) z) from by unfold zone1; first | (rw [lastZ_0 (by assumption), decide_eq_true (show (0 : Int) < z.name by omega)]; simp [*]; done) | (rw [lastZ_len he1]; simp [*]; done) | (simp [*]; done)) ?_
         exact KF.n []
       refine At.sB 37 _ _ (sayEF h4) ?_
       refine At.a 4 ?_
       refine At.c (spec_l12HasRule_spec  s.rules z.rule (by omega)) Tryz.call54 true [] [] [] trivial ?_
       refine At.zD 3 ?_
       refine AW.ret ?_
       refine ⟨_, Sub.refl _ _, ?_⟩
       refine KF.conv (fun w => .bool w) (fun w => []) (show (hasR z.rule s.rules) = (zone1 s.rules (lastZ s.zones) z) from by unfold zone1; first | (rw [lastZ_0 (by assumption), decide_eq_true (show (0 : Int) < z.name by omega)]; simp [*]; done) | (rw [lastZ_len he1]; simp [*]; done) | (simp [*]; done)) ?_
       exact KF.n []
     refine At.sB 20 _ _ (sayEF h3) ?_
     refine At.a 4 ?_
     refine At.sI 24 ((s.zones.length : Int) - 1) (by omega) ?_
     refine At.iSl 25 25 (.tmp 22) (.tmp 24) false 3 (s.zones.map encZon) .i64 ((s.zones.length : Int) - 1) 49 (by omega) (by simp only [List.length_map]; omega) ?_
     refine At.a 1 ?_
     refine Exists.elim (gE s.zones (((s.zones.length : Int) - 1).toNat) (by omega)) fun e1 he1 => ?_
     refine At.lVp 3 27 (.tmp 26) false 3 (s.zones.map encZon) (((s.zones.length : Int) - 1).toNat) 0 false 1 (encZon e1) (.int .i64 e1.name) (mapGet he1) ?_
     refine At.a 6 ?_
     by_cases h5 : e1.name < z.name
     · refine At.sB 33 _ _ (sayT h5) ?_
       refine At.a 4 ?_
       by_cases h6 : z.rule = 0
       · refine At.sB 37 _ _ (sayET h6) ?_
         refine At.zD 8 ?_
         refine AW.ret ?_
         refine ⟨_, Sub.refl _ _, ?_⟩
         refine KF.conv (fun w => .bool w) (fun w => []) (show (true) = (zone1 s.rules (lastZ s.zones) z) from by unfold zone1; first | (rw [lastZ_0 (by assumption), decide_eq_true (show (0 : Int) < z.name by omega)]; simp [*]; done) | (rw [lastZ_len he1]; simp [*]; done) | (simp [*]; done)) ?_
         exact KF.n []
       refine At.sB 37 _ _ (sayEF h6) ?_
       refine At.a 4 ?_
       refine At.c (spec_l12HasRule_spec  s.rules z.rule (by omega)) Tryz.call54 true [] [] [] trivial ?_
       refine At.zD 3 ?_
       refine AW.ret ?_
       refine ⟨_, Sub.refl _ _, ?_⟩
       refine KF.conv (fun w => .bool w) (fun w => []) (show (hasR z.rule s.rules) = (zone1 s.rules (lastZ s.zones) z) from by unfold zone1; first | (rw [lastZ_0 (by assumption), decide_eq_true (show (0 : Int) < z.name by omega)]; simp [*]; done) | (rw [lastZ_len he1]; simp [*]; done) | (simp [*]; done)) ?_
       exact KF.n []
     refine At.sB 33 _ _ (sayF h5) ?_
     refine At.zD 12 ?_
     refine AW.ret ?_
     refine ⟨_, Sub.refl _ _, ?_⟩
     refine KF.conv (fun w => .bool w) (fun w => []) (show (false) = (zone1 s.rules (lastZ s.zones) z) from by unfold zone1; first | (rw [lastZ_0 (by assumption), decide_eq_true (show (0 : Int) < z.name by omega)]; simp [*]; done) | (rw [lastZ_len he1]; simp [*]; done) | (simp [*]; done)) ?_
     exact KF.n []
   refine At.sB 17 (inR z.off (-900) 900) false (sayB (Bool.eq_false_iff.2 h2)) ?_
   replace h2 := Bool.eq_false_iff.2 h2
   refine At.zD 28 ?_
   refine AW.ret ?_
   refine ⟨_, Sub.refl _ _, ?_⟩
   refine KF.conv (fun w => .bool w) (fun w => []) (show (false) = (zone1 s.rules (lastZ s.zones) z) from by unfold zone1; first | (rw [lastZ_0 (by assumption), decide_eq_true (show (0 : Int) < z.name by omega)]; simp [*]; done) | (rw [lastZ_len he1]; simp [*]; done) | (simp [*]; done)) ?_
   exact KF.n []
 refine At.sB 12 (inR z.name 65 90) false (sayB (Bool.eq_false_iff.2 h1)) ?_
 replace h1 := Bool.eq_false_iff.2 h1
 refine At.zD 33 ?_
 refine AW.ret ?_
 refine ⟨_, Sub.refl _ _, ?_⟩
 refine KF.conv (fun w => .bool w) (fun w => []) (show (false) = (zone1 s.rules (lastZ s.zones) z) from by unfold zone1; first | (rw [lastZ_0 (by assumption), decide_eq_true (show (0 : Int) < z.name by omega)]; simp [*]; done) | (rw [lastZ_len he1]; simp [*]; done) | (simp [*]; done)) ?_
 exact KF.n []
theorem spec_l12HasZone_spec  (list : List Zon) (x : Int) (hl : list.length ≤ 1048576) : FnSpec Tryz.prog 55 [.sl false 3 (list.map encZon), .int .i64 x] [] (.bool (hasZ x list)) [] := by
 refine FnSpec.of 19 Tryz.func55 rfl Tryz.ntmps55 (by simp) (AW.weakK ?_)
 refine AW.q 1 ?_
 refine AW.seq ?_
 refine AW.q 1 ?_
 refine AW.block ?_
 refine AW.loopW (fun (k : Nat) => Go.Sy.mk [.sl false 3 (list.map encZon), .int .i64 x, .un, .un, .un, .int .i64 (k : Int)] []) (fun (k : Nat) => k ≤ list.length ∧ hasZ x list = hasZ x (list.drop k)) (fun (k : Nat) => list.length - k) 0 ⟨by omega, by rw [List.drop_zero]⟩ (Sub.o [] [true, true, false, false, false, true]) ?_
 rintro k ⟨hk, hR⟩
 refine AW.seq ?_
 refine AW.r ?_
 refine At.a 3 ?_
 refine At.sL 8 encZon list ?_
 refine At.z 1 ?_
 refine AW.cD ((k : Int) < (list.length : Int)) (fun h1 => ?_) (fun h1 => ?_)
 · refine AW.skip ?_
   refine AW.seq ?_
   refine AW.block ?_
   refine AW.r ?_
   refine At.a 2 ?_
   refine At.iSl 25 14 (.tmp 12) (.tmp 13) false 3 (list.map encZon) .i64 (k : Int) 49 (by omega) (by simp only [List.length_map]; omega) ?_
   refine At.a 1 ?_
   refine Exists.elim (gE list k (by omega)) fun e1 he1 => ?_
   refine At.lVp 3 16 (.tmp 15) false 3 (list.map encZon) k 0 false 1 (encZon e1) (.int .i64 e1.name) (mapGet he1) ?_
   refine At.z 2 ?_
   refine AW.cE e1.name x (fun h2 => ?_) (fun h2 => ?_)
   · refine AW.q 1 ?_
     refine AW.ret ?_
     refine ⟨_, Sub.refl _ _, ?_⟩
     refine KF.conv (fun w => .bool w) (fun w => []) (show (true) = (hasZ x list) from by rw [hR, hasZ_hit he1 (by assumption)]) ?_
     exact KF.n []
   refine AW.skip ?_
   refine AW.g ?_
   refine At.a 2 ?_
   refine At.sI 11 ((k : Int) + 1) (by omega) ?_
   refine At.z 1 ?_
   exact ⟨k + 1, ⟨by omega, hR.trans (hasZ_step he1 (by assumption))⟩, (by omega), Sub.o [] [true, true, false, false, false, true]⟩
 refine AW.exit ?_
 refine AW.q 1 ?_
 refine AW.ret ?_
 refine ⟨_, Sub.refl _ _, ?_⟩
 refine KF.conv (fun w => .bool w) (fun w => []) (show (false) = (hasZ x list) from by rw [hR, hasZ_end (by omega)]) ?_
 exact KF.n []
end Go.Proofs.YtahackghhalfeaaGreatDoor
