/- The contracts of the functions that FnParcel reaches (each: what it answers, said over values), printed by a program of this session (wip/sy/g/gen.py). -/
import Derived.Test.YtdpcdcogbmkffaaSParcelRw
import Derived.Test.YtdpcdcogbmkffaaShelf
set_option linter.unusedVariables false
set_option linter.unusedSimpArgs false
set_option maxRecDepth 100000
set_option maxHeartbeats 4000000
namespace Go.Proofs.Ytdpcdcogbmkffaa
open Go Go.Sy Go.Proofs
theorem Try_mix : Try.prog.follows .mixedOrders = true := by kernel_rfl
theorem laws_big_spec  (code : List UInt8) (hc : code.length ≤ 9223372036854775807) : FnSpec Try.prog 10 [.sl false 1 (code.map encU8)] [] (.bool (decide ((code.length : Int) > 1048576))) [] := by
 refine FnSpec.of 6 Try.func10 rfl Try.ntmps10 (by simp) (AW.weakK ?_)
 refine AW.q 1 ?_
 refine AW.r ?_
 refine At.a 2 ?_
 refine At.sL 4 encU8 code ?_
 refine At.z 2 ?_
 exact AW.ret (rf (KF.n []))
theorem spec_l1New_spec  (data : List UInt8) (hd : data.length ≤ 1048576) : ∃ rho_ : Int, (True) ∧ FnSpec Try.prog 28 [.sl false 1 (data.map encU8)] [] (.ptr 0 0 0) [.box 81 [.sl false 1 (data.map encU8), .int .i64 0, .int .i64 rho_]] := by
 refine dv (fun h_ => FnSpec.of 32 Try.func28 rfl Try.ntmps28 (by simp) (AW.weakK h_)) ?_
 refine dv (AW.q 1 ·) ?_
 refine dv (AW.r ·) ?_
 refine dv (At.a 2 ·) ?_
 refine dv (At.sL 6 encU8 data ·) ?_
 refine dv (At.a 1 ·) ?_
 refine dv (At.sI 7 (10677 + (data.length : Int)) (by omega) ·) ?_
 refine dv (At.z 1 ·) ?_
 refine dv (AW.seq ·) ?_
 refine dv (AW.q 1 ·) ?_
 refine dv (AW.block ·) ?_
 refine DW.loopQ (fun (x : Nat × Int) => match x with | (k, s) => Go.Sy.mk [.sl false 1 (data.map encU8), .un, .un, .int .i64 s, .int .i64 (k : Int)] []) (fun (x : Nat × Int) => match x with | (k, s) => k ≤ data.length) (fun (x : Nat × Int) => match x with | (k, s) => data.length - k) (0, (10677 + (data.length : Int))) (by simp) (Sub.o [] [true, false, false, true, true]) ?_
 rintro ⟨k, s⟩ hk ih1
 refine dv (AW.seq ·) ?_
 refine dv (AW.r ·) ?_
 refine dv (At.a 3 ·) ?_
 refine dv (At.sL 10 encU8 data ·) ?_
 refine dv (At.a 2 ·) ?_
 by_cases h1 : (k : Int) < (data.length : Int)
 · refine dv (At.sB 12 _ _ (sayT h1) ·) ?_
   refine dv (At.z 3 ·) ?_
   by_cases h2 : (k : Int) < 4000
   · refine dv (AW.condT (decide ((k : Int) < 4000)) (by kernel_rfl) (decide_eq_true h2) ·) ?_
     refine dv (AW.skip ·) ?_
     refine dv (AW.seq ·) ?_
     refine dv (AW.block ·) ?_
     refine dv (AW.g ·) ?_
     refine dv (At.a 4 ·) ?_
     refine dv (At.iSl 32 22 (.tmp 20) (.tmp 21) false 1 (data.map encU8) .i64 (k : Int) 5 (by omega) (by simp only [List.length_map]; omega) ·) ?_
     refine Exists.elim (gE data k (by omega)) fun e1 he1 => ?_
     refine dv (At.lVp 5 23 (.tmp 22) false 1 (data.map encU8) k 0 false 1 (encU8 e1) (.int .u8 (e1.toNat : Int)) (mapGet he1) ·) ?_
     refine dv (At.conv (s := 5) (t := 3) (d := 24) (x := .tmp 23) (kd := .u8) (kd' := .i64) (a := (e1.toNat : Int)) (.int .i64 (e1.toNat : Int)) (by kernel_rfl) (by kernel_rfl) (by kernel_rfl) (by kernel_rfl) (sayI _ (by have := UInt8.toNat_lt e1; omega)) ·) ?_
     refine dv (At.a 2 ·) ?_
     refine dv (At.bits (t := 3) (u := 3) (d := 27) (op := .and) (x := .tmp 26) (y := .const (.int .i64 1073741823)) (kd := .i64) (a := IntKind.i64.wrap ((IntKind.i64.wrap ((IntKind.i64.wrap (s * 131)) + (e1.toNat : Int))) + 7)) (b := 1073741823) ((IntKind.i64.wrap ((IntKind.i64.wrap ((IntKind.i64.wrap (s * 131)) + (e1.toNat : Int))) + 7)) % 1073741824) (by kernel_rfl) (by kernel_rfl) (by kernel_rfl) (by kernel_rfl) (andM 30 1073741824 _ _ (by decide) (by decide) (by decide)) ·) ?_
     refine dv (At.z 1 ·) ?_
     refine dv (AW.g ·) ?_
     refine dv (At.a 2 ·) ?_
     refine dv (At.sI 17 ((k : Int) + 1) (by omega) ·) ?_
     refine dv (At.z 1 ·) ?_
     exact dw (fun _ h_ => AWL.weak (Sub.o [] [true, false, false, true, true]) h_) (ih1 (k + 1, ((IntKind.i64.wrap ((IntKind.i64.wrap ((IntKind.i64.wrap (s * 131)) + (e1.toNat : Int))) + 7)) % 1073741824)) (by simp only; omega) (by simp only; omega))
   refine dv (AW.condF (decide ((k : Int) < 4000)) (by kernel_rfl) (decide_eq_false h2) ·) ?_
   refine dv (AW.exit ·) ?_
   refine dv (AW.q 5 ·) ?_
   refine dv (AW.ret ·) ?_
   refine dv (⟨_, Sub.refl _ _, ·⟩) ?_
   exact ⟨(s), trivial, KF.mk (.inr rfl) [(131, 0)] [.ptr 131 0 0] (by kernel_rfl) (by kernel_rfl) (by kernel_rfl) (by kernel_rfl) (by kernel_rfl)⟩
 refine dv (At.sB 12 _ _ (sayF h1) ·) ?_
 refine dv (At.z 3 ·) ?_
 refine dv (fun h_ => AW.cond false (by kernel_rfl) (fun h => by cases h) (fun _ => h_)) ?_
 refine dv (AW.exit ·) ?_
 refine dv (AW.q 5 ·) ?_
 refine dv (AW.ret ·) ?_
 refine dv (⟨_, Sub.refl _ _, ·⟩) ?_
 exact ⟨(s), trivial, KF.mk (.inr rfl) [(131, 0)] [.ptr 131 0 0] (by kernel_rfl) (by kernel_rfl) (by kernel_rfl) (by kernel_rfl) (by kernel_rfl)⟩
theorem spec_l1Byte_spec  (c : Cur) (hp : 0 ≤ c.pos ∧ c.pos ≤ c.data.length ∧ c.data.length ≤ 1048576) : ∃ rho_ : Int × Int × Int, (0 ≤ rho_.1 ∧ rho_.1 ≤ c.data.length ∧ 0 ≤ rho_.2.2 ∧ rho_.2.2 ≤ 255) ∧ FnSpec Try.prog 66 [.ptr 0 0 0] [.box 81 [.sl false 1 (c.data.map encU8), .int .i64 c.pos, .int .i64 c.seed]] (.int .i64 rho_.2.2) [.box 81 [.sl false 1 (c.data.map encU8), .int .i64 rho_.1, .int .i64 rho_.2.1]] := by
 refine dv (fun h_ => FnSpec.of 58 Try.func66 rfl Try.ntmps66 (by simp) (AW.weakK h_)) ?_
 refine dv (AW.q 1 ·) ?_
 refine dv (AW.q 10 ·) ?_
 refine dv (AW.seq ·) ?_
 refine dv (AW.gD Try_mix ·) ?_
 refine dv (At.a 4 ·) ?_
 refine dv (At.shift (t := 3) (u := 63) (d := 17) (op := .shr) (x := .tmp 16) (y := .const (.int .u64 33)) (kd := .i64) (kd' := .u64) (a := IntKind.i64.wrap ((IntKind.i64.wrap (c.seed * 6364136223846793005)) + 1442695040888963407)) (b := 33) (shV .shr .i64 (IntKind.i64.wrap ((IntKind.i64.wrap (c.seed * 6364136223846793005)) + 1442695040888963407)) 33) (by kernel_rfl) (by kernel_rfl) (by kernel_rfl) (by kernel_rfl) (by omega) (shS_shr _ _ _) ·) ?_
 refine dv (At.a 4 ·) ?_
 refine dv (At.shift (t := 3) (u := 63) (d := 22) (op := .shr) (x := .tmp 21) (y := .const (.int .u64 45)) (kd := .i64) (kd' := .u64) (a := IntKind.i64.wrap ((IntKind.i64.wrap (c.seed * 6364136223846793005)) + 1442695040888963407)) (b := 45) (shV .shr .i64 (IntKind.i64.wrap ((IntKind.i64.wrap (c.seed * 6364136223846793005)) + 1442695040888963407)) 45) (by kernel_rfl) (by kernel_rfl) (by kernel_rfl) (by kernel_rfl) (by omega) (shS_shr _ _ _) ·) ?_
 refine dv (At.bits (t := 3) (u := 3) (d := 23) (op := .xor) (x := .tmp 17) (y := .tmp 22) (kd := .i64) (a := shV .shr .i64 (IntKind.i64.wrap ((IntKind.i64.wrap (c.seed * 6364136223846793005)) + 1442695040888963407)) 33) (b := shV .shr .i64 (IntKind.i64.wrap ((IntKind.i64.wrap (c.seed * 6364136223846793005)) + 1442695040888963407)) 45) (bitV .xor .i64 (shV .shr .i64 (IntKind.i64.wrap ((IntKind.i64.wrap (c.seed * 6364136223846793005)) + 1442695040888963407)) 33) (shV .shr .i64 (IntKind.i64.wrap ((IntKind.i64.wrap (c.seed * 6364136223846793005)) + 1442695040888963407)) 45)) (by kernel_rfl) (by kernel_rfl) (by kernel_rfl) (by kernel_rfl) (bitS_xor _ _ _) ·) ?_
 refine dv (At.bits (t := 3) (u := 3) (d := 24) (op := .and) (x := .tmp 23) (y := .const (.int .i64 255)) (kd := .i64) (a := bitV .xor .i64 (shV .shr .i64 (IntKind.i64.wrap ((IntKind.i64.wrap (c.seed * 6364136223846793005)) + 1442695040888963407)) 33) (shV .shr .i64 (IntKind.i64.wrap ((IntKind.i64.wrap (c.seed * 6364136223846793005)) + 1442695040888963407)) 45)) (b := 255) ((bitV .xor .i64 (shV .shr .i64 (IntKind.i64.wrap ((IntKind.i64.wrap (c.seed * 6364136223846793005)) + 1442695040888963407)) 33) (shV .shr .i64 (IntKind.i64.wrap ((IntKind.i64.wrap (c.seed * 6364136223846793005)) + 1442695040888963407)) 45)) % 256) (by kernel_rfl) (by kernel_rfl) (by kernel_rfl) (by kernel_rfl) (andM 8 256 _ _ (by decide) (by decide) (by decide)) ·) ?_
 refine dv (At.zD 1 ·) ?_
 refine dv (AW.seq ·) ?_
 refine dv (AW.seq ·) ?_
 refine dv (AW.gD Try_mix ·) ?_
 refine dv (At.a 9 ·) ?_
 refine dv (At.sL 33 encU8 c.data ·) ?_
 refine dv (At.zD 1 ·) ?_
 by_cases h1 : c.pos < (c.data.length : Int)
 · refine dv (AW.condT (decide (c.pos < (c.data.length : Int))) (by kernel_rfl) (decide_eq_true h1) ·) ?_
   refine dv (AW.seq ·) ?_
   refine dv (AW.gD Try_mix ·) ?_
   refine dv (At.a 9 ·) ?_
   refine dv (At.iSl 32 44 (.tmp 39) (.tmp 43) false 1 (c.data.map encU8) .i64 c.pos 5 (by omega) (by simp only [List.length_map]; omega) ·) ?_
   refine Exists.elim (gE c.data ((c.pos).toNat) (by omega)) fun e1 he1 => ?_
   have hbe1 := UInt8.toNat_lt e1
   refine dv (At.lVp 5 45 (.tmp 44) false 1 (c.data.map encU8) ((c.pos).toNat) 0 false 1 (encU8 e1) (.int .u8 (e1.toNat : Int)) (mapGet he1) ·) ?_
   refine dv (At.conv (s := 5) (t := 3) (d := 46) (x := .tmp 45) (kd := .u8) (kd' := .i64) (a := (e1.toNat : Int)) (.int .i64 (e1.toNat : Int)) (by kernel_rfl) (by kernel_rfl) (by kernel_rfl) (by kernel_rfl) (sayI _ (by have := UInt8.toNat_lt e1; omega)) ·) ?_
   refine dv (At.a 1 ·) ?_
   refine dv (At.sI 47 (((bitV .xor .i64 (shV .shr .i64 (IntKind.i64.wrap ((IntKind.i64.wrap (c.seed * 6364136223846793005)) + 1442695040888963407)) 33) (shV .shr .i64 (IntKind.i64.wrap ((IntKind.i64.wrap (c.seed * 6364136223846793005)) + 1442695040888963407)) 45)) % 256) + (e1.toNat : Int)) (by omega) ·) ?_
   refine dv (At.bits (t := 3) (u := 3) (d := 48) (op := .and) (x := .tmp 47) (y := .const (.int .i64 255)) (kd := .i64) (a := ((bitV .xor .i64 (shV .shr .i64 (IntKind.i64.wrap ((IntKind.i64.wrap (c.seed * 6364136223846793005)) + 1442695040888963407)) 33) (shV .shr .i64 (IntKind.i64.wrap ((IntKind.i64.wrap (c.seed * 6364136223846793005)) + 1442695040888963407)) 45)) % 256) + (e1.toNat : Int)) (b := 255) ((((bitV .xor .i64 (shV .shr .i64 (IntKind.i64.wrap ((IntKind.i64.wrap (c.seed * 6364136223846793005)) + 1442695040888963407)) 33) (shV .shr .i64 (IntKind.i64.wrap ((IntKind.i64.wrap (c.seed * 6364136223846793005)) + 1442695040888963407)) 45)) % 256) + (e1.toNat : Int)) % 256) (by kernel_rfl) (by kernel_rfl) (by kernel_rfl) (by kernel_rfl) (andM 8 256 _ _ (by decide) (by decide) (by decide)) ·) ?_
   refine dv (At.zD 1 ·) ?_
   refine dv (AW.g ·) ?_
   refine dv (At.a 6 ·) ?_
   refine dv (At.sI 54 (c.pos + 1) (by omega) ·) ?_
   refine dv (At.z 3 ·) ?_
   refine dv (AW.q 2 ·) ?_
   refine dv (AW.ret ·) ?_
   refine dv (⟨_, Sub.refl _ _, ·⟩) ?_
   exact ⟨(c.pos + 1, IntKind.i64.wrap ((IntKind.i64.wrap (c.seed * 6364136223846793005)) + 1442695040888963407), (((bitV .xor .i64 (shV .shr .i64 (IntKind.i64.wrap ((IntKind.i64.wrap (c.seed * 6364136223846793005)) + 1442695040888963407)) 33) (shV .shr .i64 (IntKind.i64.wrap ((IntKind.i64.wrap (c.seed * 6364136223846793005)) + 1442695040888963407)) 45)) % 256) + (e1.toNat : Int)) % 256), (by dsimp only; omega), KF.mk (.inr rfl) [(0, 0)] [.int .i64 ((((bitV .xor .i64 (shV .shr .i64 (IntKind.i64.wrap ((IntKind.i64.wrap (c.seed * 6364136223846793005)) + 1442695040888963407)) 33) (shV .shr .i64 (IntKind.i64.wrap ((IntKind.i64.wrap (c.seed * 6364136223846793005)) + 1442695040888963407)) 45)) % 256) + (e1.toNat : Int)) % 256)] (by kernel_rfl) (by kernel_rfl) (by kernel_rfl) (by kernel_rfl) (by kernel_rfl)⟩
 refine dv (AW.condF (decide (c.pos < (c.data.length : Int))) (by kernel_rfl) (decide_eq_false h1) ·) ?_
 refine dv (AW.skip ·) ?_
 refine dv (AW.q 2 ·) ?_
 refine dv (AW.ret ·) ?_
 refine dv (⟨_, Sub.refl _ _, ·⟩) ?_
 exact ⟨(c.pos, IntKind.i64.wrap ((IntKind.i64.wrap (c.seed * 6364136223846793005)) + 1442695040888963407), (bitV .xor .i64 (shV .shr .i64 (IntKind.i64.wrap ((IntKind.i64.wrap (c.seed * 6364136223846793005)) + 1442695040888963407)) 33) (shV .shr .i64 (IntKind.i64.wrap ((IntKind.i64.wrap (c.seed * 6364136223846793005)) + 1442695040888963407)) 45)) % 256), (by dsimp only; omega), KF.mk (.inr rfl) [(0, 0)] [.int .i64 ((bitV .xor .i64 (shV .shr .i64 (IntKind.i64.wrap ((IntKind.i64.wrap (c.seed * 6364136223846793005)) + 1442695040888963407)) 33) (shV .shr .i64 (IntKind.i64.wrap ((IntKind.i64.wrap (c.seed * 6364136223846793005)) + 1442695040888963407)) 45)) % 256)] (by kernel_rfl) (by kernel_rfl) (by kernel_rfl) (by kernel_rfl) (by kernel_rfl)⟩
theorem spec_l1Below_spec  (c : Cur) (n : Int) (hp : 0 ≤ c.pos ∧ c.pos ≤ c.data.length ∧ c.data.length ≤ 1048576) : ∃ rho_ : Int × Int × Int, (0 ≤ rho_.1 ∧ rho_.1 ≤ c.data.length ∧ 0 ≤ rho_.2.2 ∧ (0 < n → rho_.2.2 < n) ∧ (n ≤ 0 → rho_.2.2 = 0)) ∧ FnSpec Try.prog 46 [.ptr 0 0 0, .int .i64 n] [.box 81 [.sl false 1 (c.data.map encU8), .int .i64 c.pos, .int .i64 c.seed]] (.int .i64 rho_.2.2) [.box 81 [.sl false 1 (c.data.map encU8), .int .i64 rho_.1, .int .i64 rho_.2.1]] := by
 refine dv (fun h_ => FnSpec.of 37 Try.func46 rfl Try.ntmps46 (by simp) (AW.weakK h_)) ?_
 refine dv (AW.q 1 ·) ?_
 refine dv (AW.seq ·) ?_
 refine dv (AW.q 2 ·) ?_
 by_cases h1 : n ≤ 0
 · refine dv (AW.condT (decide (n ≤ 0)) (by kernel_rfl) (decide_eq_true h1) ·) ?_
   refine dv (AW.q 1 ·) ?_
   refine dv (AW.ret ·) ?_
   refine dv (⟨_, Sub.refl _ _, ·⟩) ?_
   exact ⟨(c.pos, c.seed, 0), (by refine ⟨by dsimp only; omega, by dsimp only; omega, ?_⟩; dsimp only; first | omega | exact ⟨Int.emod_nonneg _ (by omega), fun _ => Int.emod_lt_of_pos _ (by omega), fun _ => by omega⟩), KF.mk (.inr rfl) [(0, 0)] [.int .i64 0] (by kernel_rfl) (by kernel_rfl) (by kernel_rfl) (by kernel_rfl) (by kernel_rfl)⟩
 refine dv (AW.condF (decide (n ≤ 0)) (by kernel_rfl) (decide_eq_false h1) ·) ?_
 refine dv (AW.skip ·) ?_
 refine dv (AW.seq ·) ?_
 refine dv (AW.q 2 ·) ?_
 by_cases h2 : n ≤ 256
 · refine dv (AW.condT (decide (n ≤ 256)) (by kernel_rfl) (decide_eq_true h2) ·) ?_
   refine dv (AW.r ·) ?_
   refine dv (At.a 1 ·) ?_
   refine Exists.elim (spec_l1Byte_spec  c (by omega)) fun r1_ hr1_ => ?_
   obtain ⟨qr1_, hr1_⟩ := hr1_
   try dsimp only at qr1_
   refine dv (At.c (hr1_) Try.call66 true [(0, 0)] [] [] trivial ·) ?_
   refine dv (At.a 1 ·) ?_
   refine dv (At.div (t := 3) (u := 3) (d := 16) (op := .rem) (x := .tmp 14) (y := .tmp 15) (kd := .i64) (a := r1_.2.2) (b := n) (by kernel_rfl) (by kernel_rfl) (by kernel_rfl) (by kernel_rfl) (by omega) (.int .i64 (r1_.2.2.tmod n)) (.inr ⟨rfl, rfl⟩) ·) ?_
   refine dv (At.say 16 (.int .i64 (r1_.2.2.tmod n)) (.int .i64 (r1_.2.2 % n)) (by kernel_rfl) (sayRem (by omega)) ·) ?_
   refine dv (At.z 1 ·) ?_
   refine dv (AW.ret ·) ?_
   refine dv (⟨_, Sub.refl _ _, ·⟩) ?_
   exact ⟨(r1_.1, r1_.2.1, r1_.2.2 % n), (by refine ⟨by dsimp only; omega, by dsimp only; omega, ?_⟩; dsimp only; first | omega | exact ⟨Int.emod_nonneg _ (by omega), fun _ => Int.emod_lt_of_pos _ (by omega), fun _ => by omega⟩), KF.mk (.inr rfl) [(0, 0)] [.int .i64 (r1_.2.2 % n)] (by kernel_rfl) (by kernel_rfl) (by kernel_rfl) (by kernel_rfl) (by kernel_rfl)⟩
 refine dv (AW.condF (decide (n ≤ 256)) (by kernel_rfl) (decide_eq_false h2) ·) ?_
 refine dv (AW.skip ·) ?_
 refine dv (AW.r ·) ?_
 refine dv (At.a 1 ·) ?_
 refine Exists.elim (spec_l1Byte_spec  c (by omega)) fun r1_ hr1_ => ?_
 obtain ⟨qr1_, hr1_⟩ := hr1_
 try dsimp only at qr1_
 refine dv (At.c (hr1_) Try.call66 true [(0, 0)] [] [] trivial ·) ?_
 refine dv (At.z 1 ·) ?_
 refine dv (AW.r ·) ?_
 refine dv (At.a 1 ·) ?_
 refine Exists.elim (spec_l1Byte_spec  (⟨c.data, r1_.1, r1_.2.1⟩ : Cur) (by dsimp only; omega)) fun r2_ hr2_ => ?_
 obtain ⟨qr2_, hr2_⟩ := hr2_
 try dsimp only at qr2_
 refine dv (At.c (hr2_) Try.call66 true [(0, 0)] [] [] trivial ·) ?_
 refine dv (At.z 1 ·) ?_
 refine dv (AW.r ·) ?_
 refine dv (At.a 1 ·) ?_
 refine Exists.elim (spec_l1Byte_spec  (⟨c.data, r2_.1, r2_.2.1⟩ : Cur) (by dsimp only; omega)) fun r3_ hr3_ => ?_
 obtain ⟨qr3_, hr3_⟩ := hr3_
 try dsimp only at qr3_
 refine dv (At.c (hr3_) Try.call66 true [(0, 0)] [] [] trivial ·) ?_
 refine dv (At.z 1 ·) ?_
 refine dv (AW.r ·) ?_
 refine dv (At.a 1 ·) ?_
 refine Exists.elim (spec_l1Byte_spec  (⟨c.data, r3_.1, r3_.2.1⟩ : Cur) (by dsimp only; omega)) fun r4_ hr4_ => ?_
 obtain ⟨qr4_, hr4_⟩ := hr4_
 try dsimp only at qr4_
 refine dv (At.c (hr4_) Try.call66 true [(0, 0)] [] [] trivial ·) ?_
 refine dv (At.z 1 ·) ?_
 refine dv (AW.r ·) ?_
 refine dv (At.a 2 ·) ?_
 refine dv (At.sI 26 (r1_.2.2 * 16777216) (by omega) ·) ?_
 refine dv (At.a 2 ·) ?_
 refine dv (At.sI 28 (r2_.2.2 * 65536) (by omega) ·) ?_
 refine dv (At.a 1 ·) ?_
 refine dv (At.sI 29 ((r1_.2.2 * 16777216) + (r2_.2.2 * 65536)) (by omega) ·) ?_
 refine dv (At.a 2 ·) ?_
 refine dv (At.sI 31 (r3_.2.2 * 256) (by omega) ·) ?_
 refine dv (At.a 1 ·) ?_
 refine dv (At.sI 32 (((r1_.2.2 * 16777216) + (r2_.2.2 * 65536)) + (r3_.2.2 * 256)) (by omega) ·) ?_
 refine dv (At.a 2 ·) ?_
 refine dv (At.sI 34 ((((r1_.2.2 * 16777216) + (r2_.2.2 * 65536)) + (r3_.2.2 * 256)) + r4_.2.2) (by omega) ·) ?_
 refine dv (At.a 1 ·) ?_
 refine dv (At.div (t := 3) (u := 3) (d := 36) (op := .rem) (x := .tmp 34) (y := .tmp 35) (kd := .i64) (a := (((r1_.2.2 * 16777216) + (r2_.2.2 * 65536)) + (r3_.2.2 * 256)) + r4_.2.2) (b := n) (by kernel_rfl) (by kernel_rfl) (by kernel_rfl) (by kernel_rfl) (by omega) (.int .i64 (((((r1_.2.2 * 16777216) + (r2_.2.2 * 65536)) + (r3_.2.2 * 256)) + r4_.2.2).tmod n)) (.inr ⟨rfl, rfl⟩) ·) ?_
 refine dv (At.say 36 (.int .i64 (((((r1_.2.2 * 16777216) + (r2_.2.2 * 65536)) + (r3_.2.2 * 256)) + r4_.2.2).tmod n)) (.int .i64 (((((r1_.2.2 * 16777216) + (r2_.2.2 * 65536)) + (r3_.2.2 * 256)) + r4_.2.2) % n)) (by kernel_rfl) (sayRem (by omega)) ·) ?_
 refine dv (At.z 1 ·) ?_
 refine dv (AW.ret ·) ?_
 refine dv (⟨_, Sub.refl _ _, ·⟩) ?_
 exact ⟨(r4_.1, r4_.2.1, ((((r1_.2.2 * 16777216) + (r2_.2.2 * 65536)) + (r3_.2.2 * 256)) + r4_.2.2) % n), (by refine ⟨by dsimp only; omega, by dsimp only; omega, ?_⟩; dsimp only; first | omega | exact ⟨Int.emod_nonneg _ (by omega), fun _ => Int.emod_lt_of_pos _ (by omega), fun _ => by omega⟩), KF.mk (.inr rfl) [(0, 0)] [.int .i64 (((((r1_.2.2 * 16777216) + (r2_.2.2 * 65536)) + (r3_.2.2 * 256)) + r4_.2.2) % n)] (by kernel_rfl) (by kernel_rfl) (by kernel_rfl) (by kernel_rfl) (by kernel_rfl)⟩
theorem spec_l1Once_spec  (c : Cur) (n : Int) (hp : 0 ≤ c.pos ∧ c.pos ≤ c.data.length ∧ c.data.length ≤ 1048576) : ∃ rho_ : Int × Int × Bool, (0 ≤ rho_.1 ∧ rho_.1 ≤ c.data.length) ∧ FnSpec Try.prog 29 [.ptr 0 0 0, .int .i64 n] [.box 81 [.sl false 1 (c.data.map encU8), .int .i64 c.pos, .int .i64 c.seed]] (.bool rho_.2.2) [.box 81 [.sl false 1 (c.data.map encU8), .int .i64 rho_.1, .int .i64 rho_.2.1]] := by
 refine dv (fun h_ => FnSpec.of 9 Try.func29 rfl Try.ntmps29 (by simp) (AW.weakK h_)) ?_
 refine dv (AW.q 1 ·) ?_
 refine dv (AW.r ·) ?_
 refine dv (At.a 2 ·) ?_
 refine Exists.elim (spec_l1Below_spec  c n (by omega)) fun r1_ hr1_ => ?_
 obtain ⟨qr1_, hr1_⟩ := hr1_
 try dsimp only at qr1_
 try simp only [Int.reduceLT, Int.reduceLE, true_implies, false_implies, and_true] at qr1_
 refine dv (At.c (hr1_) Try.call46 true [(0, 0)] [] [] trivial ·) ?_
 refine dv (At.z 2 ·) ?_
 refine dv (AW.ret ·) ?_
 refine dv (⟨_, Sub.refl _ _, ·⟩) ?_
 exact ⟨(r1_.1, r1_.2.1, r1_.2.2 == 0), (by dsimp only; omega), KF.mk (.inr rfl) [(0, 0)] [.bool (r1_.2.2 == 0)] (by kernel_rfl) (by kernel_rfl) (by kernel_rfl) (by kernel_rfl) (by kernel_rfl)⟩
theorem spec_l1Pick_spec  (c : Cur) (list : List ByteArray) (hp : 0 ≤ c.pos ∧ c.pos ≤ c.data.length ∧ c.data.length ≤ 1048576) (hl : 0 < list.length ∧ list.length ≤ 1000) : ∃ rho_ : Int × Int × ByteArray, (0 ≤ rho_.1 ∧ rho_.1 ≤ c.data.length ∧ rho_.2.2 ∈ list) ∧ FnSpec Try.prog 47 [.ptr 0 0 0, .ref 1] [.box 81 [.sl false 1 (c.data.map encU8), .int .i64 c.pos, .int .i64 c.seed], .arr 9 1 (list.map encS)] (.str rho_.2.2) [.box 81 [.sl false 1 (c.data.map encU8), .int .i64 rho_.1, .int .i64 rho_.2.1], .arr 9 1 (list.map encS)] := by
 refine dv (fun h_ => FnSpec.of 12 Try.func47 rfl Try.ntmps47 (by simp) (AW.weakK h_)) ?_
 refine dv (AW.q 1 ·) ?_
 refine dv (AW.r ·) ?_
 refine dv (At.a 4 ·) ?_
 refine dv (At.sL 8 encS list ·) ?_
 refine Exists.elim (spec_l1Below_spec  c (list.length : Int) (by omega)) fun r1_ hr1_ => ?_
 obtain ⟨qr1_, hr1_⟩ := hr1_
 try dsimp only at qr1_
 try simp only [Int.reduceLT, Int.reduceLE, true_implies, false_implies, and_true] at qr1_
 refine dv (At.c (hr1_) Try.call46 true [(0, 0)] [] [] trivial ·) ?_
 refine dv (At.iRf 22 10 (.tmp 5) (.tmp 9) 1 (list.map encS) .i64 r1_.2.2 9 1 (by omega) (by simp only [List.length_map]; omega) ·) ?_
 refine Exists.elim (gE list ((r1_.2.2).toNat) (by omega)) fun e1 he1 => ?_
 refine dv (At.lEl 9 11 (.tmp 10) 1 9 1 (list.map encS) ((r1_.2.2).toNat) 0 false 1 (encS e1) (.str e1) (mapGet he1) ·) ?_
 refine dv (At.z 1 ·) ?_
 refine dv (AW.ret ·) ?_
 refine dv (⟨_, Sub.refl _ _, ·⟩) ?_
 exact ⟨(r1_.1, r1_.2.1, e1), ⟨by dsimp only; omega, by dsimp only; omega, List.mem_of_getElem? he1⟩, KF.mk (.inr rfl) [(0, 0), (1, 1)] [.str e1] (by kernel_rfl) (by kernel_rfl) (by kernel_rfl) (by kernel_rfl) (by kernel_rfl)⟩
theorem spec_l15DrawText_spec  (c : Cur) (hp : 0 ≤ c.pos ∧ c.pos ≤ c.data.length ∧ c.data.length ≤ 1048576) : ∃ rho_ : Int × Int × ByteArray, (0 ≤ rho_.1 ∧ rho_.1 ≤ c.data.length ∧ rho_.2.2.size ≤ 1000) ∧ FnSpec Try.prog 30 [.ptr 0 0 0] [.box 81 [.sl false 1 (c.data.map encU8), .int .i64 c.pos, .int .i64 c.seed]] (.str rho_.2.2) [.box 81 [.sl false 1 (c.data.map encU8), .int .i64 rho_.1, .int .i64 rho_.2.1]] := by
 refine dv (fun h_ => FnSpec.of 6 Try.func30 rfl Try.ntmps30 (by simp) (AW.weakK h_)) ?_
 refine dv (AW.q 1 ·) ?_
 refine dv (AW.r ·) ?_
 refine dv (At.a 1 ·) ?_
 refine dv (At.ll 4 9 1 104 (0, 6) (([(⟨#[122, 111, 110, 101, 32, 65, 32, 54, 48, 32, 45, 10]⟩ : ByteArray), (⟨#[122, 111, 110, 101, 32, 65, 32, 48, 32, 45, 10, 122, 111, 110, 101, 32, 66, 32, 51, 48, 32, 45, 10]⟩ : ByteArray), (⟨#[114, 117, 108, 101, 32, 97, 32, 49, 57, 55, 48, 32, 50, 48, 51, 48, 32, 51, 32, 108, 97, 115, 116, 48, 32, 49, 50, 48, 32, 54, 48, 10, 114, 117, 108, 101, 32, 97, 32, 49, 57, 55, 48, 32, 50, 48, 51, 48, 32, 49, 48, 32, 108, 97, 115, 116, 48, 32, 49, 56, 48, 32, 48, 10, 122, 111, 110, 101, 32, 65, 32, 54, 48, 32, 97, 10, 108, 105, 110, 107, 32, 84, 32, 65, 10]⟩ : ByteArray), (⟨#[]⟩ : ByteArray), (⟨#[35, 32, 110, 111, 116, 104, 105, 110, 103, 10]⟩ : ByteArray)]).map encS) ·) ?_
 refine Exists.elim (spec_l1Pick_spec  c ([(⟨#[122, 111, 110, 101, 32, 65, 32, 54, 48, 32, 45, 10]⟩ : ByteArray), (⟨#[122, 111, 110, 101, 32, 65, 32, 48, 32, 45, 10, 122, 111, 110, 101, 32, 66, 32, 51, 48, 32, 45, 10]⟩ : ByteArray), (⟨#[114, 117, 108, 101, 32, 97, 32, 49, 57, 55, 48, 32, 50, 48, 51, 48, 32, 51, 32, 108, 97, 115, 116, 48, 32, 49, 50, 48, 32, 54, 48, 10, 114, 117, 108, 101, 32, 97, 32, 49, 57, 55, 48, 32, 50, 48, 51, 48, 32, 49, 48, 32, 108, 97, 115, 116, 48, 32, 49, 56, 48, 32, 48, 10, 122, 111, 110, 101, 32, 65, 32, 54, 48, 32, 97, 10, 108, 105, 110, 107, 32, 84, 32, 65, 10]⟩ : ByteArray), (⟨#[]⟩ : ByteArray), (⟨#[35, 32, 110, 111, 116, 104, 105, 110, 103, 10]⟩ : ByteArray)]) (by omega) (by decide)) fun r1_ hr1_ => ?_
 obtain ⟨qr1_, hr1_⟩ := hr1_
 try dsimp only at qr1_
 refine dv (At.c (hr1_) Try.call47 true [(0, 0), (104, 1)] [] [] trivial ·) ?_
 have hpk := qr1_.2.2
 have hps := pick_size (n := 1000) (by intro x hx; simp only [List.mem_cons, List.not_mem_nil, or_false] at hx; rcases hx with rfl | rfl | rfl | rfl | rfl <;> decide) hpk
 refine dv (At.z 1 ·) ?_
 refine dv (AW.ret ·) ?_
 refine dv (⟨_, Sub.refl _ _, ·⟩) ?_
 exact ⟨(r1_.1, r1_.2.1, r1_.2.2), (by (try dsimp only); omega), KF.mk (.inr rfl) [(0, 0)] [.str r1_.2.2] (by kernel_rfl) (by kernel_rfl) (by kernel_rfl) (by kernel_rfl) (by kernel_rfl)⟩
theorem spec_l1PickInt_spec  (c : Cur) (list : List Int) (hp : 0 ≤ c.pos ∧ c.pos ≤ c.data.length ∧ c.data.length ≤ 1048576) (hl : 0 < list.length ∧ list.length ≤ 1000) : ∃ rho_ : Int × Int × Int, (0 ≤ rho_.1 ∧ rho_.1 ≤ c.data.length ∧ rho_.2.2 ∈ list) ∧ FnSpec Try.prog 53 [.ptr 0 0 0, .ref 1] [.box 81 [.sl false 1 (c.data.map encU8), .int .i64 c.pos, .int .i64 c.seed], .arr 3 1 (list.map encI)] (.int .i64 rho_.2.2) [.box 81 [.sl false 1 (c.data.map encU8), .int .i64 rho_.1, .int .i64 rho_.2.1], .arr 3 1 (list.map encI)] := by
 refine dv (fun h_ => FnSpec.of 12 Try.func53 rfl Try.ntmps53 (by simp) (AW.weakK h_)) ?_
 refine dv (AW.q 1 ·) ?_
 refine dv (AW.r ·) ?_
 refine dv (At.a 4 ·) ?_
 refine dv (At.sL 8 encI list ·) ?_
 refine Exists.elim (spec_l1Below_spec  c (list.length : Int) (by omega)) fun r1_ hr1_ => ?_
 obtain ⟨qr1_, hr1_⟩ := hr1_
 try dsimp only at qr1_
 try simp only [Int.reduceLT, Int.reduceLE, true_implies, false_implies, and_true] at qr1_
 refine dv (At.c (hr1_) Try.call46 true [(0, 0)] [] [] trivial ·) ?_
 refine dv (At.iRf 39 10 (.tmp 5) (.tmp 9) 1 (list.map encI) .i64 r1_.2.2 3 1 (by omega) (by simp only [List.length_map]; omega) ·) ?_
 refine Exists.elim (gE list ((r1_.2.2).toNat) (by omega)) fun e1 he1 => ?_
 refine dv (At.lEl 3 11 (.tmp 10) 1 3 1 (list.map encI) ((r1_.2.2).toNat) 0 false 1 (encI e1) (.int .i64 e1) (mapGet he1) ·) ?_
 refine dv (At.z 1 ·) ?_
 refine dv (AW.ret ·) ?_
 refine dv (⟨_, Sub.refl _ _, ·⟩) ?_
 exact ⟨(r1_.1, r1_.2.1, e1), ⟨by dsimp only; omega, by dsimp only; omega, List.mem_of_getElem? he1⟩, KF.mk (.inr rfl) [(0, 0), (1, 1)] [.int .i64 e1] (by kernel_rfl) (by kernel_rfl) (by kernel_rfl) (by kernel_rfl) (by kernel_rfl)⟩
theorem spec_l12DrawRule_spec  (c : Cur) (hp : 0 ≤ c.pos ∧ c.pos ≤ c.data.length ∧ c.data.length ≤ 1048576) : ∃ rho_ : Int × Int × Rul, (0 ≤ rho_.1 ∧ rho_.1 ≤ c.data.length ∧ SmR rho_.2.2) ∧ FnSpec Try.prog 79 [.ptr 0 0 0] [.box 81 [.sl false 1 (c.data.map encU8), .int .i64 c.pos, .int .i64 c.seed]] (.agg [.int .i64 rho_.2.2.name, .int .i64 rho_.2.2.from_, .int .i64 rho_.2.2.to, .int .i64 rho_.2.2.month, .int .i64 rho_.2.2.on.kind, .int .i64 rho_.2.2.on.day, .int .i64 rho_.2.2.on.week, .int .i64 rho_.2.2.at_, .int .i64 rho_.2.2.save]) [.box 81 [.sl false 1 (c.data.map encU8), .int .i64 rho_.1, .int .i64 rho_.2.1]] := by
 refine dv (fun h_ => FnSpec.of 47 Try.func79 rfl Try.ntmps79 (by simp) (AW.weakK h_)) ?_
 refine dv (AW.q 1 ·) ?_
 refine dv (AW.r ·) ?_
 refine dv (At.a 1 ·) ?_
 refine Exists.elim (spec_l1Below_spec  c 3 (by omega)) fun r1_ hr1_ => ?_
 obtain ⟨qr1_, hr1_⟩ := hr1_
 try dsimp only at qr1_
 try simp only [Int.reduceLT, Int.reduceLE, true_implies, false_implies, and_true] at qr1_
 refine dv (At.c (hr1_) Try.call46 true [(0, 0)] [] [] trivial ·) ?_
 refine dv (At.a 1 ·) ?_
 refine dv (At.sI 6 (97 + r1_.2.2) (by omega) ·) ?_
 refine dv (At.a 1 ·) ?_
 refine Exists.elim (spec_l1Below_spec  (⟨c.data, r1_.1, r1_.2.1⟩ : Cur) 70 (by dsimp only; omega)) fun r2_ hr2_ => ?_
 obtain ⟨qr2_, hr2_⟩ := hr2_
 try dsimp only at qr2_
 try simp only [Int.reduceLT, Int.reduceLE, true_implies, false_implies, and_true] at qr2_
 refine dv (At.c (hr2_) Try.call46 true [(0, 0)] [] [] trivial ·) ?_
 refine dv (At.a 1 ·) ?_
 refine dv (At.sI 9 (1960 + r2_.2.2) (by omega) ·) ?_
 refine dv (At.a 1 ·) ?_
 refine Exists.elim (spec_l1Below_spec  (⟨c.data, r2_.1, r2_.2.1⟩ : Cur) 12 (by dsimp only; omega)) fun r3_ hr3_ => ?_
 obtain ⟨qr3_, hr3_⟩ := hr3_
 try dsimp only at qr3_
 try simp only [Int.reduceLT, Int.reduceLE, true_implies, false_implies, and_true] at qr3_
 refine dv (At.c (hr3_) Try.call46 true [(0, 0)] [] [] trivial ·) ?_
 refine dv (At.a 1 ·) ?_
 refine dv (At.sI 12 (1 + r3_.2.2) (by omega) ·) ?_
 refine dv (At.a 1 ·) ?_
 refine Exists.elim (spec_l1Below_spec  (⟨c.data, r3_.1, r3_.2.1⟩ : Cur) 24 (by dsimp only; omega)) fun r4_ hr4_ => ?_
 obtain ⟨qr4_, hr4_⟩ := hr4_
 try dsimp only at qr4_
 try simp only [Int.reduceLT, Int.reduceLE, true_implies, false_implies, and_true] at qr4_
 refine dv (At.c (hr4_) Try.call46 true [(0, 0)] [] [] trivial ·) ?_
 refine dv (At.a 1 ·) ?_
 refine dv (At.sI 15 (60 * r4_.2.2) (by omega) ·) ?_
 refine dv (At.a 1 ·) ?_
 refine dv (At.ll 17 3 1 117 (0, 6) (([0, 60, 30, 0]).map encI) ·) ?_
 refine Exists.elim (spec_l1PickInt_spec  (⟨c.data, r4_.1, r4_.2.1⟩ : Cur) ([0, 60, 30, 0]) (by dsimp only; omega) (by decide)) fun r5_ hr5_ => ?_
 obtain ⟨qr5_, hr5_⟩ := hr5_
 try dsimp only at qr5_
 refine dv (At.c (hr5_) Try.call53 true [(0, 0), (117, 1)] [] [] trivial ·) ?_
 have hpk := qr5_.2.2
 simp only [List.mem_cons, List.not_mem_nil, or_false] at hpk
 refine dv (At.z 3 ·) ?_
 refine dv (AW.seq ·) ?_
 refine dv (AW.gD Try_mix ·) ?_
 refine dv (At.a 3 ·) ?_
 refine Exists.elim (spec_l1Below_spec  (⟨c.data, r5_.1, r5_.2.1⟩ : Cur) 20 (by dsimp only; omega)) fun r6_ hr6_ => ?_
 obtain ⟨qr6_, hr6_⟩ := hr6_
 try dsimp only at qr6_
 try simp only [Int.reduceLT, Int.reduceLE, true_implies, false_implies, and_true] at qr6_
 refine dv (At.c (hr6_) Try.call46 true [(0, 0)] [] [] trivial ·) ?_
 refine dv (At.a 1 ·) ?_
 refine dv (At.sI 24 ((1960 + r2_.2.2) + r6_.2.2) (by omega) ·) ?_
 refine dv (At.zD 2 ·) ?_
 refine dv (AW.r ·) ?_
 refine dv (At.a 1 ·) ?_
 refine Exists.elim (spec_l1Below_spec  (⟨c.data, r6_.1, r6_.2.1⟩ : Cur) 7 (by dsimp only; omega)) fun r7_ hr7_ => ?_
 obtain ⟨qr7_, hr7_⟩ := hr7_
 try dsimp only at qr7_
 try simp only [Int.reduceLT, Int.reduceLE, true_implies, false_implies, and_true] at qr7_
 refine dv (At.c (hr7_) Try.call46 true [(0, 0)] [] [] trivial ·) ?_
 refine dv (At.z 3 ·) ?_
 refine dv (AW.seq ·) ?_
 refine dv (AW.r ·) ?_
 refine dv (At.a 1 ·) ?_
 refine Exists.elim (spec_l1Once_spec  (⟨c.data, r7_.1, r7_.2.1⟩ : Cur) 2 (by dsimp only; omega)) fun r8_ hr8_ => ?_
 obtain ⟨qr8_, hr8_⟩ := hr8_
 try dsimp only at qr8_
 refine dv (At.c (hr8_) Try.call29 true [(0, 0)] [] [] trivial ·) ?_
 refine dv (At.done rfl ·) ?_
 by_cases h1 : r8_.2.2 = true
 · refine dv (AW.condT (r8_.2.2) (by kernel_rfl) h1 ·) ?_
   refine dv (AW.g ·) ?_
   refine dv (At.a 1 ·) ?_
   refine Exists.elim (spec_l1Below_spec  (⟨c.data, r8_.1, r8_.2.1⟩ : Cur) 7 (by dsimp only; omega)) fun r9_ hr9_ => ?_
   obtain ⟨qr9_, hr9_⟩ := hr9_
   try dsimp only at qr9_
   try simp only [Int.reduceLT, Int.reduceLE, true_implies, false_implies, and_true] at qr9_
   refine dv (At.c (hr9_) Try.call46 true [(0, 0)] [] [] trivial ·) ?_
   refine dv (At.a 1 ·) ?_
   refine Exists.elim (spec_l1Below_spec  (⟨c.data, r9_.1, r9_.2.1⟩ : Cur) 20 (by dsimp only; omega)) fun r10_ hr10_ => ?_
   obtain ⟨qr10_, hr10_⟩ := hr10_
   try dsimp only at qr10_
   try simp only [Int.reduceLT, Int.reduceLE, true_implies, false_implies, and_true] at qr10_
   refine dv (At.c (hr10_) Try.call46 true [(0, 0)] [] [] trivial ·) ?_
   refine dv (At.a 1 ·) ?_
   refine dv (At.sI 36 (1 + r10_.2.2) (by omega) ·) ?_
   refine dv (At.z 3 ·) ?_
   refine dv (AW.seq ·) ?_
   refine dv (AW.r ·) ?_
   refine dv (At.a 1 ·) ?_
   refine Exists.elim (spec_l1Once_spec  (⟨c.data, r10_.1, r10_.2.1⟩ : Cur) 4 (by dsimp only; omega)) fun r11_ hr11_ => ?_
   obtain ⟨qr11_, hr11_⟩ := hr11_
   try dsimp only at qr11_
   refine dv (At.c (hr11_) Try.call29 true [(0, 0)] [] [] trivial ·) ?_
   refine dv (At.done rfl ·) ?_
   by_cases h2 : r11_.2.2 = true
   · refine dv (AW.condT (r11_.2.2) (by kernel_rfl) h2 ·) ?_
     refine dv (AW.g ·) ?_
     refine dv (At.a 1 ·) ?_
     refine Exists.elim (spec_l1Below_spec  (⟨c.data, r11_.1, r11_.2.1⟩ : Cur) 31 (by dsimp only; omega)) fun r12_ hr12_ => ?_
     obtain ⟨qr12_, hr12_⟩ := hr12_
     try dsimp only at qr12_
     try simp only [Int.reduceLT, Int.reduceLE, true_implies, false_implies, and_true] at qr12_
     refine dv (At.c (hr12_) Try.call46 true [(0, 0)] [] [] trivial ·) ?_
     refine dv (At.a 1 ·) ?_
     refine dv (At.sI 43 (1 + r12_.2.2) (by omega) ·) ?_
     refine dv (At.z 3 ·) ?_
     refine dv (AW.q 2 ·) ?_
     refine dv (AW.ret ·) ?_
     refine dv (⟨_, Sub.refl _ _, ·⟩) ?_
     exact ⟨(r12_.1, r12_.2.1, (⟨97 + r1_.2.2, 1960 + r2_.2.2, (1960 + r2_.2.2) + r6_.2.2, 1 + r3_.2.2, ⟨1, 1 + r12_.2.2, 0⟩, 60 * r4_.2.2, r5_.2.2⟩ : Rul)), ⟨by (try dsimp only); omega, by (try dsimp only); omega, by unfold SmR Sm; dsimp only; omega⟩, KF.mk (.inr rfl) [(0, 0)] [.agg [.int .i64 (97 + r1_.2.2), .int .i64 (1960 + r2_.2.2), .int .i64 ((1960 + r2_.2.2) + r6_.2.2), .int .i64 (1 + r3_.2.2), .int .i64 1, .int .i64 (1 + r12_.2.2), .int .i64 0, .int .i64 (60 * r4_.2.2), .int .i64 r5_.2.2]] (by kernel_rfl) (by kernel_rfl) (by kernel_rfl) (by kernel_rfl) (by kernel_rfl)⟩
   replace h2 := Bool.eq_false_iff.2 h2
   refine dv (AW.condF (r11_.2.2) (by kernel_rfl) h2 ·) ?_
   refine dv (AW.skip ·) ?_
   refine dv (AW.q 2 ·) ?_
   refine dv (AW.ret ·) ?_
   refine dv (⟨_, Sub.refl _ _, ·⟩) ?_
   exact ⟨(r11_.1, r11_.2.1, (⟨97 + r1_.2.2, 1960 + r2_.2.2, (1960 + r2_.2.2) + r6_.2.2, 1 + r3_.2.2, ⟨3, 1 + r10_.2.2, r9_.2.2⟩, 60 * r4_.2.2, r5_.2.2⟩ : Rul)), ⟨by (try dsimp only); omega, by (try dsimp only); omega, by unfold SmR Sm; dsimp only; omega⟩, KF.mk (.inr rfl) [(0, 0)] [.agg [.int .i64 (97 + r1_.2.2), .int .i64 (1960 + r2_.2.2), .int .i64 ((1960 + r2_.2.2) + r6_.2.2), .int .i64 (1 + r3_.2.2), .int .i64 3, .int .i64 (1 + r10_.2.2), .int .i64 r9_.2.2, .int .i64 (60 * r4_.2.2), .int .i64 r5_.2.2]] (by kernel_rfl) (by kernel_rfl) (by kernel_rfl) (by kernel_rfl) (by kernel_rfl)⟩
 replace h1 := Bool.eq_false_iff.2 h1
 refine dv (AW.condF (r8_.2.2) (by kernel_rfl) h1 ·) ?_
 refine dv (AW.skip ·) ?_
 refine dv (AW.seq ·) ?_
 refine dv (AW.r ·) ?_
 refine dv (At.a 1 ·) ?_
 refine Exists.elim (spec_l1Once_spec  (⟨c.data, r8_.1, r8_.2.1⟩ : Cur) 4 (by dsimp only; omega)) fun r9_ hr9_ => ?_
 obtain ⟨qr9_, hr9_⟩ := hr9_
 try dsimp only at qr9_
 refine dv (At.c (hr9_) Try.call29 true [(0, 0)] [] [] trivial ·) ?_
 refine dv (At.done rfl ·) ?_
 by_cases h3 : r9_.2.2 = true
 · refine dv (AW.condT (r9_.2.2) (by kernel_rfl) h3 ·) ?_
   refine dv (AW.g ·) ?_
   refine dv (At.a 1 ·) ?_
   refine Exists.elim (spec_l1Below_spec  (⟨c.data, r9_.1, r9_.2.1⟩ : Cur) 31 (by dsimp only; omega)) fun r10_ hr10_ => ?_
   obtain ⟨qr10_, hr10_⟩ := hr10_
   try dsimp only at qr10_
   try simp only [Int.reduceLT, Int.reduceLE, true_implies, false_implies, and_true] at qr10_
   refine dv (At.c (hr10_) Try.call46 true [(0, 0)] [] [] trivial ·) ?_
   refine dv (At.a 1 ·) ?_
   refine dv (At.sI 43 (1 + r10_.2.2) (by omega) ·) ?_
   refine dv (At.z 3 ·) ?_
   refine dv (AW.q 2 ·) ?_
   refine dv (AW.ret ·) ?_
   refine dv (⟨_, Sub.refl _ _, ·⟩) ?_
   exact ⟨(r10_.1, r10_.2.1, (⟨97 + r1_.2.2, 1960 + r2_.2.2, (1960 + r2_.2.2) + r6_.2.2, 1 + r3_.2.2, ⟨1, 1 + r10_.2.2, 0⟩, 60 * r4_.2.2, r5_.2.2⟩ : Rul)), ⟨by (try dsimp only); omega, by (try dsimp only); omega, by unfold SmR Sm; dsimp only; omega⟩, KF.mk (.inr rfl) [(0, 0)] [.agg [.int .i64 (97 + r1_.2.2), .int .i64 (1960 + r2_.2.2), .int .i64 ((1960 + r2_.2.2) + r6_.2.2), .int .i64 (1 + r3_.2.2), .int .i64 1, .int .i64 (1 + r10_.2.2), .int .i64 0, .int .i64 (60 * r4_.2.2), .int .i64 r5_.2.2]] (by kernel_rfl) (by kernel_rfl) (by kernel_rfl) (by kernel_rfl) (by kernel_rfl)⟩
 replace h3 := Bool.eq_false_iff.2 h3
 refine dv (AW.condF (r9_.2.2) (by kernel_rfl) h3 ·) ?_
 refine dv (AW.skip ·) ?_
 refine dv (AW.q 2 ·) ?_
 refine dv (AW.ret ·) ?_
 refine dv (⟨_, Sub.refl _ _, ·⟩) ?_
 exact ⟨(r9_.1, r9_.2.1, (⟨97 + r1_.2.2, 1960 + r2_.2.2, (1960 + r2_.2.2) + r6_.2.2, 1 + r3_.2.2, ⟨2, 0, r7_.2.2⟩, 60 * r4_.2.2, r5_.2.2⟩ : Rul)), ⟨by (try dsimp only); omega, by (try dsimp only); omega, by unfold SmR Sm; dsimp only; omega⟩, KF.mk (.inr rfl) [(0, 0)] [.agg [.int .i64 (97 + r1_.2.2), .int .i64 (1960 + r2_.2.2), .int .i64 ((1960 + r2_.2.2) + r6_.2.2), .int .i64 (1 + r3_.2.2), .int .i64 2, .int .i64 0, .int .i64 r7_.2.2, .int .i64 (60 * r4_.2.2), .int .i64 r5_.2.2]] (by kernel_rfl) (by kernel_rfl) (by kernel_rfl) (by kernel_rfl) (by kernel_rfl)⟩
theorem spec_l12DrawRight_spec  (c : Cur) (hp : 0 ≤ c.pos ∧ c.pos ≤ c.data.length ∧ c.data.length ≤ 1048576) : ∃ rho_ : Int × Int × Srce, (0 ≤ rho_.1 ∧ rho_.1 ≤ c.data.length ∧ SmS 20 4 3 rho_.2.2) ∧ FnSpec Try.prog 71 [.ptr 0 0 0] [.box 81 [.sl false 1 (c.data.map encU8), .int .i64 c.pos, .int .i64 c.seed]] (.agg [.ref 1, .ref 2, .ref 3]) [.box 81 [.sl false 1 (c.data.map encU8), .int .i64 rho_.1, .int .i64 rho_.2.1], .arr 88 9 (rho_.2.2.rules.map encRul), .arr 92 3 (rho_.2.2.zones.map encZon), .arr 94 2 (rho_.2.2.links.map encLnk)] := by
 refine dv (fun h_ => FnSpec.of 112 Try.func71 rfl Try.ntmps71 (by simp) (AW.weakK h_)) ?_
 refine dv (AW.q 1 ·) ?_
 refine dv (AW.seq ·) ?_
 refine dv (AW.weak (Sub.nils [⟨true, 102, some 0, 5001, 88, 9⟩, ⟨true, 102, some 1, 5002, 92, 3⟩, ⟨true, 102, some 2, 5003, 94, 2⟩] (by kernel_rfl)) ·) ?_
 refine dv (AW.gq 3 ·) ?_
 refine dv (AW.seq ·) ?_
 refine dv (AW.seq ·) ?_
 refine dv (AW.weak (Sub.nils [⟨true, 103, some 0, 5004, 88, 9⟩, ⟨true, 103, some 1, 5005, 92, 3⟩, ⟨true, 103, some 2, 5006, 94, 2⟩] (by kernel_rfl)) ·) ?_
 refine dv (AW.gq 1 ·) ?_
 refine dv (AW.block ·) ?_
 refine DW.loopQ (fun (x : Nat × Srce × Int × Int) => match x with | (k, q, p, s) => Go.Sy.mk [.ptr 0 0 0, .un, .ptr 102 0 0, .ptr 103 0 0, .int .i64 (k : Int)] [(0, .box 81 [.sl false 1 (c.data.map encU8), .int .i64 p, .int .i64 s]), (102, .box 60 [.ref 5001, .ref 5002, .ref 5003]), (103, .box 60 [.ref 5004, .ref 5005, .ref 5006]), (5001, .arr 88 9 []), (5002, .arr 92 3 []), (5003, .arr 94 2 []), (5004, .arr 88 9 (q.rules.map encRul)), (5005, .arr 92 3 (q.zones.map encZon)), (5006, .arr 94 2 (q.links.map encLnk))]) (fun (x : Nat × Srce × Int × Int) => match x with | (k, q, p, s) => (0 ≤ p ∧ p ≤ c.data.length) ∧ k ≤ 5 ∧ SmS k 0 0 q) (fun (x : Nat × Srce × Int × Int) => match x with | (k, q, p, s) => 5 - k) (0, (⟨[], [], []⟩ : Srce), c.pos, c.seed) ⟨by (try dsimp only); omega, by omega, SmS.none⟩ (Sub.o [(0, 0), (102, 102), (103, 103), (5001, 5001), (5002, 5002), (5003, 5003), (5004, 5004), (5005, 5005), (5006, 5006)] [true, false, true, true, true]) ?_
 rintro ⟨k, q, p, s⟩ ⟨hcp, hR⟩ ih1
 obtain ⟨hS1, hS2, hS3, hS4, hS5⟩ := id hR.2
 refine dv (AW.seq ·) ?_
 refine dv (AW.r ·) ?_
 refine dv (At.a 2 ·) ?_
 refine Exists.elim (spec_l1Below_spec  (⟨c.data, p, s⟩ : Cur) 5 (by dsimp only; omega)) fun r1_ hr1_ => ?_
 obtain ⟨qr1_, hr1_⟩ := hr1_
 try dsimp only at qr1_
 try simp only [Int.reduceLT, Int.reduceLE, true_implies, false_implies, and_true] at qr1_
 refine dv (At.c (hr1_) Try.call46 true [(0, 0)] [] [] trivial ·) ?_
 refine dv (At.z 1 ·) ?_
 by_cases h1 : (k : Int) < r1_.2.2
 · refine dv (AW.condT (decide ((k : Int) < r1_.2.2)) (by kernel_rfl) (decide_eq_true h1) ·) ?_
   refine dv (AW.skip ·) ?_
   refine dv (AW.seq ·) ?_
   refine dv (AW.block ·) ?_
   refine dv (AW.gD Try_mix ·) ?_
   refine dv (At.a 3 ·) ?_
   refine Exists.elim (spec_l12DrawRule_spec  (⟨c.data, r1_.1, r1_.2.1⟩ : Cur) (by dsimp only; omega)) fun r2_ hr2_ => ?_
   obtain ⟨qr2_, hr2_⟩ := hr2_
   try dsimp only at qr2_
   refine dv (At.c (hr2_) Try.call79 true [(0, 0)] [] [] trivial ·) ?_
   have hSr := qr2_.2.2
   refine dv (At.ll 20 88 9 120 (0, 6) (([r2_.2.2]).map encRul) ·) ?_
   refine dv (At.apK 21 88 9 72 121 5004 120 encRul q.rules ([r2_.2.2]) (by simp only [List.length_map, List.length_append, List.length_take, List.length_drop, List.length_replicate, List.length_set, List.length_cons, List.length_nil]; omega) ·) ?_
   refine dv (At.zD 2 ·) ?_
   refine dv (AW.g ·) ?_
   refine dv (At.a 2 ·) ?_
   refine dv (At.sI 15 ((k : Int) + 1) (by omega) ·) ?_
   refine dv (At.z 1 ·) ?_
   exact dw (fun _ h_ => AWL.weak (Sub.o [(0, 0), (102, 102), (103, 103), (5001, 5001), (5002, 5002), (5003, 5003), (121, 5004), (5005, 5005), (5006, 5006)] [true, false, true, true, true]) h_) (ih1 (k + 1, (⟨q.rules ++ ([r2_.2.2]), q.zones, q.links⟩ : Srce), r2_.1, r2_.2.1) (⟨by (try dsimp only); omega, by omega, SmS.rule hR.2 hSr⟩) (by simp only; omega))
 refine dv (AW.condF (decide ((k : Int) < r1_.2.2)) (by kernel_rfl) (decide_eq_false h1) ·) ?_
 refine dv (AW.exit ·) ?_
 refine dv (AW.q 1 ·) ?_
 refine dv (AW.seq ·) ?_
 refine dv (AW.q 1 ·) ?_
 refine dv (AW.block ·) ?_
 refine DW.loopQ (fun (x : Nat × Srce × Int × Int × Int) => match x with | (k, q, nm, p, s) => Go.Sy.mk [.ptr 0 0 0, .un, .ptr 102 0 0, .ptr 103 0 0, .un, .int .i32 nm, .int .i64 (k : Int)] [(0, .box 81 [.sl false 1 (c.data.map encU8), .int .i64 p, .int .i64 s]), (102, .box 60 [.ref 5001, .ref 5002, .ref 5003]), (103, .box 60 [.ref 5004, .ref 5005, .ref 5006]), (5001, .arr 88 9 []), (5002, .arr 92 3 []), (5003, .arr 94 2 []), (5004, .arr 88 9 (q.rules.map encRul)), (5005, .arr 92 3 (q.zones.map encZon)), (5006, .arr 94 2 (q.links.map encLnk))]) (fun (x : Nat × Srce × Int × Int × Int) => match x with | (k, q, nm, p, s) => (0 ≤ p ∧ p ≤ c.data.length) ∧ k ≤ 4 ∧ SmS 5 k 0 q ∧ 65 ≤ nm ∧ nm ≤ 65 + 2 * (k : Int)) (fun (x : Nat × Srce × Int × Int × Int) => match x with | (k, q, nm, p, s) => 4 - k) (0, q, 65, r1_.1, r1_.2.1) ⟨by (try dsimp only); omega, by omega, SmS.mono hR.2 (by omega) (by decide) (by decide), by omega, by omega⟩ (Sub.o [(0, 0), (102, 102), (103, 103), (5001, 5001), (5002, 5002), (5003, 5003), (5004, 5004), (5005, 5005), (5006, 5006)] [true, false, true, true, false, true, true]) ?_
 rintro ⟨k, q, nm, p, s⟩ ⟨hcp, hR⟩ ih2
 obtain ⟨hS1, hS2, hS3, hS4, hS5⟩ := id hR.2.1
 refine dv (AW.seq ·) ?_
 refine dv (AW.r ·) ?_
 refine dv (At.a 2 ·) ?_
 refine Exists.elim (spec_l1Below_spec  (⟨c.data, p, s⟩ : Cur) 4 (by dsimp only; omega)) fun r2_ hr2_ => ?_
 obtain ⟨qr2_, hr2_⟩ := hr2_
 try dsimp only at qr2_
 try simp only [Int.reduceLT, Int.reduceLE, true_implies, false_implies, and_true] at qr2_
 refine dv (At.c (hr2_) Try.call46 true [(0, 0)] [] [] trivial ·) ?_
 refine dv (At.z 1 ·) ?_
 by_cases h2 : (k : Int) < r2_.2.2
 · refine dv (AW.condT (decide ((k : Int) < r2_.2.2)) (by kernel_rfl) (decide_eq_true h2) ·) ?_
   refine dv (AW.skip ·) ?_
   refine dv (AW.seq ·) ?_
   refine dv (AW.block ·) ?_
   refine dv (AW.r ·) ?_
   refine dv (At.a 1 ·) ?_
   refine dv (At.conv (s := 21) (t := 3) (d := 30) (x := .tmp 29) (kd := .i32) (kd' := .i64) (a := nm) (.int .i64 nm) (by kernel_rfl) (by kernel_rfl) (by kernel_rfl) (by kernel_rfl) (sayI _ (by omega)) ·) ?_
   refine dv (At.a 1 ·) ?_
   refine Exists.elim (spec_l1Below_spec  (⟨c.data, r2_.1, r2_.2.1⟩ : Cur) 50 (by dsimp only; omega)) fun r3_ hr3_ => ?_
   obtain ⟨qr3_, hr3_⟩ := hr3_
   try dsimp only at qr3_
   try simp only [Int.reduceLT, Int.reduceLE, true_implies, false_implies, and_true] at qr3_
   refine dv (At.c (hr3_) Try.call46 true [(0, 0)] [] [] trivial ·) ?_
   refine dv (At.a 1 ·) ?_
   refine dv (At.sI 33 (30 * r3_.2.2) (by omega) ·) ?_
   refine dv (At.a 1 ·) ?_
   refine dv (At.sI 34 ((30 * r3_.2.2) - 720) (by omega) ·) ?_
   refine dv (At.z 3 ·) ?_
   refine dv (AW.seq ·) ?_
   refine dv (AW.r ·) ?_
   refine dv (At.a 3 ·) ?_
   refine dv (At.sL 38 encRul q.rules ·) ?_
   refine dv (At.a 2 ·) ?_
   by_cases h3 : (q.rules.length : Int) > 0
   · refine dv (At.sB 40 _ _ (sayT h3) ·) ?_
     refine dv (At.a 1 ·) ?_
     refine Exists.elim (spec_l1Once_spec  (⟨c.data, r3_.1, r3_.2.1⟩ : Cur) 4 (by dsimp only; omega)) fun r4_ hr4_ => ?_
     obtain ⟨qr4_, hr4_⟩ := hr4_
     try dsimp only at qr4_
     refine dv (At.c (hr4_) Try.call29 true [(0, 0)] [] [] trivial ·) ?_
     refine dv (At.z 2 ·) ?_
     by_cases h4 : r4_.2.2 = true
     · refine dv (AW.condF (!r4_.2.2) (by kernel_rfl) (by rw [show (r4_.2.2) = true from h4]; rfl) ·) ?_
       refine dv (AW.skip ·) ?_
       refine dv (AW.r ·) ?_
       refine dv (At.a 3 ·) ?_
       refine dv (At.ll 59 92 3 159 (0, 6) (([(⟨nm, (30 * r3_.2.2) - 720, 0⟩ : Zon)]).map encZon) ·) ?_
       refine dv (At.apK 60 92 3 24 160 5005 159 encZon q.zones ([(⟨nm, (30 * r3_.2.2) - 720, 0⟩ : Zon)]) (by simp only [List.length_map, List.length_append, List.length_take, List.length_drop, List.length_replicate, List.length_set, List.length_cons, List.length_nil]; omega) ·) ?_
       refine dv (At.z 2 ·) ?_
       refine dv (AW.g ·) ?_
       refine dv (At.a 2 ·) ?_
       refine dv (At.say 63 (.int .i32 (IntKind.i32.wrap (nm + 1))) (.int .i32 (nm + 1)) (by kernel_rfl) (say32 _ (by omega)) ·) ?_
       refine dv (At.a 1 ·) ?_
       refine Exists.elim (spec_l1Below_spec  (⟨c.data, r4_.1, r4_.2.1⟩ : Cur) 2 (by dsimp only; omega)) fun r5_ hr5_ => ?_
       obtain ⟨qr5_, hr5_⟩ := hr5_
       try dsimp only at qr5_
       try simp only [Int.reduceLT, Int.reduceLE, true_implies, false_implies, and_true] at qr5_
       refine dv (At.c (hr5_) Try.call46 true [(0, 0)] [] [] trivial ·) ?_
       refine dv (At.conv (s := 3) (t := 21) (d := 66) (x := .tmp 65) (kd := .i64) (kd' := .i32) (a := r5_.2.2) (.int .i32 r5_.2.2) (by kernel_rfl) (by kernel_rfl) (by kernel_rfl) (by kernel_rfl) (say32 _ (by omega)) ·) ?_
       refine dv (At.a 1 ·) ?_
       refine dv (At.say 67 (.int .i32 (IntKind.i32.wrap ((nm + 1) + r5_.2.2))) (.int .i32 (nm + 1 + r5_.2.2)) (by kernel_rfl) (say32 _ (by omega)) ·) ?_
       refine dv (At.z 1 ·) ?_
       refine dv (AW.g ·) ?_
       refine dv (At.a 2 ·) ?_
       refine dv (At.sI 28 ((k : Int) + 1) (by omega) ·) ?_
       refine dv (At.z 1 ·) ?_
       exact dw (fun _ h_ => AWL.weak (Sub.o [(0, 0), (102, 102), (103, 103), (5001, 5001), (5002, 5002), (5003, 5003), (5004, 5004), (160, 5005), (5006, 5006)] [true, false, true, true, false, true, true]) h_) (ih2 (k + 1, (⟨q.rules, q.zones ++ ([(⟨nm, (30 * r3_.2.2) - 720, 0⟩ : Zon)]), q.links⟩ : Srce), (nm + 1 + r5_.2.2), r5_.1, r5_.2.1) (⟨by (try dsimp only); omega, by omega, SmS.zone hR.2.1 (by unfold Sm; dsimp only; omega), by omega, by omega⟩) (by simp only; omega))
     replace h4 := Bool.eq_false_iff.2 h4
     refine dv (AW.condT (!r4_.2.2) (by kernel_rfl) (by rw [show (r4_.2.2) = false from h4]; rfl) ·) ?_
     refine dv (AW.gD Try_mix ·) ?_
     refine dv (At.a 6 ·) ?_
     refine dv (At.sL 50 encRul q.rules ·) ?_
     refine Exists.elim (spec_l1Below_spec  (⟨c.data, r4_.1, r4_.2.1⟩ : Cur) (q.rules.length : Int) (by dsimp only; omega)) fun r5_ hr5_ => ?_
     obtain ⟨qr5_, hr5_⟩ := hr5_
     try dsimp only at qr5_
     try simp only [Int.reduceLT, Int.reduceLE, true_implies, false_implies, and_true] at qr5_
     refine dv (At.c (hr5_) Try.call46 true [(0, 0)] [] [] trivial ·) ?_
     refine dv (At.iRf 56 52 (.tmp 46) (.tmp 51) 5004 (q.rules.map encRul) .i64 r5_.2.2 88 9 (by omega) (by simp only [List.length_map]; omega) ·) ?_
     refine dv (At.a 1 ·) ?_
     refine Exists.elim (gE q.rules ((r5_.2.2).toNat) (by omega)) fun e1 he1 => ?_
     refine dv (At.lEl 3 54 (.tmp 53) 5004 88 9 (q.rules.map encRul) ((r5_.2.2).toNat) 0 false 1 (encRul e1) (.int .i64 e1.name) (mapGet he1) ·) ?_
     refine dv (At.zD 2 ·) ?_
     refine dv (AW.r ·) ?_
     refine dv (At.a 3 ·) ?_
     refine dv (At.ll 59 92 3 159 (0, 6) (([(⟨nm, (30 * r3_.2.2) - 720, e1.name⟩ : Zon)]).map encZon) ·) ?_
     refine dv (At.apK 60 92 3 24 160 5005 159 encZon q.zones ([(⟨nm, (30 * r3_.2.2) - 720, e1.name⟩ : Zon)]) (by simp only [List.length_map, List.length_append, List.length_take, List.length_drop, List.length_replicate, List.length_set, List.length_cons, List.length_nil]; omega) ·) ?_
     refine dv (At.z 2 ·) ?_
     refine dv (AW.g ·) ?_
     refine dv (At.a 2 ·) ?_
     refine dv (At.say 63 (.int .i32 (IntKind.i32.wrap (nm + 1))) (.int .i32 (nm + 1)) (by kernel_rfl) (say32 _ (by omega)) ·) ?_
     refine dv (At.a 1 ·) ?_
     refine Exists.elim (spec_l1Below_spec  (⟨c.data, r5_.1, r5_.2.1⟩ : Cur) 2 (by dsimp only; omega)) fun r6_ hr6_ => ?_
     obtain ⟨qr6_, hr6_⟩ := hr6_
     try dsimp only at qr6_
     try simp only [Int.reduceLT, Int.reduceLE, true_implies, false_implies, and_true] at qr6_
     refine dv (At.c (hr6_) Try.call46 true [(0, 0)] [] [] trivial ·) ?_
     refine dv (At.conv (s := 3) (t := 21) (d := 66) (x := .tmp 65) (kd := .i64) (kd' := .i32) (a := r6_.2.2) (.int .i32 r6_.2.2) (by kernel_rfl) (by kernel_rfl) (by kernel_rfl) (by kernel_rfl) (say32 _ (by omega)) ·) ?_
     refine dv (At.a 1 ·) ?_
     refine dv (At.say 67 (.int .i32 (IntKind.i32.wrap ((nm + 1) + r6_.2.2))) (.int .i32 (nm + 1 + r6_.2.2)) (by kernel_rfl) (say32 _ (by omega)) ·) ?_
     refine dv (At.z 1 ·) ?_
     refine dv (AW.g ·) ?_
     refine dv (At.a 2 ·) ?_
     refine dv (At.sI 28 ((k : Int) + 1) (by omega) ·) ?_
     refine dv (At.z 1 ·) ?_
     exact dw (fun _ h_ => AWL.weak (Sub.o [(0, 0), (102, 102), (103, 103), (5001, 5001), (5002, 5002), (5003, 5003), (5004, 5004), (160, 5005), (5006, 5006)] [true, false, true, true, false, true, true]) h_) (ih2 (k + 1, (⟨q.rules, q.zones ++ ([(⟨nm, (30 * r3_.2.2) - 720, e1.name⟩ : Zon)]), q.links⟩ : Srce), (nm + 1 + r6_.2.2), r6_.1, r6_.2.1) (⟨by (try dsimp only); omega, by omega, SmS.zone hR.2.1 (by unfold Sm; dsimp only; omega), by omega, by omega⟩) (by simp only; omega))
   refine dv (At.sB 40 _ _ (sayF h3) ·) ?_
   refine dv (At.z 4 ·) ?_
   refine dv (fun h_ => AW.cond false (by kernel_rfl) (fun h => by cases h) (fun _ => h_)) ?_
   refine dv (AW.skip ·) ?_
   refine dv (AW.r ·) ?_
   refine dv (At.a 3 ·) ?_
   refine dv (At.ll 59 92 3 159 (0, 6) (([(⟨nm, (30 * r3_.2.2) - 720, 0⟩ : Zon)]).map encZon) ·) ?_
   refine dv (At.apK 60 92 3 24 160 5005 159 encZon q.zones ([(⟨nm, (30 * r3_.2.2) - 720, 0⟩ : Zon)]) (by simp only [List.length_map, List.length_append, List.length_take, List.length_drop, List.length_replicate, List.length_set, List.length_cons, List.length_nil]; omega) ·) ?_
   refine dv (At.z 2 ·) ?_
   refine dv (AW.g ·) ?_
   refine dv (At.a 2 ·) ?_
   refine dv (At.say 63 (.int .i32 (IntKind.i32.wrap (nm + 1))) (.int .i32 (nm + 1)) (by kernel_rfl) (say32 _ (by omega)) ·) ?_
   refine dv (At.a 1 ·) ?_
   refine Exists.elim (spec_l1Below_spec  (⟨c.data, r3_.1, r3_.2.1⟩ : Cur) 2 (by dsimp only; omega)) fun r4_ hr4_ => ?_
   obtain ⟨qr4_, hr4_⟩ := hr4_
   try dsimp only at qr4_
   try simp only [Int.reduceLT, Int.reduceLE, true_implies, false_implies, and_true] at qr4_
   refine dv (At.c (hr4_) Try.call46 true [(0, 0)] [] [] trivial ·) ?_
   refine dv (At.conv (s := 3) (t := 21) (d := 66) (x := .tmp 65) (kd := .i64) (kd' := .i32) (a := r4_.2.2) (.int .i32 r4_.2.2) (by kernel_rfl) (by kernel_rfl) (by kernel_rfl) (by kernel_rfl) (say32 _ (by omega)) ·) ?_
   refine dv (At.a 1 ·) ?_
   refine dv (At.say 67 (.int .i32 (IntKind.i32.wrap ((nm + 1) + r4_.2.2))) (.int .i32 (nm + 1 + r4_.2.2)) (by kernel_rfl) (say32 _ (by omega)) ·) ?_
   refine dv (At.z 1 ·) ?_
   refine dv (AW.g ·) ?_
   refine dv (At.a 2 ·) ?_
   refine dv (At.sI 28 ((k : Int) + 1) (by omega) ·) ?_
   refine dv (At.z 1 ·) ?_
   exact dw (fun _ h_ => AWL.weak (Sub.o [(0, 0), (102, 102), (103, 103), (5001, 5001), (5002, 5002), (5003, 5003), (5004, 5004), (160, 5005), (5006, 5006)] [true, false, true, true, false, true, true]) h_) (ih2 (k + 1, (⟨q.rules, q.zones ++ ([(⟨nm, (30 * r3_.2.2) - 720, 0⟩ : Zon)]), q.links⟩ : Srce), (nm + 1 + r4_.2.2), r4_.1, r4_.2.1) (⟨by (try dsimp only); omega, by omega, SmS.zone hR.2.1 (by unfold Sm; dsimp only; omega), by omega, by omega⟩) (by simp only; omega))
 refine dv (AW.condF (decide ((k : Int) < r2_.2.2)) (by kernel_rfl) (decide_eq_false h2) ·) ?_
 refine dv (AW.exit ·) ?_
 refine dv (AW.seq ·) ?_
 refine dv (AW.q 1 ·) ?_
 refine dv (AW.block ·) ?_
 refine DW.loopQ (fun (x : Nat × Srce × Int × Int) => match x with | (k, q, p, s) => Go.Sy.mk [.ptr 0 0 0, .un, .ptr 102 0 0, .ptr 103 0 0, .un, .un, .un, .un, .int .i64 (k : Int)] [(0, .box 81 [.sl false 1 (c.data.map encU8), .int .i64 p, .int .i64 s]), (102, .box 60 [.ref 5001, .ref 5002, .ref 5003]), (103, .box 60 [.ref 5004, .ref 5005, .ref 5006]), (5001, .arr 88 9 []), (5002, .arr 92 3 []), (5003, .arr 94 2 []), (5004, .arr 88 9 (q.rules.map encRul)), (5005, .arr 92 3 (q.zones.map encZon)), (5006, .arr 94 2 (q.links.map encLnk))]) (fun (x : Nat × Srce × Int × Int) => match x with | (k, q, p, s) => (0 ≤ p ∧ p ≤ c.data.length) ∧ k ≤ 3 ∧ SmS 5 4 k q) (fun (x : Nat × Srce × Int × Int) => match x with | (k, q, p, s) => 3 - k) (0, q, r2_.1, r2_.2.1) ⟨by (try dsimp only); omega, by omega, SmS.mono hR.2.1 (by decide) (by omega) (by decide)⟩ (Sub.o [(0, 0), (102, 102), (103, 103), (5001, 5001), (5002, 5002), (5003, 5003), (5004, 5004), (5005, 5005), (5006, 5006)] [true, false, true, true, false, false, false, false, true]) ?_
 rintro ⟨k, q, p, s⟩ ⟨hcp, hR⟩ ih3
 obtain ⟨hS1, hS2, hS3, hS4, hS5⟩ := id hR.2
 refine dv (AW.seq ·) ?_
 refine dv (AW.r ·) ?_
 refine dv (At.a 2 ·) ?_
 refine Exists.elim (spec_l1Below_spec  (⟨c.data, p, s⟩ : Cur) 3 (by dsimp only; omega)) fun r3_ hr3_ => ?_
 obtain ⟨qr3_, hr3_⟩ := hr3_
 try dsimp only at qr3_
 try simp only [Int.reduceLT, Int.reduceLE, true_implies, false_implies, and_true] at qr3_
 refine dv (At.c (hr3_) Try.call46 true [(0, 0)] [] [] trivial ·) ?_
 refine dv (At.a 2 ·) ?_
 by_cases h5 : (k : Int) < r3_.2.2
 · refine dv (At.sB 72 _ _ (sayT h5) ·) ?_
   refine dv (At.a 3 ·) ?_
   refine dv (At.sL 75 encZon q.zones ·) ?_
   refine dv (At.z 2 ·) ?_
   by_cases h6 : (q.zones.length : Int) > 0
   · refine dv (AW.condT (decide ((q.zones.length : Int) > 0)) (by kernel_rfl) (decide_eq_true h6) ·) ?_
     refine dv (AW.skip ·) ?_
     refine dv (AW.seq ·) ?_
     refine dv (AW.block ·) ?_
     refine dv (AW.gD Try_mix ·) ?_
     refine dv (At.a 4 ·) ?_
     refine dv (At.sI 83 (84 + (k : Int)) (by omega) ·) ?_
     refine dv (At.a 6 ·) ?_
     refine dv (At.sL 89 encZon q.zones ·) ?_
     refine Exists.elim (spec_l1Below_spec  (⟨c.data, r3_.1, r3_.2.1⟩ : Cur) (q.zones.length : Int) (by dsimp only; omega)) fun r4_ hr4_ => ?_
     obtain ⟨qr4_, hr4_⟩ := hr4_
     try dsimp only at qr4_
     try simp only [Int.reduceLT, Int.reduceLE, true_implies, false_implies, and_true] at qr4_
     refine dv (At.c (hr4_) Try.call46 true [(0, 0)] [] [] trivial ·) ?_
     refine dv (At.iRf 57 91 (.tmp 85) (.tmp 90) 5005 (q.zones.map encZon) .i64 r4_.2.2 92 3 (by omega) (by simp only [List.length_map]; omega) ·) ?_
     refine dv (At.a 1 ·) ?_
     refine Exists.elim (gE q.zones ((r4_.2.2).toNat) (by omega)) fun e2 he2 => ?_
     refine dv (At.lEl 3 93 (.tmp 92) 5005 92 3 (q.zones.map encZon) ((r4_.2.2).toNat) 0 false 1 (encZon e2) (.int .i64 e2.name) (mapGet he2) ·) ?_
     refine dv (At.a 1 ·) ?_
     refine dv (At.ll 95 94 2 195 (0, 6) (([(⟨84 + (k : Int), e2.name⟩ : Lnk)]).map encLnk) ·) ?_
     refine dv (At.apK 96 94 2 16 196 5006 195 encLnk q.links ([(⟨84 + (k : Int), e2.name⟩ : Lnk)]) (by simp only [List.length_map, List.length_append, List.length_take, List.length_drop, List.length_replicate, List.length_set, List.length_cons, List.length_nil]; omega) ·) ?_
     refine dv (At.zD 2 ·) ?_
     refine dv (AW.g ·) ?_
     refine dv (At.a 2 ·) ?_
     refine dv (At.sI 79 ((k : Int) + 1) (by omega) ·) ?_
     refine dv (At.z 1 ·) ?_
     exact dw (fun _ h_ => AWL.weak (Sub.o [(0, 0), (102, 102), (103, 103), (5001, 5001), (5002, 5002), (5003, 5003), (5004, 5004), (5005, 5005), (196, 5006)] [true, false, true, true, false, false, false, false, true]) h_) (ih3 (k + 1, (⟨q.rules, q.zones, q.links ++ ([(⟨84 + (k : Int), e2.name⟩ : Lnk)])⟩ : Srce), r4_.1, r4_.2.1) (⟨by (try dsimp only); omega, by omega, SmS.link hR.2 _⟩) (by simp only; omega))
   refine dv (AW.condF (decide ((q.zones.length : Int) > 0)) (by kernel_rfl) (decide_eq_false h6) ·) ?_
   refine dv (AW.exit ·) ?_
   refine dv (AW.seq ·) ?_
   refine dv (AW.r ·) ?_
   refine dv (At.a 1 ·) ?_
   refine Exists.elim (spec_l1Once_spec  (⟨c.data, r3_.1, r3_.2.1⟩ : Cur) 20 (by dsimp only; omega)) fun r4_ hr4_ => ?_
   obtain ⟨qr4_, hr4_⟩ := hr4_
   try dsimp only at qr4_
   refine dv (At.c (hr4_) Try.call29 true [(0, 0)] [] [] trivial ·) ?_
   refine dv (At.done rfl ·) ?_
   by_cases h7 : r4_.2.2 = true
   · refine dv (AW.condT (r4_.2.2) (by kernel_rfl) h7 ·) ?_
     refine dv (AW.block ·) ?_
     refine DW.loopQ (fun (x : Srce × Int × Int) => match x with | (q, p, s) => Go.Sy.mk [.ptr 0 0 0, .un, .ptr 102 0 0, .ptr 103 0 0] [(0, .box 81 [.sl false 1 (c.data.map encU8), .int .i64 p, .int .i64 s]), (102, .box 60 [.ref 5001, .ref 5002, .ref 5003]), (103, .box 60 [.ref 5004, .ref 5005, .ref 5006]), (5001, .arr 88 9 []), (5002, .arr 92 3 []), (5003, .arr 94 2 []), (5004, .arr 88 9 (q.rules.map encRul)), (5005, .arr 92 3 (q.zones.map encZon)), (5006, .arr 94 2 (q.links.map encLnk))]) (fun (x : Srce × Int × Int) => match x with | (q, p, s) => (0 ≤ p ∧ p ≤ c.data.length) ∧ SmS 20 4 3 q) (fun (x : Srce × Int × Int) => match x with | (q, p, s) => 20 - q.rules.length) (q, r4_.1, r4_.2.1) ⟨by (try dsimp only); omega, SmS.mono hR.2 (by decide) (by decide) (by omega)⟩ (Sub.o [(0, 0), (102, 102), (103, 103), (5001, 5001), (5002, 5002), (5003, 5003), (5004, 5004), (5005, 5005), (5006, 5006)] [true, false, true, true]) ?_
     rintro ⟨q, p, s⟩ ⟨hcp, hR⟩ ih4
     obtain ⟨hS1, hS2, hS3, hS4, hS5⟩ := id hR
     refine dv (AW.seq ·) ?_
     refine dv (AW.r ·) ?_
     refine dv (At.a 3 ·) ?_
     refine dv (At.sL 102 encRul q.rules ·) ?_
     refine dv (At.z 1 ·) ?_
     by_cases h8 : (q.rules.length : Int) < 20
     · refine dv (AW.condT (decide ((q.rules.length : Int) < 20)) (by kernel_rfl) (decide_eq_true h8) ·) ?_
       refine dv (AW.skip ·) ?_
       refine dv (AW.block ·) ?_
       refine dv (AW.gD Try_mix ·) ?_
       refine dv (At.a 3 ·) ?_
       refine Exists.elim (spec_l12DrawRule_spec  (⟨c.data, p, s⟩ : Cur) (by dsimp only; omega)) fun r5_ hr5_ => ?_
       obtain ⟨qr5_, hr5_⟩ := hr5_
       try dsimp only at qr5_
       refine dv (At.c (hr5_) Try.call79 true [(0, 0)] [] [] trivial ·) ?_
       have hSr := qr5_.2.2
       refine dv (At.ll 108 88 9 208 (0, 6) (([r5_.2.2]).map encRul) ·) ?_
       refine dv (At.apK 109 88 9 72 209 5004 208 encRul q.rules ([r5_.2.2]) (by simp only [List.length_map, List.length_append, List.length_take, List.length_drop, List.length_replicate, List.length_set, List.length_cons, List.length_nil]; omega) ·) ?_
       refine dv (At.zD 2 ·) ?_
       exact dw (fun _ h_ => AWL.weak (Sub.o [(0, 0), (102, 102), (103, 103), (5001, 5001), (5002, 5002), (5003, 5003), (209, 5004), (5005, 5005), (5006, 5006)] [true, false, true, true]) h_) (ih4 ((⟨q.rules ++ ([r5_.2.2]), q.zones, q.links⟩ : Srce), r5_.1, r5_.2.1) (⟨by (try dsimp only); omega, SmS.more hR hSr (by omega)⟩) (by simp only [List.length_append, List.length_cons, List.length_nil]; omega))
     refine dv (AW.condF (decide ((q.rules.length : Int) < 20)) (by kernel_rfl) (decide_eq_false h8) ·) ?_
     refine dv (AW.exit ·) ?_
     refine dv (AW.q 2 ·) ?_
     refine dv (AW.ret ·) ?_
     refine dv (⟨_, Sub.refl _ _, ·⟩) ?_
     exact ⟨(p, s, q), ⟨by (try dsimp only); omega, by (try dsimp only); omega, by exact hR⟩, KF.mk (.inr rfl) [(0, 0), (5004, 1), (5005, 2), (5006, 3)] [.agg [.ref 5004, .ref 5005, .ref 5006]] (by kernel_rfl) (by kernel_rfl) (by kernel_rfl) (by kernel_rfl) (by kernel_rfl)⟩
   replace h7 := Bool.eq_false_iff.2 h7
   refine dv (AW.condF (r4_.2.2) (by kernel_rfl) h7 ·) ?_
   refine dv (AW.skip ·) ?_
   refine dv (AW.q 2 ·) ?_
   refine dv (AW.ret ·) ?_
   refine dv (⟨_, Sub.refl _ _, ·⟩) ?_
   exact ⟨(r4_.1, r4_.2.1, q), ⟨by (try dsimp only); omega, by (try dsimp only); omega, by exact SmS.mono hR.2 (by decide) (by decide) (by omega)⟩, KF.mk (.inr rfl) [(0, 0), (5004, 1), (5005, 2), (5006, 3)] [.agg [.ref 5004, .ref 5005, .ref 5006]] (by kernel_rfl) (by kernel_rfl) (by kernel_rfl) (by kernel_rfl) (by kernel_rfl)⟩
 refine dv (At.sB 72 _ _ (sayF h5) ·) ?_
 refine dv (At.z 5 ·) ?_
 refine dv (fun h_ => AW.cond false (by kernel_rfl) (fun h => by cases h) (fun _ => h_)) ?_
 refine dv (AW.exit ·) ?_
 refine dv (AW.seq ·) ?_
 refine dv (AW.r ·) ?_
 refine dv (At.a 1 ·) ?_
 refine Exists.elim (spec_l1Once_spec  (⟨c.data, r3_.1, r3_.2.1⟩ : Cur) 20 (by dsimp only; omega)) fun r4_ hr4_ => ?_
 obtain ⟨qr4_, hr4_⟩ := hr4_
 try dsimp only at qr4_
 refine dv (At.c (hr4_) Try.call29 true [(0, 0)] [] [] trivial ·) ?_
 refine dv (At.done rfl ·) ?_
 by_cases h9 : r4_.2.2 = true
 · refine dv (AW.condT (r4_.2.2) (by kernel_rfl) h9 ·) ?_
   refine dv (AW.block ·) ?_
   refine DW.loopQ (fun (x : Srce × Int × Int) => match x with | (q, p, s) => Go.Sy.mk [.ptr 0 0 0, .un, .ptr 102 0 0, .ptr 103 0 0] [(0, .box 81 [.sl false 1 (c.data.map encU8), .int .i64 p, .int .i64 s]), (102, .box 60 [.ref 5001, .ref 5002, .ref 5003]), (103, .box 60 [.ref 5004, .ref 5005, .ref 5006]), (5001, .arr 88 9 []), (5002, .arr 92 3 []), (5003, .arr 94 2 []), (5004, .arr 88 9 (q.rules.map encRul)), (5005, .arr 92 3 (q.zones.map encZon)), (5006, .arr 94 2 (q.links.map encLnk))]) (fun (x : Srce × Int × Int) => match x with | (q, p, s) => (0 ≤ p ∧ p ≤ c.data.length) ∧ SmS 20 4 3 q) (fun (x : Srce × Int × Int) => match x with | (q, p, s) => 20 - q.rules.length) (q, r4_.1, r4_.2.1) ⟨by (try dsimp only); omega, SmS.mono hR.2 (by decide) (by decide) (by omega)⟩ (Sub.o [(0, 0), (102, 102), (103, 103), (5001, 5001), (5002, 5002), (5003, 5003), (5004, 5004), (5005, 5005), (5006, 5006)] [true, false, true, true]) ?_
   rintro ⟨q, p, s⟩ ⟨hcp, hR⟩ ih5
   obtain ⟨hS1, hS2, hS3, hS4, hS5⟩ := id hR
   refine dv (AW.seq ·) ?_
   refine dv (AW.r ·) ?_
   refine dv (At.a 3 ·) ?_
   refine dv (At.sL 102 encRul q.rules ·) ?_
   refine dv (At.z 1 ·) ?_
   by_cases h10 : (q.rules.length : Int) < 20
   · refine dv (AW.condT (decide ((q.rules.length : Int) < 20)) (by kernel_rfl) (decide_eq_true h10) ·) ?_
     refine dv (AW.skip ·) ?_
     refine dv (AW.block ·) ?_
     refine dv (AW.gD Try_mix ·) ?_
     refine dv (At.a 3 ·) ?_
     refine Exists.elim (spec_l12DrawRule_spec  (⟨c.data, p, s⟩ : Cur) (by dsimp only; omega)) fun r5_ hr5_ => ?_
     obtain ⟨qr5_, hr5_⟩ := hr5_
     try dsimp only at qr5_
     refine dv (At.c (hr5_) Try.call79 true [(0, 0)] [] [] trivial ·) ?_
     have hSr := qr5_.2.2
     refine dv (At.ll 108 88 9 208 (0, 6) (([r5_.2.2]).map encRul) ·) ?_
     refine dv (At.apK 109 88 9 72 209 5004 208 encRul q.rules ([r5_.2.2]) (by simp only [List.length_map, List.length_append, List.length_take, List.length_drop, List.length_replicate, List.length_set, List.length_cons, List.length_nil]; omega) ·) ?_
     refine dv (At.zD 2 ·) ?_
     exact dw (fun _ h_ => AWL.weak (Sub.o [(0, 0), (102, 102), (103, 103), (5001, 5001), (5002, 5002), (5003, 5003), (209, 5004), (5005, 5005), (5006, 5006)] [true, false, true, true]) h_) (ih5 ((⟨q.rules ++ ([r5_.2.2]), q.zones, q.links⟩ : Srce), r5_.1, r5_.2.1) (⟨by (try dsimp only); omega, SmS.more hR hSr (by omega)⟩) (by simp only [List.length_append, List.length_cons, List.length_nil]; omega))
   refine dv (AW.condF (decide ((q.rules.length : Int) < 20)) (by kernel_rfl) (decide_eq_false h10) ·) ?_
   refine dv (AW.exit ·) ?_
   refine dv (AW.q 2 ·) ?_
   refine dv (AW.ret ·) ?_
   refine dv (⟨_, Sub.refl _ _, ·⟩) ?_
   exact ⟨(p, s, q), ⟨by (try dsimp only); omega, by (try dsimp only); omega, by exact hR⟩, KF.mk (.inr rfl) [(0, 0), (5004, 1), (5005, 2), (5006, 3)] [.agg [.ref 5004, .ref 5005, .ref 5006]] (by kernel_rfl) (by kernel_rfl) (by kernel_rfl) (by kernel_rfl) (by kernel_rfl)⟩
 replace h9 := Bool.eq_false_iff.2 h9
 refine dv (AW.condF (r4_.2.2) (by kernel_rfl) h9 ·) ?_
 refine dv (AW.skip ·) ?_
 refine dv (AW.q 2 ·) ?_
 refine dv (AW.ret ·) ?_
 refine dv (⟨_, Sub.refl _ _, ·⟩) ?_
 exact ⟨(r4_.1, r4_.2.1, q), ⟨by (try dsimp only); omega, by (try dsimp only); omega, by exact SmS.mono hR.2 (by decide) (by decide) (by omega)⟩, KF.mk (.inr rfl) [(0, 0), (5004, 1), (5005, 2), (5006, 3)] [.agg [.ref 5004, .ref 5005, .ref 5006]] (by kernel_rfl) (by kernel_rfl) (by kernel_rfl) (by kernel_rfl) (by kernel_rfl)⟩
theorem spec_l12DrawSource_spec  (c : Cur) (hp : 0 ≤ c.pos ∧ c.pos ≤ c.data.length ∧ c.data.length ≤ 1048576) : ∃ rho_ : Int × Int × Srce, (0 ≤ rho_.1 ∧ rho_.1 ≤ c.data.length ∧ SmS 20 5 4 rho_.2.2) ∧ FnSpec Try.prog 52 [.ptr 0 0 0] [.box 81 [.sl false 1 (c.data.map encU8), .int .i64 c.pos, .int .i64 c.seed]] (.agg [.ref 1, .ref 2, .ref 3]) [.box 81 [.sl false 1 (c.data.map encU8), .int .i64 rho_.1, .int .i64 rho_.2.1], .arr 88 9 (rho_.2.2.rules.map encRul), .arr 92 3 (rho_.2.2.zones.map encZon), .arr 94 2 (rho_.2.2.links.map encLnk)] := by
 refine dv (fun h_ => FnSpec.of 57 Try.func52 rfl Try.ntmps52 (by simp) (AW.weakK h_)) ?_
 refine dv (AW.q 1 ·) ?_
 refine dv (AW.seq ·) ?_
 refine dv (AW.weak (Sub.nils [⟨true, 102, some 0, 5001, 88, 9⟩, ⟨true, 102, some 1, 5002, 92, 3⟩, ⟨true, 102, some 2, 5003, 94, 2⟩] (by kernel_rfl)) ·) ?_
 refine dv (AW.g ·) ?_
 refine dv (At.a 1 ·) ?_
 refine Exists.elim (spec_l12DrawRight_spec  c (by omega)) fun r1_ hr1_ => ?_
 obtain ⟨qr1_, hr1_⟩ := hr1_
 try dsimp only at qr1_
 refine dv (At.c (hr1_) Try.call71 true [(0, 0)] [(1100, 1), (1101, 2), (1102, 3)] [] trivial ·) ?_
 have hSm := qr1_.2.2
 obtain ⟨hS1, hS2, hS3, hS4, hS5⟩ := id hSm
 refine dv (At.z 2 ·) ?_
 refine dv (AW.seq ·) ?_
 refine dv (AW.r ·) ?_
 refine dv (At.a 1 ·) ?_
 refine Exists.elim (spec_l1Below_spec  (⟨c.data, r1_.1, r1_.2.1⟩ : Cur) 20 (by dsimp only; omega)) fun r2_ hr2_ => ?_
 obtain ⟨qr2_, hr2_⟩ := hr2_
 try dsimp only at qr2_
 try simp only [Int.reduceLT, Int.reduceLE, true_implies, false_implies, and_true] at qr2_
 refine dv (At.c (hr2_) Try.call46 true [(0, 0)] [] [] trivial ·) ?_
 refine dv (At.done rfl ·) ?_
 refine dv (AW.block ·) ?_
 refine dv (AW.q 2 ·) ?_
 by_cases h1 : r2_.2.2 = 0
 · refine dv (AW.condT (r2_.2.2 == 0) (by kernel_rfl) (beq_iff_eq.2 h1) ·) ?_
   refine dv (AW.r ·) ?_
   refine dv (At.a 3 ·) ?_
   refine dv (At.sL 12 encRul r1_.2.2.rules ·) ?_
   refine dv (At.z 1 ·) ?_
   by_cases h2 : (r1_.2.2.rules.length : Int) > 0
   · refine dv (AW.condT (decide ((r1_.2.2.rules.length : Int) > 0)) (by kernel_rfl) (decide_eq_true h2) ·) ?_
     refine dv (AW.gD Try_mix ·) ?_
     refine dv (At.a 3 ·) ?_
     refine Exists.elim (spec_l1Below_spec  (⟨c.data, r2_.1, r2_.2.1⟩ : Cur) 14 (by dsimp only; omega)) fun r3_ hr3_ => ?_
     obtain ⟨qr3_, hr3_⟩ := hr3_
     try dsimp only at qr3_
     try simp only [Int.reduceLT, Int.reduceLE, true_implies, false_implies, and_true] at qr3_
     refine dv (At.c (hr3_) Try.call46 true [(0, 0)] [] [] trivial ·) ?_
     refine dv (At.iRf 56 18 (.tmp 15) (.const (.int .i64 0)) 1100 (r1_.2.2.rules.map encRul) .i64 0 88 9 (by omega) (by simp only [List.length_map]; omega) ·) ?_
     refine dv (At.a 1 ·) ?_
     refine Exists.elim (gE r1_.2.2.rules 0 (by omega)) fun e1 he1 => ?_
     have hme1 := hSm.2.2.2.1 _ (List.mem_of_getElem? he1)
     refine dv (At.sEl 3 1100 88 9 0 3 (.tmp 19) (.tmp 17) (r1_.2.2.rules.map encRul) ((r1_.2.2.rules.set 0 (⟨e1.name, e1.from_, e1.to, r3_.2.2, e1.on, e1.at_, e1.save⟩ : Rul)).map encRul) [.int .i64 r3_.2.2] (.int .i64 r3_.2.2) (encRul e1) (encRul (⟨e1.name, e1.from_, e1.to, r3_.2.2, e1.on, e1.at_, e1.save⟩ : Rul)) (mapGet he1) setV ·) ?_
     refine dv (At.done rfl ⟨by kernel_rfl, ·⟩) ?_
     refine dv (AW.q 2 ·) ?_
     refine dv (AW.ret ·) ?_
     refine dv (⟨_, Sub.refl _ _, ·⟩) ?_
     exact ⟨(r3_.1, r3_.2.1, (⟨r1_.2.2.rules.set 0 (⟨e1.name, e1.from_, e1.to, r3_.2.2, e1.on, e1.at_, e1.save⟩ : Rul), r1_.2.2.zones, r1_.2.2.links⟩ : Srce)), ⟨by (try dsimp only); omega, by (try dsimp only); omega, by exact SmS.mono (SmS.set hSm (by obtain ⟨m1, m2, m3, m4, m5, m6, m7⟩ := hme1; refine ⟨m1, m2, ?_, m4, m5, m6, m7⟩; unfold Sm; dsimp only; omega)) (by decide) (by decide) (by decide)⟩, KF.mk (.inr rfl) [(0, 0), (1100, 1), (1101, 2), (1102, 3)] [.agg [.ref 1100, .ref 1101, .ref 1102]] (by kernel_rfl) (by kernel_rfl) (by kernel_rfl) (by kernel_rfl) (by kernel_rfl)⟩
   refine dv (AW.condF (decide ((r1_.2.2.rules.length : Int) > 0)) (by kernel_rfl) (decide_eq_false h2) ·) ?_
   refine dv (AW.skip ·) ?_
   refine dv (AW.q 2 ·) ?_
   refine dv (AW.ret ·) ?_
   refine dv (⟨_, Sub.refl _ _, ·⟩) ?_
   exact ⟨(r2_.1, r2_.2.1, r1_.2.2), ⟨by (try dsimp only); omega, by (try dsimp only); omega, by exact SmS.mono hSm (by decide) (by decide) (by decide)⟩, KF.mk (.inr rfl) [(0, 0), (1100, 1), (1101, 2), (1102, 3)] [.agg [.ref 1100, .ref 1101, .ref 1102]] (by kernel_rfl) (by kernel_rfl) (by kernel_rfl) (by kernel_rfl) (by kernel_rfl)⟩
 refine dv (AW.condF (r2_.2.2 == 0) (by kernel_rfl) (beq_eq_false_iff_ne.2 h1) ·) ?_
 refine dv (AW.q 2 ·) ?_
 by_cases h3 : r2_.2.2 = 1
 · refine dv (AW.condT (r2_.2.2 == 1) (by kernel_rfl) (beq_iff_eq.2 h3) ·) ?_
   refine dv (AW.gD Try_mix ·) ?_
   refine dv (At.a 3 ·) ?_
   refine Exists.elim (spec_l1Below_spec  (⟨c.data, r2_.1, r2_.2.1⟩ : Cur) 30 (by dsimp only; omega)) fun r3_ hr3_ => ?_
   obtain ⟨qr3_, hr3_⟩ := hr3_
   try dsimp only at qr3_
   try simp only [Int.reduceLT, Int.reduceLE, true_implies, false_implies, and_true] at qr3_
   refine dv (At.c (hr3_) Try.call46 true [(0, 0)] [] [] trivial ·) ?_
   refine dv (At.a 1 ·) ?_
   refine dv (At.sI 26 (65 + r3_.2.2) (by omega) ·) ?_
   refine dv (At.a 1 ·) ?_
   refine Exists.elim (spec_l1Below_spec  (⟨c.data, r3_.1, r3_.2.1⟩ : Cur) 2 (by dsimp only; omega)) fun r4_ hr4_ => ?_
   obtain ⟨qr4_, hr4_⟩ := hr4_
   try dsimp only at qr4_
   try simp only [Int.reduceLT, Int.reduceLE, true_implies, false_implies, and_true] at qr4_
   refine dv (At.c (hr4_) Try.call46 true [(0, 0)] [] [] trivial ·) ?_
   refine dv (At.a 1 ·) ?_
   refine dv (At.sI 29 (901 - r4_.2.2) (by omega) ·) ?_
   refine dv (At.a 1 ·) ?_
   refine dv (At.ll 31 92 3 131 (0, 6) (([(⟨65 + r3_.2.2, 901 - r4_.2.2, 0⟩ : Zon)]).map encZon) ·) ?_
   refine dv (At.apK 32 92 3 24 132 1101 131 encZon r1_.2.2.zones ([(⟨65 + r3_.2.2, 901 - r4_.2.2, 0⟩ : Zon)]) (by simp only [List.length_map, List.length_append, List.length_take, List.length_drop, List.length_replicate, List.length_set, List.length_cons, List.length_nil]; omega) ·) ?_
   refine dv (At.zD 2 ·) ?_
   refine dv (AW.q 2 ·) ?_
   refine dv (AW.ret ·) ?_
   refine dv (⟨_, Sub.refl _ _, ·⟩) ?_
   exact ⟨(r4_.1, r4_.2.1, (⟨r1_.2.2.rules, r1_.2.2.zones ++ ([(⟨65 + r3_.2.2, 901 - r4_.2.2, 0⟩ : Zon)]), r1_.2.2.links⟩ : Srce)), ⟨by (try dsimp only); omega, by (try dsimp only); omega, by exact SmS.mono (SmS.zone hSm (by unfold Sm; dsimp only; omega)) (by decide) (by decide) (by decide)⟩, KF.mk (.inr rfl) [(0, 0), (1100, 1), (132, 2), (1102, 3)] [.agg [.ref 1100, .ref 132, .ref 1102]] (by kernel_rfl) (by kernel_rfl) (by kernel_rfl) (by kernel_rfl) (by kernel_rfl)⟩
 refine dv (AW.condF (r2_.2.2 == 1) (by kernel_rfl) (beq_eq_false_iff_ne.2 h3) ·) ?_
 refine dv (AW.q 2 ·) ?_
 by_cases h4 : r2_.2.2 = 2
 · refine dv (AW.condT (r2_.2.2 == 2) (by kernel_rfl) (beq_iff_eq.2 h4) ·) ?_
   refine dv (AW.gD Try_mix ·) ?_
   refine dv (At.a 3 ·) ?_
   refine Exists.elim (spec_l1Below_spec  (⟨c.data, r2_.1, r2_.2.1⟩ : Cur) 3 (by dsimp only; omega)) fun r3_ hr3_ => ?_
   obtain ⟨qr3_, hr3_⟩ := hr3_
   try dsimp only at qr3_
   try simp only [Int.reduceLT, Int.reduceLE, true_implies, false_implies, and_true] at qr3_
   refine dv (At.c (hr3_) Try.call46 true [(0, 0)] [] [] trivial ·) ?_
   refine dv (At.a 1 ·) ?_
   refine dv (At.sI 40 (65 + r3_.2.2) (by omega) ·) ?_
   refine dv (At.a 1 ·) ?_
   refine dv (At.ll 42 94 2 142 (0, 6) (([(⟨90, 65 + r3_.2.2⟩ : Lnk)]).map encLnk) ·) ?_
   refine dv (At.apK 43 94 2 16 143 1102 142 encLnk r1_.2.2.links ([(⟨90, 65 + r3_.2.2⟩ : Lnk)]) (by simp only [List.length_map, List.length_append, List.length_take, List.length_drop, List.length_replicate, List.length_set, List.length_cons, List.length_nil]; omega) ·) ?_
   refine dv (At.zD 2 ·) ?_
   refine dv (AW.q 2 ·) ?_
   refine dv (AW.ret ·) ?_
   refine dv (⟨_, Sub.refl _ _, ·⟩) ?_
   exact ⟨(r3_.1, r3_.2.1, (⟨r1_.2.2.rules, r1_.2.2.zones, r1_.2.2.links ++ ([(⟨90, 65 + r3_.2.2⟩ : Lnk)])⟩ : Srce)), ⟨by (try dsimp only); omega, by (try dsimp only); omega, by exact SmS.mono (SmS.link hSm _) (by decide) (by decide) (by decide)⟩, KF.mk (.inr rfl) [(0, 0), (1100, 1), (1101, 2), (143, 3)] [.agg [.ref 1100, .ref 1101, .ref 143]] (by kernel_rfl) (by kernel_rfl) (by kernel_rfl) (by kernel_rfl) (by kernel_rfl)⟩
 refine dv (AW.condF (r2_.2.2 == 2) (by kernel_rfl) (beq_eq_false_iff_ne.2 h4) ·) ?_
 refine dv (AW.q 2 ·) ?_
 by_cases h5 : r2_.2.2 = 3
 · refine dv (AW.condT (r2_.2.2 == 3) (by kernel_rfl) (beq_iff_eq.2 h5) ·) ?_
   refine dv (AW.gD Try_mix ·) ?_
   refine dv (At.a 3 ·) ?_
   refine Exists.elim (spec_l1Below_spec  (⟨c.data, r2_.1, r2_.2.1⟩ : Cur) 5 (by dsimp only; omega)) fun r3_ hr3_ => ?_
   obtain ⟨qr3_, hr3_⟩ := hr3_
   try dsimp only at qr3_
   try simp only [Int.reduceLT, Int.reduceLE, true_implies, false_implies, and_true] at qr3_
   refine dv (At.c (hr3_) Try.call46 true [(0, 0)] [] [] trivial ·) ?_
   refine dv (At.a 1 ·) ?_
   refine dv (At.sI 51 (97 + r3_.2.2) (by omega) ·) ?_
   refine dv (At.a 1 ·) ?_
   refine dv (At.ll 53 92 3 153 (0, 6) (([(⟨90, 0, 97 + r3_.2.2⟩ : Zon)]).map encZon) ·) ?_
   refine dv (At.apK 54 92 3 24 154 1101 153 encZon r1_.2.2.zones ([(⟨90, 0, 97 + r3_.2.2⟩ : Zon)]) (by simp only [List.length_map, List.length_append, List.length_take, List.length_drop, List.length_replicate, List.length_set, List.length_cons, List.length_nil]; omega) ·) ?_
   refine dv (At.zD 2 ·) ?_
   refine dv (AW.q 2 ·) ?_
   refine dv (AW.ret ·) ?_
   refine dv (⟨_, Sub.refl _ _, ·⟩) ?_
   exact ⟨(r3_.1, r3_.2.1, (⟨r1_.2.2.rules, r1_.2.2.zones ++ ([(⟨90, 0, 97 + r3_.2.2⟩ : Zon)]), r1_.2.2.links⟩ : Srce)), ⟨by (try dsimp only); omega, by (try dsimp only); omega, by exact SmS.mono (SmS.zone hSm (by unfold Sm; dsimp only; omega)) (by decide) (by decide) (by decide)⟩, KF.mk (.inr rfl) [(0, 0), (1100, 1), (154, 2), (1102, 3)] [.agg [.ref 1100, .ref 154, .ref 1102]] (by kernel_rfl) (by kernel_rfl) (by kernel_rfl) (by kernel_rfl) (by kernel_rfl)⟩
 refine dv (AW.condF (r2_.2.2 == 3) (by kernel_rfl) (beq_eq_false_iff_ne.2 h5) ·) ?_
 refine dv (AW.skip ·) ?_
 refine dv (AW.q 2 ·) ?_
 refine dv (AW.ret ·) ?_
 refine dv (⟨_, Sub.refl _ _, ·⟩) ?_
 exact ⟨(r2_.1, r2_.2.1, r1_.2.2), ⟨by (try dsimp only); omega, by (try dsimp only); omega, by exact SmS.mono hSm (by decide) (by decide) (by decide)⟩, KF.mk (.inr rfl) [(0, 0), (1100, 1), (1101, 2), (1102, 3)] [.agg [.ref 1100, .ref 1101, .ref 1102]] (by kernel_rfl) (by kernel_rfl) (by kernel_rfl) (by kernel_rfl) (by kernel_rfl)⟩
theorem spec_l13DrawSource_spec  (c : Cur) (hp : 0 ≤ c.pos ∧ c.pos ≤ c.data.length ∧ c.data.length ≤ 1048576) : ∃ rho_ : Int × Int × Srce, (0 ≤ rho_.1 ∧ rho_.1 ≤ c.data.length ∧ SmS 20 5 4 rho_.2.2) ∧ FnSpec Try.prog 32 [.ptr 0 0 0] [.box 81 [.sl false 1 (c.data.map encU8), .int .i64 c.pos, .int .i64 c.seed]] (.agg [.ref 1, .ref 2, .ref 3]) [.box 81 [.sl false 1 (c.data.map encU8), .int .i64 rho_.1, .int .i64 rho_.2.1], .arr 88 9 (rho_.2.2.rules.map encRul), .arr 92 3 (rho_.2.2.zones.map encZon), .arr 94 2 (rho_.2.2.links.map encLnk)] := by
 refine dv (fun h_ => FnSpec.of 73 Try.func32 rfl Try.ntmps32 (by simp) (AW.weakK h_)) ?_
 refine dv (AW.q 1 ·) ?_
 refine dv (AW.seq ·) ?_
 refine dv (AW.seq ·) ?_
 refine dv (AW.weak (Sub.nils [⟨true, 102, some 0, 5001, 88, 9⟩, ⟨true, 102, some 1, 5002, 92, 3⟩, ⟨true, 102, some 2, 5003, 94, 2⟩] (by kernel_rfl)) ·) ?_
 refine dv (AW.g ·) ?_
 refine dv (At.a 1 ·) ?_
 refine Exists.elim (spec_l1Once_spec  c 3 (by omega)) fun r1_ hr1_ => ?_
 obtain ⟨qr1_, hr1_⟩ := hr1_
 try dsimp only at qr1_
 refine dv (At.c (hr1_) Try.call29 true [(0, 0)] [] [] trivial ·) ?_
 refine dv (At.done rfl ·) ?_
 by_cases h1 : r1_.2.2 = true
 · refine dv (AW.condT (r1_.2.2) (by kernel_rfl) h1 ·) ?_
   refine dv (AW.r ·) ?_
   refine dv (At.a 1 ·) ?_
   refine Exists.elim (spec_l12DrawSource_spec  (⟨c.data, r1_.1, r1_.2.1⟩ : Cur) (by dsimp only; omega)) fun r2_ hr2_ => ?_
   obtain ⟨qr2_, hr2_⟩ := hr2_
   try dsimp only at qr2_
   refine dv (At.c (hr2_) Try.call52 true [(0, 0)] [(1180, 1), (1181, 2), (1182, 3)] [] trivial ·) ?_
   have hSm := qr2_.2.2
   refine dv (At.z 1 ·) ?_
   refine dv (AW.ret ·) ?_
   refine dv (⟨_, Sub.refl _ _, ·⟩) ?_
   exact ⟨(r2_.1, r2_.2.1, r2_.2.2), ⟨by (try dsimp only); omega, by (try dsimp only); omega, by exact hSm⟩, KF.mk (.inr rfl) [(0, 0), (1180, 1), (1181, 2), (1182, 3)] [.agg [.ref 1180, .ref 1181, .ref 1182]] (by kernel_rfl) (by kernel_rfl) (by kernel_rfl) (by kernel_rfl) (by kernel_rfl)⟩
 replace h1 := Bool.eq_false_iff.2 h1
 refine dv (AW.condF (r1_.2.2) (by kernel_rfl) h1 ·) ?_
 refine dv (AW.skip ·) ?_
 refine dv (AW.q 3 ·) ?_
 refine dv (AW.seq ·) ?_
 refine dv (AW.weak (Sub.nils [⟨true, 103, some 0, 5004, 88, 9⟩, ⟨true, 103, some 1, 5005, 92, 3⟩, ⟨true, 103, some 2, 5006, 94, 2⟩] (by kernel_rfl)) ·) ?_
 refine dv (AW.g ·) ?_
 refine dv (At.a 1 ·) ?_
 refine Exists.elim (spec_l1Below_spec  (⟨c.data, r1_.1, r1_.2.1⟩ : Cur) 60 (by dsimp only; omega)) fun r2_ hr2_ => ?_
 obtain ⟨qr2_, hr2_⟩ := hr2_
 try dsimp only at qr2_
 try simp only [Int.reduceLT, Int.reduceLE, true_implies, false_implies, and_true] at qr2_
 refine dv (At.c (hr2_) Try.call46 true [(0, 0)] [] [] trivial ·) ?_
 refine dv (At.a 1 ·) ?_
 refine dv (At.sI 13 (1960 + r2_.2.2) (by omega) ·) ?_
 refine dv (At.z 1 ·) ?_
 refine dv (AW.r ·) ?_
 refine dv (At.a 2 ·) ?_
 refine Exists.elim (spec_l1Below_spec  (⟨c.data, r2_.1, r2_.2.1⟩ : Cur) 90 (by dsimp only; omega)) fun r3_ hr3_ => ?_
 obtain ⟨qr3_, hr3_⟩ := hr3_
 try dsimp only at qr3_
 try simp only [Int.reduceLT, Int.reduceLE, true_implies, false_implies, and_true] at qr3_
 refine dv (At.c (hr3_) Try.call46 true [(0, 0)] [] [] trivial ·) ?_
 refine dv (At.a 1 ·) ?_
 refine dv (At.sI 17 ((1960 + r2_.2.2) + r3_.2.2) (by omega) ·) ?_
 refine dv (At.z 1 ·) ?_
 refine dv (AW.r ·) ?_
 refine dv (At.a 6 ·) ?_
 refine dv (At.ll 24 88 9 124 (0, 6) (([(⟨97, 1960 + r2_.2.2, (1960 + r2_.2.2) + r3_.2.2, 3, ⟨3, 8, 0⟩, 120, 60⟩ : Rul)]).map encRul) ·) ?_
 refine dv (At.apK 25 88 9 72 125 5004 124 encRul ([] : List Rul) ([(⟨97, 1960 + r2_.2.2, (1960 + r2_.2.2) + r3_.2.2, 3, ⟨3, 8, 0⟩, 120, 60⟩ : Rul)]) (by simp only [List.length_map, List.length_append, List.length_take, List.length_drop, List.length_replicate, List.length_set, List.length_cons, List.length_nil]; omega) ·) ?_
 refine dv (At.z 2 ·) ?_
 refine dv (AW.seq ·) ?_
 refine dv (AW.gD Try_mix ·) ?_
 refine dv (At.a 5 ·) ?_
 refine Exists.elim (spec_l1Below_spec  (⟨c.data, r3_.1, r3_.2.1⟩ : Cur) 7 (by dsimp only; omega)) fun r4_ hr4_ => ?_
 obtain ⟨qr4_, hr4_⟩ := hr4_
 try dsimp only at qr4_
 try simp only [Int.reduceLT, Int.reduceLE, true_implies, false_implies, and_true] at qr4_
 refine dv (At.c (hr4_) Try.call46 true [(0, 0)] [] [] trivial ·) ?_
 refine dv (At.a 2 ·) ?_
 refine dv (At.ll 35 88 9 135 (0, 6) (([(⟨97, 1960 + r2_.2.2, (1960 + r2_.2.2) + r3_.2.2, 11, ⟨2, 0, r4_.2.2⟩, 120, 0⟩ : Rul)]).map encRul) ·) ?_
 refine dv (At.apK 36 88 9 72 136 125 135 encRul ([(⟨97, 1960 + r2_.2.2, (1960 + r2_.2.2) + r3_.2.2, 3, ⟨3, 8, 0⟩, 120, 60⟩ : Rul)]) ([(⟨97, 1960 + r2_.2.2, (1960 + r2_.2.2) + r3_.2.2, 11, ⟨2, 0, r4_.2.2⟩, 120, 0⟩ : Rul)]) (by simp only [List.length_map, List.length_append, List.length_take, List.length_drop, List.length_replicate, List.length_set, List.length_cons, List.length_nil]; omega) ·) ?_
 refine dv (At.zD 2 ·) ?_
 refine dv (AW.seq ·) ?_
 refine dv (AW.r ·) ?_
 refine dv (At.a 1 ·) ?_
 refine Exists.elim (spec_l1Once_spec  (⟨c.data, r4_.1, r4_.2.1⟩ : Cur) 3 (by dsimp only; omega)) fun r5_ hr5_ => ?_
 obtain ⟨qr5_, hr5_⟩ := hr5_
 try dsimp only at qr5_
 refine dv (At.c (hr5_) Try.call29 true [(0, 0)] [] [] trivial ·) ?_
 refine dv (At.done rfl ·) ?_
 by_cases h2 : r5_.2.2 = true
 · refine dv (AW.condT (r5_.2.2) (by kernel_rfl) h2 ·) ?_
   refine dv (AW.gD Try_mix ·) ?_
   refine dv (At.a 3 ·) ?_
   refine Exists.elim (spec_l1Below_spec  (⟨c.data, r5_.1, r5_.2.1⟩ : Cur) 9 (by dsimp only; omega)) fun r6_ hr6_ => ?_
   obtain ⟨qr6_, hr6_⟩ := hr6_
   try dsimp only at qr6_
   try simp only [Int.reduceLT, Int.reduceLE, true_implies, false_implies, and_true] at qr6_
   refine dv (At.c (hr6_) Try.call46 true [(0, 0)] [] [] trivial ·) ?_
   refine dv (At.a 1 ·) ?_
   refine dv (At.sI 44 (3 + r6_.2.2) (by omega) ·) ?_
   refine dv (At.a 1 ·) ?_
   refine Exists.elim (spec_l1Below_spec  (⟨c.data, r6_.1, r6_.2.1⟩ : Cur) 28 (by dsimp only; omega)) fun r7_ hr7_ => ?_
   obtain ⟨qr7_, hr7_⟩ := hr7_
   try dsimp only at qr7_
   try simp only [Int.reduceLT, Int.reduceLE, true_implies, false_implies, and_true] at qr7_
   refine dv (At.c (hr7_) Try.call46 true [(0, 0)] [] [] trivial ·) ?_
   refine dv (At.a 1 ·) ?_
   refine dv (At.sI 47 (1 + r7_.2.2) (by omega) ·) ?_
   refine dv (At.a 2 ·) ?_
   refine Exists.elim (spec_l1Below_spec  (⟨c.data, r7_.1, r7_.2.1⟩ : Cur) 1440 (by dsimp only; omega)) fun r8_ hr8_ => ?_
   obtain ⟨qr8_, hr8_⟩ := hr8_
   try dsimp only at qr8_
   try simp only [Int.reduceLT, Int.reduceLE, true_implies, false_implies, and_true] at qr8_
   refine dv (At.c (hr8_) Try.call46 true [(0, 0)] [] [] trivial ·) ?_
   refine dv (At.a 1 ·) ?_
   refine dv (At.ll 52 3 1 152 (0, 6) (([0, 30, 60]).map encI) ·) ?_
   refine Exists.elim (spec_l1PickInt_spec  (⟨c.data, r8_.1, r8_.2.1⟩ : Cur) ([0, 30, 60]) (by dsimp only; omega) (by decide)) fun r9_ hr9_ => ?_
   obtain ⟨qr9_, hr9_⟩ := hr9_
   try dsimp only at qr9_
   refine dv (At.c (hr9_) Try.call53 true [(0, 0), (152, 1)] [] [] trivial ·) ?_
   have hpk := qr9_.2.2
   simp only [List.mem_cons, List.not_mem_nil, or_false] at hpk
   refine dv (At.a 1 ·) ?_
   refine dv (At.ll 55 88 9 155 (0, 6) (([(⟨97, 1980, 1985, 3 + r6_.2.2, ⟨1, 1 + r7_.2.2, 0⟩, r8_.2.2, r9_.2.2⟩ : Rul)]).map encRul) ·) ?_
   refine dv (At.apK 56 88 9 72 156 136 155 encRul (([(⟨97, 1960 + r2_.2.2, (1960 + r2_.2.2) + r3_.2.2, 3, ⟨3, 8, 0⟩, 120, 60⟩ : Rul)]) ++ ([(⟨97, 1960 + r2_.2.2, (1960 + r2_.2.2) + r3_.2.2, 11, ⟨2, 0, r4_.2.2⟩, 120, 0⟩ : Rul)])) ([(⟨97, 1980, 1985, 3 + r6_.2.2, ⟨1, 1 + r7_.2.2, 0⟩, r8_.2.2, r9_.2.2⟩ : Rul)]) (by simp only [List.length_map, List.length_append, List.length_take, List.length_drop, List.length_replicate, List.length_set, List.length_cons, List.length_nil]; omega) ·) ?_
   refine dv (At.zD 2 ·) ?_
   refine dv (AW.r ·) ?_
   refine dv (At.a 1 ·) ?_
   refine Exists.elim (spec_l1Below_spec  (⟨c.data, r9_.1, r9_.2.1⟩ : Cur) 24 (by dsimp only; omega)) fun r10_ hr10_ => ?_
   obtain ⟨qr10_, hr10_⟩ := hr10_
   try dsimp only at qr10_
   try simp only [Int.reduceLT, Int.reduceLE, true_implies, false_implies, and_true] at qr10_
   refine dv (At.c (hr10_) Try.call46 true [(0, 0)] [] [] trivial ·) ?_
   refine dv (At.a 1 ·) ?_
   refine dv (At.sI 60 (60 * r10_.2.2) (by omega) ·) ?_
   refine dv (At.a 1 ·) ?_
   refine dv (At.sI 61 ((60 * r10_.2.2) - 720) (by omega) ·) ?_
   refine dv (At.a 2 ·) ?_
   refine Exists.elim (spec_l1Below_spec  (⟨c.data, r10_.1, r10_.2.1⟩ : Cur) 9 (by dsimp only; omega)) fun r11_ hr11_ => ?_
   obtain ⟨qr11_, hr11_⟩ := hr11_
   try dsimp only at qr11_
   try simp only [Int.reduceLT, Int.reduceLE, true_implies, false_implies, and_true] at qr11_
   refine dv (At.c (hr11_) Try.call46 true [(0, 0)] [] [] trivial ·) ?_
   refine dv (At.a 1 ·) ?_
   refine dv (At.sI 65 (30 * r11_.2.2) (by omega) ·) ?_
   refine dv (At.a 1 ·) ?_
   refine dv (At.ll 67 92 3 167 (0, 6) (([(⟨65, (60 * r10_.2.2) - 720, 97⟩ : Zon), (⟨66, 30 * r11_.2.2, 0⟩ : Zon)]).map encZon) ·) ?_
   refine dv (At.z 2 ·) ?_
   refine dv (AW.r ·) ?_
   refine dv (At.a 1 ·) ?_
   refine dv (At.ll 70 94 2 170 (0, 6) (([(⟨84, 65⟩ : Lnk)]).map encLnk) ·) ?_
   refine dv (At.z 2 ·) ?_
   refine dv (AW.q 2 ·) ?_
   refine dv (AW.ret ·) ?_
   refine dv (⟨_, Sub.refl _ _, ·⟩) ?_
   exact ⟨(r11_.1, r11_.2.1, (⟨(([(⟨97, 1960 + r2_.2.2, (1960 + r2_.2.2) + r3_.2.2, 3, ⟨3, 8, 0⟩, 120, 60⟩ : Rul)]) ++ ([(⟨97, 1960 + r2_.2.2, (1960 + r2_.2.2) + r3_.2.2, 11, ⟨2, 0, r4_.2.2⟩, 120, 0⟩ : Rul)])) ++ ([(⟨97, 1980, 1985, 3 + r6_.2.2, ⟨1, 1 + r7_.2.2, 0⟩, r8_.2.2, r9_.2.2⟩ : Rul)]), [(⟨65, (60 * r10_.2.2) - 720, 97⟩ : Zon), (⟨66, 30 * r11_.2.2, 0⟩ : Zon)], [(⟨84, 65⟩ : Lnk)]⟩ : Srce)), ⟨by (try dsimp only); omega, by (try dsimp only); omega, by exact small3 (by unfold SmR Sm; (try dsimp only); omega) (by unfold SmR Sm; (try dsimp only); omega) (by unfold SmR Sm; (try dsimp only); omega) (by unfold Sm; (try dsimp only); omega) (by unfold Sm; (try dsimp only); omega) (by simp)⟩, KF.mk (.inr rfl) [(0, 0), (156, 1), (167, 2), (170, 3)] [.agg [.ref 156, .ref 167, .ref 170]] (by kernel_rfl) (by kernel_rfl) (by kernel_rfl) (by kernel_rfl) (by kernel_rfl)⟩
 replace h2 := Bool.eq_false_iff.2 h2
 refine dv (AW.condF (r5_.2.2) (by kernel_rfl) h2 ·) ?_
 refine dv (AW.skip ·) ?_
 refine dv (AW.r ·) ?_
 refine dv (At.a 1 ·) ?_
 refine Exists.elim (spec_l1Below_spec  (⟨c.data, r5_.1, r5_.2.1⟩ : Cur) 24 (by dsimp only; omega)) fun r6_ hr6_ => ?_
 obtain ⟨qr6_, hr6_⟩ := hr6_
 try dsimp only at qr6_
 try simp only [Int.reduceLT, Int.reduceLE, true_implies, false_implies, and_true] at qr6_
 refine dv (At.c (hr6_) Try.call46 true [(0, 0)] [] [] trivial ·) ?_
 refine dv (At.a 1 ·) ?_
 refine dv (At.sI 60 (60 * r6_.2.2) (by omega) ·) ?_
 refine dv (At.a 1 ·) ?_
 refine dv (At.sI 61 ((60 * r6_.2.2) - 720) (by omega) ·) ?_
 refine dv (At.a 2 ·) ?_
 refine Exists.elim (spec_l1Below_spec  (⟨c.data, r6_.1, r6_.2.1⟩ : Cur) 9 (by dsimp only; omega)) fun r7_ hr7_ => ?_
 obtain ⟨qr7_, hr7_⟩ := hr7_
 try dsimp only at qr7_
 try simp only [Int.reduceLT, Int.reduceLE, true_implies, false_implies, and_true] at qr7_
 refine dv (At.c (hr7_) Try.call46 true [(0, 0)] [] [] trivial ·) ?_
 refine dv (At.a 1 ·) ?_
 refine dv (At.sI 65 (30 * r7_.2.2) (by omega) ·) ?_
 refine dv (At.a 1 ·) ?_
 refine dv (At.ll 67 92 3 167 (0, 6) (([(⟨65, (60 * r6_.2.2) - 720, 97⟩ : Zon), (⟨66, 30 * r7_.2.2, 0⟩ : Zon)]).map encZon) ·) ?_
 refine dv (At.z 2 ·) ?_
 refine dv (AW.r ·) ?_
 refine dv (At.a 1 ·) ?_
 refine dv (At.ll 70 94 2 170 (0, 6) (([(⟨84, 65⟩ : Lnk)]).map encLnk) ·) ?_
 refine dv (At.z 2 ·) ?_
 refine dv (AW.q 2 ·) ?_
 refine dv (AW.ret ·) ?_
 refine dv (⟨_, Sub.refl _ _, ·⟩) ?_
 exact ⟨(r7_.1, r7_.2.1, (⟨([(⟨97, 1960 + r2_.2.2, (1960 + r2_.2.2) + r3_.2.2, 3, ⟨3, 8, 0⟩, 120, 60⟩ : Rul)]) ++ ([(⟨97, 1960 + r2_.2.2, (1960 + r2_.2.2) + r3_.2.2, 11, ⟨2, 0, r4_.2.2⟩, 120, 0⟩ : Rul)]), [(⟨65, (60 * r6_.2.2) - 720, 97⟩ : Zon), (⟨66, 30 * r7_.2.2, 0⟩ : Zon)], [(⟨84, 65⟩ : Lnk)]⟩ : Srce)), ⟨by (try dsimp only); omega, by (try dsimp only); omega, by exact small2 (by unfold SmR Sm; (try dsimp only); omega) (by unfold SmR Sm; (try dsimp only); omega) (by unfold Sm; (try dsimp only); omega) (by unfold Sm; (try dsimp only); omega) (by simp)⟩, KF.mk (.inr rfl) [(0, 0), (136, 1), (167, 2), (170, 3)] [.agg [.ref 136, .ref 167, .ref 170]] (by kernel_rfl) (by kernel_rfl) (by kernel_rfl) (by kernel_rfl) (by kernel_rfl)⟩
theorem spec_l1In_spec  (x : Int) (lo : Int) (hi : Int) : FnSpec Try.prog 36 [.int .i64 x, .int .i64 lo, .int .i64 hi] [] (.bool (inR x lo hi)) [] := by
 refine FnSpec.of 15 Try.func36 rfl Try.ntmps36 (by simp) (AW.weakK ?_)
 refine AW.q 1 ?_
 refine AW.r ?_
 refine At.a 4 ?_
 by_cases h1 : x ≥ lo
 · refine At.sB 10 _ _ (sayT h1) ?_
   refine At.z 5 ?_
   refine AW.ret ?_
   refine ⟨_, Sub.refl _ _, ?_⟩
   refine KF.conv (fun w => .bool w) (fun w => []) (show (decide (x ≤ hi)) = (inR x lo hi) from by simp [inR, *]) ?_
   exact KF.n []
 refine At.sB 10 _ _ (sayF h1) ?_
 refine At.z 5 ?_
 refine AW.ret ?_
 refine ⟨_, Sub.refl _ _, ?_⟩
 refine KF.conv (fun w => .bool w) (fun w => []) (show (false) = (inR x lo hi) from by simp [inR, *]) ?_
 exact KF.n []
theorem spec_l12Small_spec  (n : Int) : FnSpec Try.prog 74 [.int .i64 n] [] (.bool (inR n 97 122)) [] := by
 refine FnSpec.of 5 Try.func74 rfl Try.ntmps74 (by simp) (AW.weakK ?_)
 refine AW.q 1 ?_
 refine AW.r ?_
 refine At.a 1 ?_
 refine At.c (spec_l1In_spec  n 97 122 ) Try.call36 true [] [] [] trivial ?_
 refine At.z 1 ?_
 exact AW.ret (rf (KF.n []))
theorem spec_l11Year_spec  (n : Int) : FnSpec Try.prog 75 [.int .i64 n] [] (.bool (inR n 1900 2200)) [] := by
 refine FnSpec.of 5 Try.func75 rfl Try.ntmps75 (by simp) (AW.weakK ?_)
 refine AW.q 1 ?_
 refine AW.r ?_
 refine At.a 1 ?_
 refine At.c (spec_l1In_spec  n 1900 2200 ) Try.call36 true [] [] [] trivial ?_
 refine At.z 1 ?_
 exact AW.ret (rf (KF.n []))
theorem spec_OnOk_spec  (o : On) : ∃ rho_ : Bool, (True) ∧ FnSpec Try.prog 70 [.agg [.int .i64 o.kind, .int .i64 o.day, .int .i64 o.week]] [] (.bool rho_) [] := by
 refine dv (fun h_ => FnSpec.of 35 Try.func70 rfl Try.ntmps70 (by simp) (AW.weakK h_)) ?_
 refine dv (AW.q 2 ·) ?_
 refine dv (AW.seq ·) ?_
 refine dv (AW.q 2 ·) ?_
 refine dv (AW.block ·) ?_
 refine dv (AW.q 2 ·) ?_
 by_cases h1 : o.kind = 1
 · refine dv (AW.condT (o.kind == 1) (by kernel_rfl) (beq_iff_eq.2 h1) ·) ?_
   refine dv (AW.r ·) ?_
   refine dv (At.a 2 ·) ?_
   refine dv (At.c (spec_l1In_spec  o.day 1 31 ) Try.call36 true [] [] [] trivial ·) ?_
   refine dv (At.a 1 ·) ?_
   by_cases h2 : (inR o.day 1 31) = true
   · refine dv (At.sB 10 (inR o.day 1 31) true (sayB h2) ·) ?_
     have h2i := inR_iff.1 h2
     refine dv (At.z 5 ·) ?_
     refine dv (AW.ret ·) ?_
     refine dv (⟨_, Sub.refl _ _, ·⟩) ?_
     exact ⟨(o.week == 0), trivial, KF.mk (.inr rfl) [] [.bool (o.week == 0)] (by kernel_rfl) (by kernel_rfl) (by kernel_rfl) (by kernel_rfl) (by kernel_rfl)⟩
   refine dv (At.sB 10 (inR o.day 1 31) false (sayB (Bool.eq_false_iff.2 h2)) ·) ?_
   replace h2 := Bool.eq_false_iff.2 h2
   refine dv (At.z 5 ·) ?_
   refine dv (AW.ret ·) ?_
   refine dv (⟨_, Sub.refl _ _, ·⟩) ?_
   exact ⟨(false), trivial, KF.mk (.inr rfl) [] [.bool false] (by kernel_rfl) (by kernel_rfl) (by kernel_rfl) (by kernel_rfl) (by kernel_rfl)⟩
 refine dv (AW.condF (o.kind == 1) (by kernel_rfl) (beq_eq_false_iff_ne.2 h1) ·) ?_
 refine dv (AW.q 2 ·) ?_
 by_cases h3 : o.kind = 2
 · refine dv (AW.condT (o.kind == 2) (by kernel_rfl) (beq_iff_eq.2 h3) ·) ?_
   refine dv (AW.r ·) ?_
   refine dv (At.a 4 ·) ?_
   by_cases h4 : o.day = 0
   · refine dv (At.sB 20 _ _ (sayET h4) ·) ?_
     refine dv (At.a 2 ·) ?_
     refine dv (At.c (spec_l1In_spec  o.week 0 6 ) Try.call36 true [] [] [] trivial ·) ?_
     refine dv (At.z 2 ·) ?_
     refine dv (AW.ret ·) ?_
     refine dv (⟨_, Sub.refl _ _, ·⟩) ?_
     exact ⟨(inR o.week 0 6), trivial, KF.mk (.inr rfl) [] [.bool (inR o.week 0 6)] (by kernel_rfl) (by kernel_rfl) (by kernel_rfl) (by kernel_rfl) (by kernel_rfl)⟩
   refine dv (At.sB 20 _ _ (sayEF h4) ·) ?_
   refine dv (At.z 5 ·) ?_
   refine dv (AW.ret ·) ?_
   refine dv (⟨_, Sub.refl _ _, ·⟩) ?_
   exact ⟨(false), trivial, KF.mk (.inr rfl) [] [.bool false] (by kernel_rfl) (by kernel_rfl) (by kernel_rfl) (by kernel_rfl) (by kernel_rfl)⟩
 refine dv (AW.condF (o.kind == 2) (by kernel_rfl) (beq_eq_false_iff_ne.2 h3) ·) ?_
 refine dv (AW.q 2 ·) ?_
 by_cases h5 : o.kind = 3
 · refine dv (AW.condT (o.kind == 3) (by kernel_rfl) (beq_iff_eq.2 h5) ·) ?_
   refine dv (AW.r ·) ?_
   refine dv (At.a 2 ·) ?_
   refine dv (At.c (spec_l1In_spec  o.day 1 31 ) Try.call36 true [] [] [] trivial ·) ?_
   refine dv (At.a 1 ·) ?_
   by_cases h6 : (inR o.day 1 31) = true
   · refine dv (At.sB 30 (inR o.day 1 31) true (sayB h6) ·) ?_
     have h6i := inR_iff.1 h6
     refine dv (At.a 2 ·) ?_
     refine dv (At.c (spec_l1In_spec  o.week 0 6 ) Try.call36 true [] [] [] trivial ·) ?_
     refine dv (At.z 2 ·) ?_
     refine dv (AW.ret ·) ?_
     refine dv (⟨_, Sub.refl _ _, ·⟩) ?_
     exact ⟨(inR o.week 0 6), trivial, KF.mk (.inr rfl) [] [.bool (inR o.week 0 6)] (by kernel_rfl) (by kernel_rfl) (by kernel_rfl) (by kernel_rfl) (by kernel_rfl)⟩
   refine dv (At.sB 30 (inR o.day 1 31) false (sayB (Bool.eq_false_iff.2 h6)) ·) ?_
   replace h6 := Bool.eq_false_iff.2 h6
   refine dv (At.z 5 ·) ?_
   refine dv (AW.ret ·) ?_
   refine dv (⟨_, Sub.refl _ _, ·⟩) ?_
   exact ⟨(false), trivial, KF.mk (.inr rfl) [] [.bool false] (by kernel_rfl) (by kernel_rfl) (by kernel_rfl) (by kernel_rfl) (by kernel_rfl)⟩
 refine dv (AW.condF (o.kind == 3) (by kernel_rfl) (beq_eq_false_iff_ne.2 h5) ·) ?_
 refine dv (AW.skip ·) ?_
 refine dv (AW.q 1 ·) ?_
 refine dv (AW.ret ·) ?_
 refine dv (⟨_, Sub.refl _ _, ·⟩) ?_
 exact ⟨(false), trivial, KF.mk (.inr rfl) [] [.bool false] (by kernel_rfl) (by kernel_rfl) (by kernel_rfl) (by kernel_rfl) (by kernel_rfl)⟩
theorem spec_l12RuleOk_spec  (r : Rul) : ∃ rho_ : Bool, (True) ∧ FnSpec Try.prog 67 [.agg [.int .i64 r.name, .int .i64 r.from_, .int .i64 r.to, .int .i64 r.month, .int .i64 r.on.kind, .int .i64 r.on.day, .int .i64 r.on.week, .int .i64 r.at_, .int .i64 r.save]] [] (.bool rho_) [] := by
 refine dv (fun h_ => FnSpec.of 43 Try.func67 rfl Try.ntmps67 (by simp) (AW.weakK h_)) ?_
 refine dv (AW.q 2 ·) ?_
 refine dv (AW.r ·) ?_
 refine dv (At.a 2 ·) ?_
 refine dv (At.c (spec_l12Small_spec  r.name ) Try.call74 true [] [] [] trivial ·) ?_
 refine dv (At.a 1 ·) ?_
 by_cases h1 : (inR r.name 97 122) = true
 · refine dv (At.sB 6 (inR r.name 97 122) true (sayB h1) ·) ?_
   have h1i := inR_iff.1 h1
   refine dv (At.a 2 ·) ?_
   refine dv (At.c (spec_l11Year_spec  r.from_ ) Try.call75 true [] [] [] trivial ·) ?_
   refine dv (At.a 2 ·) ?_
   by_cases h2 : (inR r.from_ 1900 2200) = true
   · refine dv (At.sB 11 (inR r.from_ 1900 2200) true (sayB h2) ·) ?_
     have h2i := inR_iff.1 h2
     refine dv (At.a 2 ·) ?_
     refine dv (At.c (spec_l11Year_spec  r.to ) Try.call75 true [] [] [] trivial ·) ?_
     refine dv (At.a 2 ·) ?_
     by_cases h3 : (inR r.to 1900 2200) = true
     · refine dv (At.sB 16 (inR r.to 1900 2200) true (sayB h3) ·) ?_
       have h3i := inR_iff.1 h3
       refine dv (At.a 7 ·) ?_
       by_cases h4 : r.from_ ≤ r.to
       · refine dv (At.sB 23 _ _ (sayT h4) ·) ?_
         refine dv (At.a 2 ·) ?_
         refine dv (At.c (spec_l1In_spec  r.month 1 12 ) Try.call36 true [] [] [] trivial ·) ?_
         refine dv (At.a 2 ·) ?_
         by_cases h5 : (inR r.month 1 12) = true
         · refine dv (At.sB 28 (inR r.month 1 12) true (sayB h5) ·) ?_
           have h5i := inR_iff.1 h5
           refine dv (At.a 2 ·) ?_
           refine Exists.elim (spec_OnOk_spec  r.on ) fun r1_ hr1_ => ?_
           obtain ⟨qr1_, hr1_⟩ := hr1_
           try dsimp only at qr1_
           refine dv (At.c (hr1_) Try.call70 true [] [] [] trivial ·) ?_
           refine dv (At.a 2 ·) ?_
           by_cases h6 : r1_ = true
           · refine dv (At.sB 33 r1_ true (sayB h6) ·) ?_
             refine dv (At.a 2 ·) ?_
             refine dv (At.c (spec_l1In_spec  r.at_ 0 1439 ) Try.call36 true [] [] [] trivial ·) ?_
             refine dv (At.a 2 ·) ?_
             by_cases h7 : (inR r.at_ 0 1439) = true
             · refine dv (At.sB 38 (inR r.at_ 0 1439) true (sayB h7) ·) ?_
               have h7i := inR_iff.1 h7
               refine dv (At.a 2 ·) ?_
               refine dv (At.c (spec_l1In_spec  r.save 0 180 ) Try.call36 true [] [] [] trivial ·) ?_
               refine dv (At.z 2 ·) ?_
               refine dv (AW.ret ·) ?_
               refine dv (⟨_, Sub.refl _ _, ·⟩) ?_
               exact ⟨(inR r.save 0 180), trivial, KF.mk (.inr rfl) [] [.bool (inR r.save 0 180)] (by kernel_rfl) (by kernel_rfl) (by kernel_rfl) (by kernel_rfl) (by kernel_rfl)⟩
             refine dv (At.sB 38 (inR r.at_ 0 1439) false (sayB (Bool.eq_false_iff.2 h7)) ·) ?_
             replace h7 := Bool.eq_false_iff.2 h7
             refine dv (At.z 5 ·) ?_
             refine dv (AW.ret ·) ?_
             refine dv (⟨_, Sub.refl _ _, ·⟩) ?_
             exact ⟨(false), trivial, KF.mk (.inr rfl) [] [.bool false] (by kernel_rfl) (by kernel_rfl) (by kernel_rfl) (by kernel_rfl) (by kernel_rfl)⟩
           refine dv (At.sB 33 r1_ false (sayB (Bool.eq_false_iff.2 h6)) ·) ?_
           replace h6 := Bool.eq_false_iff.2 h6
           refine dv (At.z 10 ·) ?_
           refine dv (AW.ret ·) ?_
           refine dv (⟨_, Sub.refl _ _, ·⟩) ?_
           exact ⟨(false), trivial, KF.mk (.inr rfl) [] [.bool false] (by kernel_rfl) (by kernel_rfl) (by kernel_rfl) (by kernel_rfl) (by kernel_rfl)⟩
         refine dv (At.sB 28 (inR r.month 1 12) false (sayB (Bool.eq_false_iff.2 h5)) ·) ?_
         replace h5 := Bool.eq_false_iff.2 h5
         refine dv (At.z 15 ·) ?_
         refine dv (AW.ret ·) ?_
         refine dv (⟨_, Sub.refl _ _, ·⟩) ?_
         exact ⟨(false), trivial, KF.mk (.inr rfl) [] [.bool false] (by kernel_rfl) (by kernel_rfl) (by kernel_rfl) (by kernel_rfl) (by kernel_rfl)⟩
       refine dv (At.sB 23 _ _ (sayF h4) ·) ?_
       refine dv (At.z 20 ·) ?_
       refine dv (AW.ret ·) ?_
       refine dv (⟨_, Sub.refl _ _, ·⟩) ?_
       exact ⟨(false), trivial, KF.mk (.inr rfl) [] [.bool false] (by kernel_rfl) (by kernel_rfl) (by kernel_rfl) (by kernel_rfl) (by kernel_rfl)⟩
     refine dv (At.sB 16 (inR r.to 1900 2200) false (sayB (Bool.eq_false_iff.2 h3)) ·) ?_
     replace h3 := Bool.eq_false_iff.2 h3
     refine dv (At.z 27 ·) ?_
     refine dv (AW.ret ·) ?_
     refine dv (⟨_, Sub.refl _ _, ·⟩) ?_
     exact ⟨(false), trivial, KF.mk (.inr rfl) [] [.bool false] (by kernel_rfl) (by kernel_rfl) (by kernel_rfl) (by kernel_rfl) (by kernel_rfl)⟩
   refine dv (At.sB 11 (inR r.from_ 1900 2200) false (sayB (Bool.eq_false_iff.2 h2)) ·) ?_
   replace h2 := Bool.eq_false_iff.2 h2
   refine dv (At.z 32 ·) ?_
   refine dv (AW.ret ·) ?_
   refine dv (⟨_, Sub.refl _ _, ·⟩) ?_
   exact ⟨(false), trivial, KF.mk (.inr rfl) [] [.bool false] (by kernel_rfl) (by kernel_rfl) (by kernel_rfl) (by kernel_rfl) (by kernel_rfl)⟩
 refine dv (At.sB 6 (inR r.name 97 122) false (sayB (Bool.eq_false_iff.2 h1)) ·) ?_
 replace h1 := Bool.eq_false_iff.2 h1
 refine dv (At.z 37 ·) ?_
 refine dv (AW.ret ·) ?_
 refine dv (⟨_, Sub.refl _ _, ·⟩) ?_
 exact ⟨(false), trivial, KF.mk (.inr rfl) [] [.bool false] (by kernel_rfl) (by kernel_rfl) (by kernel_rfl) (by kernel_rfl) (by kernel_rfl)⟩
theorem spec_l12Great_spec  (n : Int) : FnSpec Try.prog 76 [.int .i64 n] [] (.bool (inR n 65 90)) [] := by
 refine FnSpec.of 5 Try.func76 rfl Try.ntmps76 (by simp) (AW.weakK ?_)
 refine AW.q 1 ?_
 refine AW.r ?_
 refine At.a 1 ?_
 refine At.c (spec_l1In_spec  n 65 90 ) Try.call36 true [] [] [] trivial ?_
 refine At.z 1 ?_
 exact AW.ret (rf (KF.n []))
theorem spec_l12HasRule_spec  (list : List Rul) (x : Int) (hl : list.length ≤ 1048576) : ∃ rho_ : Bool, (True) ∧ FnSpec Try.prog 77 [.sl false 9 (list.map encRul), .int .i64 x] [] (.bool rho_) [] := by
 refine dv (fun h_ => FnSpec.of 19 Try.func77 rfl Try.ntmps77 (by simp) (AW.weakK h_)) ?_
 refine dv (AW.q 1 ·) ?_
 refine dv (AW.seq ·) ?_
 refine dv (AW.q 1 ·) ?_
 refine dv (AW.block ·) ?_
 refine DW.loopQ (fun (k : Nat) => Go.Sy.mk [.sl false 9 (list.map encRul), .int .i64 x, .un, .un, .un, .int .i64 (k : Int)] []) (fun (k : Nat) => k ≤ list.length) (fun (k : Nat) => list.length - k) 0 (by omega) (Sub.o [] [true, true, false, false, false, true]) ?_
 rintro k hk ih1
 refine dv (AW.seq ·) ?_
 refine dv (AW.r ·) ?_
 refine dv (At.a 3 ·) ?_
 refine dv (At.sL 8 encRul list ·) ?_
 refine dv (At.z 1 ·) ?_
 by_cases h1 : (k : Int) < (list.length : Int)
 · refine dv (AW.condT (decide ((k : Int) < (list.length : Int))) (by kernel_rfl) (decide_eq_true h1) ·) ?_
   refine dv (AW.skip ·) ?_
   refine dv (AW.seq ·) ?_
   refine dv (AW.block ·) ?_
   refine dv (AW.r ·) ?_
   refine dv (At.a 2 ·) ?_
   refine dv (At.iSl 56 14 (.tmp 12) (.tmp 13) false 9 (list.map encRul) .i64 (k : Int) 88 (by omega) (by simp only [List.length_map]; omega) ·) ?_
   refine dv (At.a 1 ·) ?_
   refine Exists.elim (gE list k (by omega)) fun e1 he1 => ?_
   refine dv (At.lVp 3 16 (.tmp 15) false 9 (list.map encRul) k 0 false 1 (encRul e1) (.int .i64 e1.name) (mapGet he1) ·) ?_
   refine dv (At.z 2 ·) ?_
   by_cases h2 : e1.name = x
   · refine dv (AW.condT (e1.name == x) (by kernel_rfl) (beq_iff_eq.2 h2) ·) ?_
     refine dv (AW.q 1 ·) ?_
     refine dv (AW.ret ·) ?_
     refine dv (⟨_, Sub.refl _ _, ·⟩) ?_
     exact ⟨(true), trivial, KF.mk (.inr rfl) [] [.bool true] (by kernel_rfl) (by kernel_rfl) (by kernel_rfl) (by kernel_rfl) (by kernel_rfl)⟩
   refine dv (AW.condF (e1.name == x) (by kernel_rfl) (beq_eq_false_iff_ne.2 h2) ·) ?_
   refine dv (AW.skip ·) ?_
   refine dv (AW.g ·) ?_
   refine dv (At.a 2 ·) ?_
   refine dv (At.sI 11 ((k : Int) + 1) (by omega) ·) ?_
   refine dv (At.z 1 ·) ?_
   exact dw (fun _ h_ => AWL.weak (Sub.o [] [true, true, false, false, false, true]) h_) (ih1 (k + 1) (by omega) (by omega))
 refine dv (AW.condF (decide ((k : Int) < (list.length : Int))) (by kernel_rfl) (decide_eq_false h1) ·) ?_
 refine dv (AW.exit ·) ?_
 refine dv (AW.q 1 ·) ?_
 refine dv (AW.ret ·) ?_
 refine dv (⟨_, Sub.refl _ _, ·⟩) ?_
 exact ⟨(false), trivial, KF.mk (.inr rfl) [] [.bool false] (by kernel_rfl) (by kernel_rfl) (by kernel_rfl) (by kernel_rfl) (by kernel_rfl)⟩
theorem spec_l12Zone_spec  (s : Srce) (z : Zon) (hs : s.rules.length ≤ 1048576 ∧ s.zones.length ≤ 1048576 ∧ s.links.length ≤ 1048576) : ∃ rho_ : Bool, (True) ∧ FnSpec Try.prog 68 [.agg [.sl false 9 (s.rules.map encRul), .sl false 3 (s.zones.map encZon), .sl false 2 (s.links.map encLnk)], .agg [.int .i64 z.name, .int .i64 z.off, .int .i64 z.rule]] [] (.bool rho_) [] := by
 refine dv (fun h_ => FnSpec.of 45 Try.func68 rfl Try.ntmps68 (by simp) (AW.weakK h_)) ?_
 refine dv (AW.q 3 ·) ?_
 refine dv (AW.r ·) ?_
 refine dv (At.a 3 ·) ?_
 refine dv (At.sL 8 encZon s.zones ·) ?_
 refine dv (At.z 1 ·) ?_
 refine dv (AW.seq ·) ?_
 refine dv (AW.gD Try_mix ·) ?_
 refine dv (At.a 2 ·) ?_
 refine dv (At.c (spec_l12Great_spec  z.name ) Try.call76 true [] [] [] trivial ·) ?_
 refine dv (At.a 1 ·) ?_
 by_cases h1 : (inR z.name 65 90) = true
 · refine dv (At.sB 12 (inR z.name 65 90) true (sayB h1) ·) ?_
   have h1i := inR_iff.1 h1
   refine dv (At.a 2 ·) ?_
   refine dv (At.c (spec_l1In_spec  z.off (-900) 900 ) Try.call36 true [] [] [] trivial ·) ?_
   refine dv (At.a 2 ·) ?_
   by_cases h2 : (inR z.off (-900) 900) = true
   · refine dv (At.sB 17 (inR z.off (-900) 900) true (sayB h2) ·) ?_
     have h2i := inR_iff.1 h2
     refine dv (At.a 3 ·) ?_
     by_cases h3 : (s.zones.length : Int) = 0
     · refine dv (At.sB 20 _ _ (sayET h3) ·) ?_
       refine dv (At.a 17 ·) ?_
       by_cases h4 : z.rule = 0
       · refine dv (At.sB 37 _ _ (sayET h4) ·) ?_
         refine dv (At.zD 8 ·) ?_
         refine dv (AW.ret ·) ?_
         refine dv (⟨_, Sub.refl _ _, ·⟩) ?_
         exact ⟨(true), trivial, KF.mk (.inr rfl) [] [.bool true] (by kernel_rfl) (by kernel_rfl) (by kernel_rfl) (by kernel_rfl) (by kernel_rfl)⟩
       refine dv (At.sB 37 _ _ (sayEF h4) ·) ?_
       refine dv (At.a 4 ·) ?_
       refine Exists.elim (spec_l12HasRule_spec  s.rules z.rule (by omega)) fun r1_ hr1_ => ?_
       obtain ⟨qr1_, hr1_⟩ := hr1_
       try dsimp only at qr1_
       refine dv (At.c (hr1_) Try.call77 true [] [] [] trivial ·) ?_
       refine dv (At.zD 3 ·) ?_
       refine dv (AW.ret ·) ?_
       refine dv (⟨_, Sub.refl _ _, ·⟩) ?_
       exact ⟨(r1_), trivial, KF.mk (.inr rfl) [] [.bool r1_] (by kernel_rfl) (by kernel_rfl) (by kernel_rfl) (by kernel_rfl) (by kernel_rfl)⟩
     refine dv (At.sB 20 _ _ (sayEF h3) ·) ?_
     refine dv (At.a 4 ·) ?_
     refine dv (At.sI 24 ((s.zones.length : Int) - 1) (by omega) ·) ?_
     refine dv (At.iSl 57 25 (.tmp 22) (.tmp 24) false 3 (s.zones.map encZon) .i64 ((s.zones.length : Int) - 1) 92 (by omega) (by simp only [List.length_map]; omega) ·) ?_
     refine dv (At.a 1 ·) ?_
     refine Exists.elim (gE s.zones (((s.zones.length : Int) - 1).toNat) (by omega)) fun e1 he1 => ?_
     refine dv (At.lVp 3 27 (.tmp 26) false 3 (s.zones.map encZon) (((s.zones.length : Int) - 1).toNat) 0 false 1 (encZon e1) (.int .i64 e1.name) (mapGet he1) ·) ?_
     refine dv (At.a 6 ·) ?_
     by_cases h5 : e1.name < z.name
     · refine dv (At.sB 33 _ _ (sayT h5) ·) ?_
       refine dv (At.a 4 ·) ?_
       by_cases h6 : z.rule = 0
       · refine dv (At.sB 37 _ _ (sayET h6) ·) ?_
         refine dv (At.zD 8 ·) ?_
         refine dv (AW.ret ·) ?_
         refine dv (⟨_, Sub.refl _ _, ·⟩) ?_
         exact ⟨(true), trivial, KF.mk (.inr rfl) [] [.bool true] (by kernel_rfl) (by kernel_rfl) (by kernel_rfl) (by kernel_rfl) (by kernel_rfl)⟩
       refine dv (At.sB 37 _ _ (sayEF h6) ·) ?_
       refine dv (At.a 4 ·) ?_
       refine Exists.elim (spec_l12HasRule_spec  s.rules z.rule (by omega)) fun r1_ hr1_ => ?_
       obtain ⟨qr1_, hr1_⟩ := hr1_
       try dsimp only at qr1_
       refine dv (At.c (hr1_) Try.call77 true [] [] [] trivial ·) ?_
       refine dv (At.zD 3 ·) ?_
       refine dv (AW.ret ·) ?_
       refine dv (⟨_, Sub.refl _ _, ·⟩) ?_
       exact ⟨(r1_), trivial, KF.mk (.inr rfl) [] [.bool r1_] (by kernel_rfl) (by kernel_rfl) (by kernel_rfl) (by kernel_rfl) (by kernel_rfl)⟩
     refine dv (At.sB 33 _ _ (sayF h5) ·) ?_
     refine dv (At.zD 12 ·) ?_
     refine dv (AW.ret ·) ?_
     refine dv (⟨_, Sub.refl _ _, ·⟩) ?_
     exact ⟨(false), trivial, KF.mk (.inr rfl) [] [.bool false] (by kernel_rfl) (by kernel_rfl) (by kernel_rfl) (by kernel_rfl) (by kernel_rfl)⟩
   refine dv (At.sB 17 (inR z.off (-900) 900) false (sayB (Bool.eq_false_iff.2 h2)) ·) ?_
   replace h2 := Bool.eq_false_iff.2 h2
   refine dv (At.zD 28 ·) ?_
   refine dv (AW.ret ·) ?_
   refine dv (⟨_, Sub.refl _ _, ·⟩) ?_
   exact ⟨(false), trivial, KF.mk (.inr rfl) [] [.bool false] (by kernel_rfl) (by kernel_rfl) (by kernel_rfl) (by kernel_rfl) (by kernel_rfl)⟩
 refine dv (At.sB 12 (inR z.name 65 90) false (sayB (Bool.eq_false_iff.2 h1)) ·) ?_
 replace h1 := Bool.eq_false_iff.2 h1
 refine dv (At.zD 33 ·) ?_
 refine dv (AW.ret ·) ?_
 refine dv (⟨_, Sub.refl _ _, ·⟩) ?_
 exact ⟨(false), trivial, KF.mk (.inr rfl) [] [.bool false] (by kernel_rfl) (by kernel_rfl) (by kernel_rfl) (by kernel_rfl) (by kernel_rfl)⟩
theorem spec_l12HasZone_spec  (list : List Zon) (x : Int) (hl : list.length ≤ 1048576) : ∃ rho_ : Bool, (True) ∧ FnSpec Try.prog 78 [.sl false 3 (list.map encZon), .int .i64 x] [] (.bool rho_) [] := by
 refine dv (fun h_ => FnSpec.of 19 Try.func78 rfl Try.ntmps78 (by simp) (AW.weakK h_)) ?_
 refine dv (AW.q 1 ·) ?_
 refine dv (AW.seq ·) ?_
 refine dv (AW.q 1 ·) ?_
 refine dv (AW.block ·) ?_
 refine DW.loopQ (fun (k : Nat) => Go.Sy.mk [.sl false 3 (list.map encZon), .int .i64 x, .un, .un, .un, .int .i64 (k : Int)] []) (fun (k : Nat) => k ≤ list.length) (fun (k : Nat) => list.length - k) 0 (by omega) (Sub.o [] [true, true, false, false, false, true]) ?_
 rintro k hk ih1
 refine dv (AW.seq ·) ?_
 refine dv (AW.r ·) ?_
 refine dv (At.a 3 ·) ?_
 refine dv (At.sL 8 encZon list ·) ?_
 refine dv (At.z 1 ·) ?_
 by_cases h1 : (k : Int) < (list.length : Int)
 · refine dv (AW.condT (decide ((k : Int) < (list.length : Int))) (by kernel_rfl) (decide_eq_true h1) ·) ?_
   refine dv (AW.skip ·) ?_
   refine dv (AW.seq ·) ?_
   refine dv (AW.block ·) ?_
   refine dv (AW.r ·) ?_
   refine dv (At.a 2 ·) ?_
   refine dv (At.iSl 57 14 (.tmp 12) (.tmp 13) false 3 (list.map encZon) .i64 (k : Int) 92 (by omega) (by simp only [List.length_map]; omega) ·) ?_
   refine dv (At.a 1 ·) ?_
   refine Exists.elim (gE list k (by omega)) fun e1 he1 => ?_
   refine dv (At.lVp 3 16 (.tmp 15) false 3 (list.map encZon) k 0 false 1 (encZon e1) (.int .i64 e1.name) (mapGet he1) ·) ?_
   refine dv (At.z 2 ·) ?_
   by_cases h2 : e1.name = x
   · refine dv (AW.condT (e1.name == x) (by kernel_rfl) (beq_iff_eq.2 h2) ·) ?_
     refine dv (AW.q 1 ·) ?_
     refine dv (AW.ret ·) ?_
     refine dv (⟨_, Sub.refl _ _, ·⟩) ?_
     exact ⟨(true), trivial, KF.mk (.inr rfl) [] [.bool true] (by kernel_rfl) (by kernel_rfl) (by kernel_rfl) (by kernel_rfl) (by kernel_rfl)⟩
   refine dv (AW.condF (e1.name == x) (by kernel_rfl) (beq_eq_false_iff_ne.2 h2) ·) ?_
   refine dv (AW.skip ·) ?_
   refine dv (AW.g ·) ?_
   refine dv (At.a 2 ·) ?_
   refine dv (At.sI 11 ((k : Int) + 1) (by omega) ·) ?_
   refine dv (At.z 1 ·) ?_
   exact dw (fun _ h_ => AWL.weak (Sub.o [] [true, true, false, false, false, true]) h_) (ih1 (k + 1) (by omega) (by omega))
 refine dv (AW.condF (decide ((k : Int) < (list.length : Int))) (by kernel_rfl) (decide_eq_false h1) ·) ?_
 refine dv (AW.exit ·) ?_
 refine dv (AW.q 1 ·) ?_
 refine dv (AW.ret ·) ?_
 refine dv (⟨_, Sub.refl _ _, ·⟩) ?_
 exact ⟨(false), trivial, KF.mk (.inr rfl) [] [.bool false] (by kernel_rfl) (by kernel_rfl) (by kernel_rfl) (by kernel_rfl) (by kernel_rfl)⟩
theorem spec_l12Link_spec  (s : Srce) (l : Lnk) (hs : s.rules.length ≤ 1048576 ∧ s.zones.length ≤ 1048576 ∧ s.links.length ≤ 1048576) : ∃ rho_ : Bool, (True) ∧ FnSpec Try.prog 69 [.agg [.sl false 9 (s.rules.map encRul), .sl false 3 (s.zones.map encZon), .sl false 2 (s.links.map encLnk)], .agg [.int .i64 l.name, .int .i64 l.to]] [] (.bool rho_) [] := by
 refine dv (fun h_ => FnSpec.of 43 Try.func69 rfl Try.ntmps69 (by simp) (AW.weakK h_)) ?_
 refine dv (AW.q 3 ·) ?_
 refine dv (AW.r ·) ?_
 refine dv (At.a 3 ·) ?_
 refine dv (At.sL 8 encLnk s.links ·) ?_
 refine dv (At.z 1 ·) ?_
 refine dv (AW.seq ·) ?_
 refine dv (AW.gD Try_mix ·) ?_
 refine dv (At.a 2 ·) ?_
 refine dv (At.c (spec_l12Great_spec  l.name ) Try.call76 true [] [] [] trivial ·) ?_
 refine dv (At.a 1 ·) ?_
 by_cases h1 : (inR l.name 65 90) = true
 · refine dv (At.sB 12 (inR l.name 65 90) true (sayB h1) ·) ?_
   have h1i := inR_iff.1 h1
   refine dv (At.a 3 ·) ?_
   by_cases h2 : (s.links.length : Int) = 0
   · refine dv (At.sB 15 _ _ (sayET h2) ·) ?_
     refine dv (At.a 17 ·) ?_
     refine Exists.elim (spec_l12HasZone_spec  s.zones l.to (by omega)) fun r1_ hr1_ => ?_
     obtain ⟨qr1_, hr1_⟩ := hr1_
     try dsimp only at qr1_
     refine dv (At.c (hr1_) Try.call78 true [] [] [] trivial ·) ?_
     refine dv (At.a 2 ·) ?_
     by_cases h3 : r1_ = true
     · refine dv (At.sB 35 r1_ true (sayB h3) ·) ?_
       refine dv (At.a 4 ·) ?_
       refine Exists.elim (spec_l12HasZone_spec  s.zones l.name (by omega)) fun r2_ hr2_ => ?_
       obtain ⟨qr2_, hr2_⟩ := hr2_
       try dsimp only at qr2_
       refine dv (At.c (hr2_) Try.call78 true [] [] [] trivial ·) ?_
       refine dv (At.zD 3 ·) ?_
       refine dv (AW.ret ·) ?_
       refine dv (⟨_, Sub.refl _ _, ·⟩) ?_
       exact ⟨(!r2_), trivial, KF.mk (.inr rfl) [] [.bool (!r2_)] (by kernel_rfl) (by kernel_rfl) (by kernel_rfl) (by kernel_rfl) (by kernel_rfl)⟩
     refine dv (At.sB 35 r1_ false (sayB (Bool.eq_false_iff.2 h3)) ·) ?_
     replace h3 := Bool.eq_false_iff.2 h3
     refine dv (At.zD 8 ·) ?_
     refine dv (AW.ret ·) ?_
     refine dv (⟨_, Sub.refl _ _, ·⟩) ?_
     exact ⟨(false), trivial, KF.mk (.inr rfl) [] [.bool false] (by kernel_rfl) (by kernel_rfl) (by kernel_rfl) (by kernel_rfl) (by kernel_rfl)⟩
   refine dv (At.sB 15 _ _ (sayEF h2) ·) ?_
   refine dv (At.a 4 ·) ?_
   refine dv (At.sI 19 ((s.links.length : Int) - 1) (by omega) ·) ?_
   refine dv (At.iSl 58 20 (.tmp 17) (.tmp 19) false 2 (s.links.map encLnk) .i64 ((s.links.length : Int) - 1) 94 (by omega) (by simp only [List.length_map]; omega) ·) ?_
   refine dv (At.a 1 ·) ?_
   refine Exists.elim (gE s.links (((s.links.length : Int) - 1).toNat) (by omega)) fun e1 he1 => ?_
   refine dv (At.lVp 3 22 (.tmp 21) false 2 (s.links.map encLnk) (((s.links.length : Int) - 1).toNat) 0 false 1 (encLnk e1) (.int .i64 e1.name) (mapGet he1) ·) ?_
   refine dv (At.a 6 ·) ?_
   by_cases h4 : e1.name < l.name
   · refine dv (At.sB 28 _ _ (sayT h4) ·) ?_
     refine dv (At.a 4 ·) ?_
     refine Exists.elim (spec_l12HasZone_spec  s.zones l.to (by omega)) fun r1_ hr1_ => ?_
     obtain ⟨qr1_, hr1_⟩ := hr1_
     try dsimp only at qr1_
     refine dv (At.c (hr1_) Try.call78 true [] [] [] trivial ·) ?_
     refine dv (At.a 2 ·) ?_
     by_cases h5 : r1_ = true
     · refine dv (At.sB 35 r1_ true (sayB h5) ·) ?_
       refine dv (At.a 4 ·) ?_
       refine Exists.elim (spec_l12HasZone_spec  s.zones l.name (by omega)) fun r2_ hr2_ => ?_
       obtain ⟨qr2_, hr2_⟩ := hr2_
       try dsimp only at qr2_
       refine dv (At.c (hr2_) Try.call78 true [] [] [] trivial ·) ?_
       refine dv (At.zD 3 ·) ?_
       refine dv (AW.ret ·) ?_
       refine dv (⟨_, Sub.refl _ _, ·⟩) ?_
       exact ⟨(!r2_), trivial, KF.mk (.inr rfl) [] [.bool (!r2_)] (by kernel_rfl) (by kernel_rfl) (by kernel_rfl) (by kernel_rfl) (by kernel_rfl)⟩
     refine dv (At.sB 35 r1_ false (sayB (Bool.eq_false_iff.2 h5)) ·) ?_
     replace h5 := Bool.eq_false_iff.2 h5
     refine dv (At.zD 8 ·) ?_
     refine dv (AW.ret ·) ?_
     refine dv (⟨_, Sub.refl _ _, ·⟩) ?_
     exact ⟨(false), trivial, KF.mk (.inr rfl) [] [.bool false] (by kernel_rfl) (by kernel_rfl) (by kernel_rfl) (by kernel_rfl) (by kernel_rfl)⟩
   refine dv (At.sB 28 _ _ (sayF h4) ·) ?_
   refine dv (At.zD 15 ·) ?_
   refine dv (AW.ret ·) ?_
   refine dv (⟨_, Sub.refl _ _, ·⟩) ?_
   exact ⟨(false), trivial, KF.mk (.inr rfl) [] [.bool false] (by kernel_rfl) (by kernel_rfl) (by kernel_rfl) (by kernel_rfl) (by kernel_rfl)⟩
 refine dv (At.sB 12 (inR l.name 65 90) false (sayB (Bool.eq_false_iff.2 h1)) ·) ?_
 replace h1 := Bool.eq_false_iff.2 h1
 refine dv (At.zD 31 ·) ?_
 refine dv (AW.ret ·) ?_
 refine dv (⟨_, Sub.refl _ _, ·⟩) ?_
 exact ⟨(false), trivial, KF.mk (.inr rfl) [] [.bool false] (by kernel_rfl) (by kernel_rfl) (by kernel_rfl) (by kernel_rfl) (by kernel_rfl)⟩
theorem spec_SourceOk_spec  (s : Srce) (hs : s.rules.length ≤ 1048576 ∧ s.zones.length ≤ 1048576 ∧ s.links.length ≤ 1048576) : ∃ rho_ : Bool, (True) ∧ FnSpec Try.prog 48 [.agg [.sl false 9 (s.rules.map encRul), .sl false 3 (s.zones.map encZon), .sl false 2 (s.links.map encLnk)]] [] (.bool rho_) [] := by
 refine dv (fun h_ => FnSpec.of 82 Try.func48 rfl Try.ntmps48 (by simp) (AW.weakK h_)) ?_
 refine dv (AW.q 2 ·) ?_
 refine dv (AW.seq ·) ?_
 refine dv (AW.r ·) ?_
 refine dv (At.a 3 ·) ?_
 refine dv (At.sL 9 encRul s.rules ·) ?_
 refine dv (At.a 2 ·) ?_
 by_cases h1 : (s.rules.length : Int) > 20
 · refine dv (At.sB 11 _ _ (sayT h1) ·) ?_
   refine dv (At.z 11 ·) ?_
   refine dv (fun h_ => AW.cond true (by kernel_rfl) (fun _ => h_) (fun h => by cases h)) ?_
   refine dv (AW.q 1 ·) ?_
   refine dv (AW.ret ·) ?_
   refine dv (⟨_, Sub.refl _ _, ·⟩) ?_
   exact ⟨(false), trivial, KF.mk (.inr rfl) [] [.bool false] (by kernel_rfl) (by kernel_rfl) (by kernel_rfl) (by kernel_rfl) (by kernel_rfl)⟩
 refine dv (At.sB 11 _ _ (sayF h1) ·) ?_
 refine dv (At.a 3 ·) ?_
 refine dv (At.sL 14 encZon s.zones ·) ?_
 refine dv (At.a 3 ·) ?_
 by_cases h2 : (s.zones.length : Int) > 26
 · refine dv (At.sB 17 _ _ (sayT h2) ·) ?_
   refine dv (At.z 5 ·) ?_
   refine dv (fun h_ => AW.cond true (by kernel_rfl) (fun _ => h_) (fun h => by cases h)) ?_
   refine dv (AW.q 1 ·) ?_
   refine dv (AW.ret ·) ?_
   refine dv (⟨_, Sub.refl _ _, ·⟩) ?_
   exact ⟨(false), trivial, KF.mk (.inr rfl) [] [.bool false] (by kernel_rfl) (by kernel_rfl) (by kernel_rfl) (by kernel_rfl) (by kernel_rfl)⟩
 refine dv (At.sB 17 _ _ (sayF h2) ·) ?_
 refine dv (At.a 3 ·) ?_
 refine dv (At.sL 20 encLnk s.links ·) ?_
 refine dv (At.z 2 ·) ?_
 by_cases h3 : (s.links.length : Int) > 26
 · refine dv (AW.condT (decide ((s.links.length : Int) > 26)) (by kernel_rfl) (decide_eq_true h3) ·) ?_
   refine dv (AW.q 1 ·) ?_
   refine dv (AW.ret ·) ?_
   refine dv (⟨_, Sub.refl _ _, ·⟩) ?_
   exact ⟨(false), trivial, KF.mk (.inr rfl) [] [.bool false] (by kernel_rfl) (by kernel_rfl) (by kernel_rfl) (by kernel_rfl) (by kernel_rfl)⟩
 refine dv (AW.condF (decide ((s.links.length : Int) > 26)) (by kernel_rfl) (decide_eq_false h3) ·) ?_
 refine dv (AW.skip ·) ?_
 refine dv (AW.q 5 ·) ?_
 refine dv (AW.seq ·) ?_
 refine dv (AW.seq ·) ?_
 refine dv (AW.weak (Sub.nsl 103 1 60 3 [.sl false 9 (s.rules.map encRul), .nil, .nil] (by kernel_rfl)) ·) ?_
 refine dv (AW.weak (Sub.nsl 103 2 60 2 [.sl false 9 (s.rules.map encRul), .sl false 3 [], .nil] (by kernel_rfl)) ·) ?_
 refine dv (AW.gq 1 ·) ?_
 refine dv (AW.block ·) ?_
 refine DW.loopQ (fun (k : Nat) => Go.Sy.mk [.un, .ptr 101 0 0, .un, .ptr 103 0 0, .int .i64 (k : Int)] [(101, .box 60 [.sl false 9 (s.rules.map encRul), .sl false 3 (s.zones.map encZon), .sl false 2 (s.links.map encLnk)]), (103, .box 60 [.sl false 9 (s.rules.map encRul), .sl false 3 [], .sl false 2 []])]) (fun (k : Nat) => k ≤ s.rules.length) (fun (k : Nat) => s.rules.length - k) 0 (by omega) (Sub.o [(101, 101), (103, 103)] [false, true, false, true, true]) ?_
 rintro k hk ih1
 refine dv (AW.seq ·) ?_
 refine dv (AW.r ·) ?_
 refine dv (At.a 4 ·) ?_
 refine dv (At.sL 29 encRul s.rules ·) ?_
 refine dv (At.z 1 ·) ?_
 by_cases h4 : (k : Int) < (s.rules.length : Int)
 · refine dv (AW.condT (decide ((k : Int) < (s.rules.length : Int))) (by kernel_rfl) (decide_eq_true h4) ·) ?_
   refine dv (AW.skip ·) ?_
   refine dv (AW.seq ·) ?_
   refine dv (AW.block ·) ?_
   refine dv (AW.r ·) ?_
   refine dv (At.a 3 ·) ?_
   refine dv (At.iSl 56 36 (.tmp 34) (.tmp 35) false 9 (s.rules.map encRul) .i64 (k : Int) 88 (by omega) (by simp only [List.length_map]; omega) ·) ?_
   refine Exists.elim (gE s.rules k (by omega)) fun e1 he1 => ?_
   refine dv (At.lVp 88 37 (.tmp 36) false 9 (s.rules.map encRul) k 0 true 9 (encRul e1) (.agg [.int .i64 e1.name, .int .i64 e1.from_, .int .i64 e1.to, .int .i64 e1.month, .int .i64 e1.on.kind, .int .i64 e1.on.day, .int .i64 e1.on.week, .int .i64 e1.at_, .int .i64 e1.save]) (mapGet he1) ·) ?_
   refine Exists.elim (spec_l12RuleOk_spec  e1 ) fun r1_ hr1_ => ?_
   obtain ⟨qr1_, hr1_⟩ := hr1_
   try dsimp only at qr1_
   refine dv (At.c (hr1_) Try.call67 true [] [] [] trivial ·) ?_
   refine dv (At.z 1 ·) ?_
   by_cases h5 : r1_ = true
   · refine dv (AW.condF (!r1_) (by kernel_rfl) (by rw [show (r1_) = true from h5]; rfl) ·) ?_
     refine dv (AW.skip ·) ?_
     refine dv (AW.g ·) ?_
     refine dv (At.a 2 ·) ?_
     refine dv (At.sI 32 ((k : Int) + 1) (by omega) ·) ?_
     refine dv (At.z 1 ·) ?_
     exact dw (fun _ h_ => AWL.weak (Sub.o [(101, 101), (103, 103)] [false, true, false, true, true]) h_) (ih1 (k + 1) (by omega) (by omega))
   replace h5 := Bool.eq_false_iff.2 h5
   refine dv (AW.condT (!r1_) (by kernel_rfl) (by rw [show (r1_) = false from h5]; rfl) ·) ?_
   refine dv (AW.q 1 ·) ?_
   refine dv (AW.ret ·) ?_
   refine dv (⟨_, Sub.refl _ _, ·⟩) ?_
   exact ⟨(false), trivial, KF.mk (.inr rfl) [] [.bool false] (by kernel_rfl) (by kernel_rfl) (by kernel_rfl) (by kernel_rfl) (by kernel_rfl)⟩
 refine dv (AW.condF (decide ((k : Int) < (s.rules.length : Int))) (by kernel_rfl) (decide_eq_false h4) ·) ?_
 refine dv (AW.exit ·) ?_
 refine dv (AW.seq ·) ?_
 refine dv (AW.q 1 ·) ?_
 refine dv (AW.block ·) ?_
 refine DW.loopQ (fun (x : Nat × List Zon) => match x with | (j, zs) => Go.Sy.mk [.un, .ptr 101 0 0, .un, .ptr 103 0 0, .un, .int .i64 (j : Int)] [(101, .box 60 [.sl false 9 (s.rules.map encRul), .sl false 3 (s.zones.map encZon), .sl false 2 (s.links.map encLnk)]), (103, .box 60 [.sl false 9 (s.rules.map encRul), .sl false 3 (zs.map encZon), .sl false 2 []])]) (fun (x : Nat × List Zon) => match x with | (j, zs) => j ≤ s.zones.length ∧ zs.length ≤ j) (fun (x : Nat × List Zon) => match x with | (j, zs) => s.zones.length - j) (0, []) (by simp) (Sub.o [(101, 101), (103, 103)] [false, true, false, true, false, true]) ?_
 rintro ⟨j, zs⟩ hj ih2
 refine dv (AW.seq ·) ?_
 refine dv (AW.r ·) ?_
 refine dv (At.a 4 ·) ?_
 refine dv (At.sL 43 encZon s.zones ·) ?_
 refine dv (At.z 1 ·) ?_
 by_cases h6 : (j : Int) < (s.zones.length : Int)
 · refine dv (AW.condT (decide ((j : Int) < (s.zones.length : Int))) (by kernel_rfl) (decide_eq_true h6) ·) ?_
   refine dv (AW.skip ·) ?_
   refine dv (AW.seq ·) ?_
   refine dv (AW.block ·) ?_
   refine dv (AW.seq ·) ?_
   refine dv (AW.seq ·) ?_
   refine dv (AW.gD Try_mix ·) ?_
   refine dv (At.a 4 ·) ?_
   refine dv (At.iSl 57 51 (.tmp 49) (.tmp 50) false 3 (s.zones.map encZon) .i64 (j : Int) 92 (by omega) (by simp only [List.length_map]; omega) ·) ?_
   refine Exists.elim (gE s.zones j (by omega)) fun e2 he2 => ?_
   refine dv (At.lVp 92 52 (.tmp 51) false 3 (s.zones.map encZon) j 0 true 3 (encZon e2) (.agg [.int .i64 e2.name, .int .i64 e2.off, .int .i64 e2.rule]) (mapGet he2) ·) ?_
   refine Exists.elim (spec_l12Zone_spec  (⟨s.rules, zs, []⟩ : Srce) e2 (by dsimp only; first | omega | (simp only [List.length_nil, List.length_take]; omega))) fun r1_ hr1_ => ?_
   obtain ⟨qr1_, hr1_⟩ := hr1_
   try dsimp only at qr1_
   refine dv (At.c (hr1_) Try.call68 true [] [] [] trivial ·) ?_
   refine dv (At.zD 1 ·) ?_
   by_cases h7 : r1_ = true
   · refine dv (AW.condF (!r1_) (by kernel_rfl) (by rw [show (r1_) = true from h7]; rfl) ·) ?_
     refine dv (AW.skip ·) ?_
     refine dv (AW.g ·) ?_
     refine dv (At.a 4 ·) ?_
     refine dv (At.sI 58 ((j : Int) + 1) (by omega) ·) ?_
     refine dv (At.sliceSl (t := 57) (d := 59) (e := 92) (es := 3) (x := .tmp 56) (lx := none) (hx := some (.tmp 58)) (p := false) (xs := (s.zones.map encZon)) (vl := .un) (vh := .int .i64 ((j : Int) + 1)) 0 (((j : Int) + 1).toNat) ((s.zones.take (((j : Int) + 1).toNat)).map encZon) (by kernel_rfl) (by kernel_rfl) (by kernel_rfl) (by kernel_rfl) (.inl ⟨rfl, rfl⟩) (.inr ⟨_, _, rfl, sayNat (by omega)⟩) (by omega) (by simp only [List.length_map]; omega) (by simp [List.map_take, List.map_drop]) ·) ?_
     refine dv (At.z 2 ·) ?_
     refine dv (AW.g ·) ?_
     refine dv (At.a 2 ·) ?_
     refine dv (At.sI 46 ((j : Int) + 1) (by omega) ·) ?_
     refine dv (At.z 1 ·) ?_
     exact dw (fun _ h_ => AWL.weak (Sub.o [(101, 101), (103, 103)] [false, true, false, true, false, true]) h_) (ih2 (j + 1, (s.zones.take (((j : Int) + 1).toNat))) (by simp only [List.length_take]; omega) (by simp only; omega))
   replace h7 := Bool.eq_false_iff.2 h7
   refine dv (AW.condT (!r1_) (by kernel_rfl) (by rw [show (r1_) = false from h7]; rfl) ·) ?_
   refine dv (AW.q 1 ·) ?_
   refine dv (AW.ret ·) ?_
   refine dv (⟨_, Sub.refl _ _, ·⟩) ?_
   exact ⟨(false), trivial, KF.mk (.inr rfl) [] [.bool false] (by kernel_rfl) (by kernel_rfl) (by kernel_rfl) (by kernel_rfl) (by kernel_rfl)⟩
 refine dv (AW.condF (decide ((j : Int) < (s.zones.length : Int))) (by kernel_rfl) (decide_eq_false h6) ·) ?_
 refine dv (AW.exit ·) ?_
 refine dv (AW.seq ·) ?_
 refine dv (AW.q 1 ·) ?_
 refine dv (AW.block ·) ?_
 refine DW.loopQ (fun (x : Nat × List Lnk) => match x with | (i, ls) => Go.Sy.mk [.un, .ptr 101 0 0, .un, .ptr 103 0 0, .un, .un, .int .i64 (i : Int)] [(101, .box 60 [.sl false 9 (s.rules.map encRul), .sl false 3 (s.zones.map encZon), .sl false 2 (s.links.map encLnk)]), (103, .box 60 [.sl false 9 (s.rules.map encRul), .sl false 3 (zs.map encZon), .sl false 2 (ls.map encLnk)])]) (fun (x : Nat × List Lnk) => match x with | (i, ls) => i ≤ s.links.length ∧ ls.length ≤ i) (fun (x : Nat × List Lnk) => match x with | (i, ls) => s.links.length - i) (0, []) (by simp) (Sub.o [(101, 101), (103, 103)] [false, true, false, true, false, false, true]) ?_
 rintro ⟨i, ls⟩ hi ih3
 refine dv (AW.seq ·) ?_
 refine dv (AW.r ·) ?_
 refine dv (At.a 4 ·) ?_
 refine dv (At.sL 64 encLnk s.links ·) ?_
 refine dv (At.z 1 ·) ?_
 by_cases h8 : (i : Int) < (s.links.length : Int)
 · refine dv (AW.condT (decide ((i : Int) < (s.links.length : Int))) (by kernel_rfl) (decide_eq_true h8) ·) ?_
   refine dv (AW.skip ·) ?_
   refine dv (AW.seq ·) ?_
   refine dv (AW.block ·) ?_
   refine dv (AW.seq ·) ?_
   refine dv (AW.seq ·) ?_
   refine dv (AW.gD Try_mix ·) ?_
   refine dv (At.a 4 ·) ?_
   refine dv (At.iSl 58 72 (.tmp 70) (.tmp 71) false 2 (s.links.map encLnk) .i64 (i : Int) 94 (by omega) (by simp only [List.length_map]; omega) ·) ?_
   refine Exists.elim (gE s.links i (by omega)) fun e3 he3 => ?_
   refine dv (At.lVp 94 73 (.tmp 72) false 2 (s.links.map encLnk) i 0 true 2 (encLnk e3) (.agg [.int .i64 e3.name, .int .i64 e3.to]) (mapGet he3) ·) ?_
   refine Exists.elim (spec_l12Link_spec  (⟨s.rules, zs, ls⟩ : Srce) e3 (by dsimp only; first | omega | (simp only [List.length_nil, List.length_take]; omega))) fun r1_ hr1_ => ?_
   obtain ⟨qr1_, hr1_⟩ := hr1_
   try dsimp only at qr1_
   refine dv (At.c (hr1_) Try.call69 true [] [] [] trivial ·) ?_
   refine dv (At.zD 1 ·) ?_
   by_cases h9 : r1_ = true
   · refine dv (AW.condF (!r1_) (by kernel_rfl) (by rw [show (r1_) = true from h9]; rfl) ·) ?_
     refine dv (AW.skip ·) ?_
     refine dv (AW.g ·) ?_
     refine dv (At.a 4 ·) ?_
     refine dv (At.sI 79 ((i : Int) + 1) (by omega) ·) ?_
     refine dv (At.sliceSl (t := 58) (d := 80) (e := 94) (es := 2) (x := .tmp 77) (lx := none) (hx := some (.tmp 79)) (p := false) (xs := (s.links.map encLnk)) (vl := .un) (vh := .int .i64 ((i : Int) + 1)) 0 (((i : Int) + 1).toNat) ((s.links.take (((i : Int) + 1).toNat)).map encLnk) (by kernel_rfl) (by kernel_rfl) (by kernel_rfl) (by kernel_rfl) (.inl ⟨rfl, rfl⟩) (.inr ⟨_, _, rfl, sayNat (by omega)⟩) (by omega) (by simp only [List.length_map]; omega) (by simp [List.map_take, List.map_drop]) ·) ?_
     refine dv (At.z 2 ·) ?_
     refine dv (AW.g ·) ?_
     refine dv (At.a 2 ·) ?_
     refine dv (At.sI 67 ((i : Int) + 1) (by omega) ·) ?_
     refine dv (At.z 1 ·) ?_
     exact dw (fun _ h_ => AWL.weak (Sub.o [(101, 101), (103, 103)] [false, true, false, true, false, false, true]) h_) (ih3 (i + 1, (s.links.take (((i : Int) + 1).toNat))) (by simp only [List.length_take]; omega) (by simp only; omega))
   replace h9 := Bool.eq_false_iff.2 h9
   refine dv (AW.condT (!r1_) (by kernel_rfl) (by rw [show (r1_) = false from h9]; rfl) ·) ?_
   refine dv (AW.q 1 ·) ?_
   refine dv (AW.ret ·) ?_
   refine dv (⟨_, Sub.refl _ _, ·⟩) ?_
   exact ⟨(false), trivial, KF.mk (.inr rfl) [] [.bool false] (by kernel_rfl) (by kernel_rfl) (by kernel_rfl) (by kernel_rfl) (by kernel_rfl)⟩
 refine dv (AW.condF (decide ((i : Int) < (s.links.length : Int))) (by kernel_rfl) (decide_eq_false h8) ·) ?_
 refine dv (AW.exit ·) ?_
 refine dv (AW.q 1 ·) ?_
 refine dv (AW.ret ·) ?_
 refine dv (⟨_, Sub.refl _ _, ·⟩) ?_
 exact ⟨(true), trivial, KF.mk (.inr rfl) [] [.bool true] (by kernel_rfl) (by kernel_rfl) (by kernel_rfl) (by kernel_rfl) (by kernel_rfl)⟩
theorem spec_l12Letter_spec  (n : Int) : ∃ rho_ : ByteArray, (rho_.size ≤ 1) ∧ FnSpec Try.prog 49 [.int .i64 n] [] (.str rho_) [] := by
 refine dv (fun h_ => FnSpec.of 9 Try.func49 rfl Try.ntmps49 (by simp) (AW.weakK h_)) ?_
 refine dv (AW.q 1 ·) ?_
 refine dv (AW.seq ·) ?_
 refine dv (AW.q 2 ·) ?_
 by_cases h1 : n = 0
 · refine dv (AW.condT (n == 0) (by kernel_rfl) (beq_iff_eq.2 h1) ·) ?_
   refine dv (AW.q 1 ·) ?_
   refine dv (AW.ret ·) ?_
   refine dv (⟨_, Sub.refl _ _, ·⟩) ?_
   exact ⟨((⟨#[45]⟩ : ByteArray)), (by (try dsimp only); first | decide | (rw [strOf_size]; exact Nat.le_refl 1)), KF.mk (.inr rfl) [] [.str (⟨#[45]⟩ : ByteArray)] (by kernel_rfl) (by kernel_rfl) (by kernel_rfl) (by kernel_rfl) (by kernel_rfl)⟩
 refine dv (AW.condF (n == 0) (by kernel_rfl) (beq_eq_false_iff_ne.2 h1) ·) ?_
 refine dv (AW.skip ·) ?_
 refine dv (AW.r ·) ?_
 refine dv (At.a 1 ·) ?_
 refine dv (At.conv (s := 3) (t := 5) (d := 6) (x := .tmp 5) (kd := .i64) (kd' := .u8) (a := n) (.int .u8 ((u8Of n).toNat : Int)) (by kernel_rfl) (by kernel_rfl) (by kernel_rfl) (by kernel_rfl) (sayByte _) ·) ?_
 refine dv (At.ll 7 5 1 107 (0, 6) (([(u8Of n)]).map encU8) ·) ?_
 refine dv (At.b2s (s := 32) (t := 9) (e := 5) (d := 8) (x := .tmp 7) (T := .ref 107) ([(u8Of n)]) [] (by kernel_rfl) (by kernel_rfl) (by kernel_rfl) (by kernel_rfl) ⟨by kernel_rfl, .inl ⟨rfl, (allP_encU8 _)⟩⟩ ·) ?_
 refine dv (At.z 1 ·) ?_
 refine dv (AW.ret ·) ?_
 refine dv (⟨_, Sub.refl _ _, ·⟩) ?_
 exact ⟨(strOf ([(u8Of n)])), (by (try dsimp only); first | decide | (rw [strOf_size]; exact Nat.le_refl 1)), KF.mk (.inr rfl) [] [.str (strOf ([(u8Of n)]))] (by kernel_rfl) (by kernel_rfl) (by kernel_rfl) (by kernel_rfl) (by kernel_rfl)⟩
theorem spec_l12Num_spec  (x : Int) (hx : 0 - 100000 ≤ x ∧ x ≤ 100000) : ∃ rho_ : ByteArray, (rho_.size ≤ 3 + x.natAbs ∧ (0 ≤ x → rho_.size ≤ 2 + x.natAbs)) ∧ FnSpec Try.prog 50 [.int .i64 x] [] (.str rho_) [] := by
 have hb0 : (⟨#[45]⟩ : ByteArray).size = 1 := rfl
 refine dv (fun h_ => FnSpec.of 26 Try.func50 rfl Try.ntmps50 (by simp) (AW.weakK h_)) ?_
 refine dv (AW.q 1 ·) ?_
 refine dv (AW.seq ·) ?_
 refine dv (AW.q 2 ·) ?_
 by_cases h1 : x < 0
 · refine dv (AW.condT (decide (x < 0)) (by kernel_rfl) (decide_eq_true h1) ·) ?_
   refine dv (AW.r ·) ?_
   refine dv (At.a 2 ·) ?_
   refine dv (At.sI 6 (0 - x) (by omega) ·) ?_
   refine Exists.elim (spec_l12Num_spec  (0 - x) (by omega)) fun r1_ hr1_ => ?_
   obtain ⟨qr1_, hr1_⟩ := hr1_
   try dsimp only at qr1_
   refine dv (At.c (hr1_) Try.call50 true [] [] [] trivial ·) ?_
   refine dv (At.cat (t := 9) (u := 9) (d := 8) (x := .const (.string ⟨#[45]⟩)) (y := .tmp 7) (a := (⟨#[45]⟩ : ByteArray)) (b := r1_) (by kernel_rfl) (by kernel_rfl) (by kernel_rfl) (by kernel_rfl) (by omega) ·) ?_
   refine dv (At.z 1 ·) ?_
   refine dv (AW.ret ·) ?_
   refine dv (⟨_, Sub.refl _ _, ·⟩) ?_
   exact ⟨((⟨#[45]⟩ : ByteArray) ++ r1_), (by (try dsimp only); simp only [cat_size, strOf_size, List.length_cons, List.length_nil]; omega), KF.mk (.inr rfl) [] [.str ((⟨#[45]⟩ : ByteArray) ++ r1_)] (by kernel_rfl) (by kernel_rfl) (by kernel_rfl) (by kernel_rfl) (by kernel_rfl)⟩
 refine dv (AW.condF (decide (x < 0)) (by kernel_rfl) (decide_eq_false h1) ·) ?_
 refine dv (AW.skip ·) ?_
 refine dv (AW.seq ·) ?_
 refine dv (AW.q 2 ·) ?_
 by_cases h2 : x < 10
 · refine dv (AW.condT (decide (x < 10)) (by kernel_rfl) (decide_eq_true h2) ·) ?_
   refine dv (AW.r ·) ?_
   refine dv (At.a 2 ·) ?_
   refine dv (At.sI 12 (48 + x) (by omega) ·) ?_
   refine dv (At.conv (s := 3) (t := 5) (d := 13) (x := .tmp 12) (kd := .i64) (kd' := .u8) (a := 48 + x) (.int .u8 ((u8Of (48 + x)).toNat : Int)) (by kernel_rfl) (by kernel_rfl) (by kernel_rfl) (by kernel_rfl) (sayByte _) ·) ?_
   refine dv (At.ll 14 5 1 114 (0, 6) (([(u8Of (48 + x))]).map encU8) ·) ?_
   refine dv (At.b2s (s := 32) (t := 9) (e := 5) (d := 15) (x := .tmp 14) (T := .ref 114) ([(u8Of (48 + x))]) [] (by kernel_rfl) (by kernel_rfl) (by kernel_rfl) (by kernel_rfl) ⟨by kernel_rfl, .inl ⟨rfl, (allP_encU8 _)⟩⟩ ·) ?_
   refine dv (At.z 1 ·) ?_
   refine dv (AW.ret ·) ?_
   refine dv (⟨_, Sub.refl _ _, ·⟩) ?_
   exact ⟨(strOf ([(u8Of (48 + x))])), (by (try dsimp only); simp only [cat_size, strOf_size, List.length_cons, List.length_nil]; omega), KF.mk (.inr rfl) [] [.str (strOf ([(u8Of (48 + x))]))] (by kernel_rfl) (by kernel_rfl) (by kernel_rfl) (by kernel_rfl) (by kernel_rfl)⟩
 refine dv (AW.condF (decide (x < 10)) (by kernel_rfl) (decide_eq_false h2) ·) ?_
 refine dv (AW.skip ·) ?_
 refine dv (AW.seq ·) ?_
 refine dv (AW.gD Try_mix ·) ?_
 refine dv (At.a 1 ·) ?_
 refine dv (At.div (t := 3) (u := 3) (d := 17) (op := .quo) (x := .tmp 16) (y := .const (.int .i64 10)) (kd := .i64) (a := x) (b := 10) (by kernel_rfl) (by kernel_rfl) (by kernel_rfl) (by kernel_rfl) (by omega) (.int .i64 (IntKind.i64.wrap (x.tdiv 10))) (.inl ⟨rfl, rfl⟩) ·) ?_
 refine dv (At.say 17 (.int .i64 (IntKind.i64.wrap (x.tdiv 10))) (.int .i64 (x / 10)) (by kernel_rfl) (sayQuo (by omega) (by omega) (by omega)) ·) ?_
 refine Exists.elim (spec_l12Num_spec  (x / 10) (by omega)) fun r1_ hr1_ => ?_
 obtain ⟨qr1_, hr1_⟩ := hr1_
 try dsimp only at qr1_
 refine dv (At.c (hr1_) Try.call50 true [] [] [] trivial ·) ?_
 refine dv (At.a 1 ·) ?_
 refine dv (At.div (t := 3) (u := 3) (d := 20) (op := .rem) (x := .tmp 19) (y := .const (.int .i64 10)) (kd := .i64) (a := x) (b := 10) (by kernel_rfl) (by kernel_rfl) (by kernel_rfl) (by kernel_rfl) (by omega) (.int .i64 (x.tmod 10)) (.inr ⟨rfl, rfl⟩) ·) ?_
 refine dv (At.say 20 (.int .i64 (x.tmod 10)) (.int .i64 (x % 10)) (by kernel_rfl) (sayRem (by omega)) ·) ?_
 refine dv (At.a 1 ·) ?_
 refine dv (At.sI 21 (48 + (x % 10)) (by omega) ·) ?_
 refine dv (At.conv (s := 3) (t := 5) (d := 22) (x := .tmp 21) (kd := .i64) (kd' := .u8) (a := 48 + (x % 10)) (.int .u8 ((u8Of (48 + (x % 10))).toNat : Int)) (by kernel_rfl) (by kernel_rfl) (by kernel_rfl) (by kernel_rfl) (sayByte _) ·) ?_
 refine dv (At.ll 23 5 1 123 (0, 6) (([(u8Of (48 + (x % 10)))]).map encU8) ·) ?_
 refine dv (At.b2s (s := 32) (t := 9) (e := 5) (d := 24) (x := .tmp 23) (T := .ref 123) ([(u8Of (48 + (x % 10)))]) [] (by kernel_rfl) (by kernel_rfl) (by kernel_rfl) (by kernel_rfl) ⟨by kernel_rfl, .inl ⟨rfl, (allP_encU8 _)⟩⟩ ·) ?_
 refine dv (At.cat (t := 9) (u := 9) (d := 25) (x := .tmp 18) (y := .tmp 24) (a := r1_) (b := strOf ([(u8Of (48 + (x % 10)))])) (by kernel_rfl) (by kernel_rfl) (by kernel_rfl) (by kernel_rfl) (by simp only [cat_size, strOf_size, List.length_cons, List.length_nil]; omega) ·) ?_
 refine dv (At.zD 1 ·) ?_
 refine dv (AW.ret ·) ?_
 refine dv (⟨_, Sub.refl _ _, ·⟩) ?_
 exact ⟨(r1_ ++ (strOf ([(u8Of (48 + (x % 10)))]))), (by (try dsimp only); simp only [cat_size, strOf_size, List.length_cons, List.length_nil]; omega), KF.mk (.inr rfl) [] [.str (r1_ ++ (strOf ([(u8Of (48 + (x % 10)))])))] (by kernel_rfl) (by kernel_rfl) (by kernel_rfl) (by kernel_rfl) (by kernel_rfl)⟩
termination_by (2 * x.natAbs + (1 - x).toNat)
decreasing_by all_goals omega
theorem spec_OnText_spec  (o : On) (ho : Sm o.day ∧ Sm o.week) : ∃ rho_ : ByteArray, (rho_.size ≤ 400000) ∧ FnSpec Try.prog 51 [.agg [.int .i64 o.kind, .int .i64 o.day, .int .i64 o.week]] [] (.str rho_) [] := by
 obtain ⟨⟨o1, o2⟩, o3, o4⟩ := id ho
 have hb0 : (⟨#[45]⟩ : ByteArray).size = 1 := rfl
 have hb1 : (⟨#[32]⟩ : ByteArray).size = 1 := rfl
 have hb2 : (⟨#[10]⟩ : ByteArray).size = 1 := rfl
 have hb3 : (⟨#[108, 97, 115, 116]⟩ : ByteArray).size = 4 := rfl
 have hb4 : (⟨#[62, 61]⟩ : ByteArray).size = 2 := rfl
 have hb5 : (⟨#[114, 117, 108, 101, 32]⟩ : ByteArray).size = 5 := rfl
 have hb6 : (⟨#[122, 111, 110, 101, 32]⟩ : ByteArray).size = 5 := rfl
 have hb7 : (⟨#[108, 105, 110, 107, 32]⟩ : ByteArray).size = 5 := rfl
 refine dv (fun h_ => FnSpec.of 30 Try.func51 rfl Try.ntmps51 (by simp) (AW.weakK h_)) ?_
 refine dv (AW.q 2 ·) ?_
 refine dv (AW.seq ·) ?_
 refine dv (AW.block ·) ?_
 refine dv (AW.r ·) ?_
 refine dv (At.a 1 ·) ?_
 refine Exists.elim (spec_OnOk_spec  o ) fun r1_ hr1_ => ?_
 obtain ⟨qr1_, hr1_⟩ := hr1_
 try dsimp only at qr1_
 refine dv (At.c (hr1_) Try.call70 true [] [] [] trivial ·) ?_
 refine dv (At.z 2 ·) ?_
 by_cases h1 : r1_ = true
 · refine dv (AW.condF (!r1_) (by kernel_rfl) (by rw [show (r1_) = true from h1]; rfl) ·) ?_
   refine dv (AW.q 4 ·) ?_
   by_cases h2 : o.kind = 1
   · refine dv (AW.condT (o.kind == 1) (by kernel_rfl) (beq_iff_eq.2 h2) ·) ?_
     refine dv (AW.r ·) ?_
     refine dv (At.a 2 ·) ?_
     refine Exists.elim (spec_l12Num_spec  o.day (by omega)) fun r2_ hr2_ => ?_
     obtain ⟨qr2_, hr2_⟩ := hr2_
     try dsimp only at qr2_
     refine dv (At.c (hr2_) Try.call50 true [] [] [] trivial ·) ?_
     refine dv (At.z 1 ·) ?_
     refine dv (AW.ret ·) ?_
     refine dv (⟨_, Sub.refl _ _, ·⟩) ?_
     exact ⟨(r2_), (by (try dsimp only); first | omega | decide | (simp only [cat_size]; omega)), KF.mk (.inr rfl) [] [.str r2_] (by kernel_rfl) (by kernel_rfl) (by kernel_rfl) (by kernel_rfl) (by kernel_rfl)⟩
   refine dv (AW.condF (o.kind == 1) (by kernel_rfl) (beq_eq_false_iff_ne.2 h2) ·) ?_
   refine dv (AW.q 4 ·) ?_
   by_cases h3 : o.kind = 2
   · refine dv (AW.condT (o.kind == 2) (by kernel_rfl) (beq_iff_eq.2 h3) ·) ?_
     refine dv (AW.r ·) ?_
     refine dv (At.a 2 ·) ?_
     refine Exists.elim (spec_l12Num_spec  o.week (by omega)) fun r2_ hr2_ => ?_
     obtain ⟨qr2_, hr2_⟩ := hr2_
     try dsimp only at qr2_
     refine dv (At.c (hr2_) Try.call50 true [] [] [] trivial ·) ?_
     refine dv (At.cat (t := 9) (u := 9) (d := 21) (x := .const (.string ⟨#[108, 97, 115, 116]⟩)) (y := .tmp 20) (a := (⟨#[108, 97, 115, 116]⟩ : ByteArray)) (b := r2_) (by kernel_rfl) (by kernel_rfl) (by kernel_rfl) (by kernel_rfl) (by omega) ·) ?_
     refine dv (At.z 1 ·) ?_
     refine dv (AW.ret ·) ?_
     refine dv (⟨_, Sub.refl _ _, ·⟩) ?_
     exact ⟨((⟨#[108, 97, 115, 116]⟩ : ByteArray) ++ r2_), (by (try dsimp only); first | omega | decide | (simp only [cat_size]; omega)), KF.mk (.inr rfl) [] [.str ((⟨#[108, 97, 115, 116]⟩ : ByteArray) ++ r2_)] (by kernel_rfl) (by kernel_rfl) (by kernel_rfl) (by kernel_rfl) (by kernel_rfl)⟩
   refine dv (AW.condF (o.kind == 2) (by kernel_rfl) (beq_eq_false_iff_ne.2 h3) ·) ?_
   refine dv (AW.skip ·) ?_
   refine dv (AW.seq ·) ?_
   refine dv (AW.gD Try_mix ·) ?_
   refine dv (At.a 2 ·) ?_
   refine Exists.elim (spec_l12Num_spec  o.week (by omega)) fun r2_ hr2_ => ?_
   obtain ⟨qr2_, hr2_⟩ := hr2_
   try dsimp only at qr2_
   refine dv (At.c (hr2_) Try.call50 true [] [] [] trivial ·) ?_
   refine dv (At.cat (t := 9) (u := 9) (d := 25) (x := .tmp 24) (y := .const (.string ⟨#[62, 61]⟩)) (a := r2_) (b := (⟨#[62, 61]⟩ : ByteArray)) (by kernel_rfl) (by kernel_rfl) (by kernel_rfl) (by kernel_rfl) (by omega) ·) ?_
   refine dv (At.a 2 ·) ?_
   refine Exists.elim (spec_l12Num_spec  o.day (by omega)) fun r3_ hr3_ => ?_
   obtain ⟨qr3_, hr3_⟩ := hr3_
   try dsimp only at qr3_
   refine dv (At.c (hr3_) Try.call50 true [] [] [] trivial ·) ?_
   refine dv (At.cat (t := 9) (u := 9) (d := 29) (x := .tmp 25) (y := .tmp 28) (a := r2_ ++ (⟨#[62, 61]⟩ : ByteArray)) (b := r3_) (by kernel_rfl) (by kernel_rfl) (by kernel_rfl) (by kernel_rfl) (by simp only [cat_size, strOf_size, List.length_cons, List.length_nil]; omega) ·) ?_
   refine dv (At.zD 1 ·) ?_
   refine dv (AW.ret ·) ?_
   refine dv (⟨_, Sub.refl _ _, ·⟩) ?_
   exact ⟨((r2_ ++ (⟨#[62, 61]⟩ : ByteArray)) ++ r3_), (by (try dsimp only); first | omega | decide | (simp only [cat_size]; omega)), KF.mk (.inr rfl) [] [.str ((r2_ ++ (⟨#[62, 61]⟩ : ByteArray)) ++ r3_)] (by kernel_rfl) (by kernel_rfl) (by kernel_rfl) (by kernel_rfl) (by kernel_rfl)⟩
 replace h1 := Bool.eq_false_iff.2 h1
 refine dv (AW.condT (!r1_) (by kernel_rfl) (by rw [show (r1_) = false from h1]; rfl) ·) ?_
 refine dv (AW.q 1 ·) ?_
 refine dv (AW.ret ·) ?_
 refine dv (⟨_, Sub.refl _ _, ·⟩) ?_
 exact ⟨((⟨#[]⟩ : ByteArray)), (by (try dsimp only); first | omega | decide | (simp only [cat_size]; omega)), KF.mk (.inr rfl) [] [.str (⟨#[]⟩ : ByteArray)] (by kernel_rfl) (by kernel_rfl) (by kernel_rfl) (by kernel_rfl) (by kernel_rfl)⟩
end Go.Proofs.Ytdpcdcogbmkffaa
