/- The contracts of the functions that FnOn reaches (each: what it answers, said over values), printed by a program of this session (wip/sy/g/gen.py). -/
import Derived.Test.YthklhfcjglimiaaDoorSOnG3
set_option linter.unusedVariables false
set_option linter.unusedSimpArgs false
set_option maxRecDepth 100000
set_option maxHeartbeats 4000000
namespace Go.Proofs.YthklhfcjglimiaaDoor
open Go Go.Sy Go.Proofs Go.Proofs.YthklhfcjglimiaaDoor.OnRd
theorem Tryd_mix : Tryd.prog.follows .mixedOrders = true := by kernel_rfl
theorem laws_big_spec  (code : List UInt8) (hc : code.length ≤ 9223372036854775807) : FnSpec Tryd.prog 8 [.sl false 1 (code.map encU8)] [] (.bool (decide ((code.length : Int) > 1048576))) [] := by
 refine FnSpec.of 6 Tryd.func8 rfl Tryd.ntmps8 (by simp) (AW.weakK ?_)
 refine AW.q 1 ?_
 refine AW.r ?_
 refine At.a 2 ?_
 refine At.sL 4 encU8 code ?_
 refine At.z 2 ?_
 exact AW.ret (rf (KF.n []))
theorem spec_l1New_spec  (data : List UInt8) (hd : data.length ≤ 1048576) : ∃ rho_ : Int, (True) ∧ FnSpec Tryd.prog 19 [.sl false 1 (data.map encU8)] [] (.ptr 0 0 0) [.box 58 [.sl false 1 (data.map encU8), .int .i64 0, .int .i64 rho_]] := by
 refine dv (fun h_ => FnSpec.of 32 Tryd.func19 rfl Tryd.ntmps19 (by simp) (AW.weakK h_)) ?_
 refine dv (AW.q 1 ·) ?_
 refine dv (AW.r ·) ?_
 refine dv (At.a 2 ·) ?_
 refine dv (At.sL 6 encU8 data ·) ?_
 refine dv (At.a 1 ·) ?_
 refine dv (At.sI 7 (10677 + (data.length : Int)) (by omega) ·) ?_
 refine dv (At.z 1 ·) ?_
 refine dv (AW.seq ·) ?_
 refine dv (AW.q 1 ·) ?_
 refine dv (AW.block ·) ?_
 refine DW.loopQ (fun (x : Nat × Int) => match x with | (k, s) => Go.Sy.mk [.sl false 1 (data.map encU8), .un, .un, .int .i64 s, .int .i64 (k : Int)] []) (fun (x : Nat × Int) => match x with | (k, s) => k ≤ data.length) (fun (x : Nat × Int) => match x with | (k, s) => data.length - k) (0, (10677 + (data.length : Int))) (by simp) (Sub.o [] [true, false, false, true, true]) ?_
 rintro ⟨k, s⟩ hk ih1
 refine dv (AW.seq ·) ?_
 refine dv (AW.r ·) ?_
 refine dv (At.a 3 ·) ?_
 refine dv (At.sL 10 encU8 data ·) ?_
 refine dv (At.a 2 ·) ?_
 by_cases h1 : (k : Int) < (data.length : Int)
 · refine dv (At.sB 12 _ _ (sayT h1) ·) ?_
   refine dv (At.z 3 ·) ?_
   by_cases h2 : (k : Int) < 4000
   · refine dv (AW.condT (decide ((k : Int) < 4000)) (by kernel_rfl) (decide_eq_true h2) ·) ?_
     refine dv (AW.skip ·) ?_
     refine dv (AW.seq ·) ?_
     refine dv (AW.block ·) ?_
     refine dv (AW.g ·) ?_
     refine dv (At.a 4 ·) ?_
     refine dv (At.iSl 28 22 (.tmp 20) (.tmp 21) false 1 (data.map encU8) .i64 (k : Int) 5 (by omega) (by simp only [List.length_map]; omega) ·) ?_
     refine Exists.elim (gE data k (by omega)) fun e1 he1 => ?_
     refine dv (At.lVp 5 23 (.tmp 22) false 1 (data.map encU8) k 0 false 1 (encU8 e1) (.int .u8 (e1.toNat : Int)) (mapGet he1) ·) ?_
     refine dv (At.conv (s := 5) (t := 3) (d := 24) (x := .tmp 23) (kd := .u8) (kd' := .i64) (a := (e1.toNat : Int)) (.int .i64 (e1.toNat : Int)) (by kernel_rfl) (by kernel_rfl) (by kernel_rfl) (by kernel_rfl) (sayI _ (by have := UInt8.toNat_lt e1; omega)) ·) ?_
     refine dv (At.a 2 ·) ?_
     refine dv (At.bits (t := 3) (u := 3) (d := 27) (op := .and) (x := .tmp 26) (y := .const (.int .i64 1073741823)) (kd := .i64) (a := IntKind.i64.wrap ((IntKind.i64.wrap ((IntKind.i64.wrap (s * 131)) + (e1.toNat : Int))) + 7)) (b := 1073741823) ((IntKind.i64.wrap ((IntKind.i64.wrap ((IntKind.i64.wrap (s * 131)) + (e1.toNat : Int))) + 7)) % 1073741824) (by kernel_rfl) (by kernel_rfl) (by kernel_rfl) (by kernel_rfl) (andM 30 1073741824 _ _ (by decide) (by decide) (by decide)) ·) ?_
     refine dv (At.z 1 ·) ?_
     refine dv (AW.g ·) ?_
     refine dv (At.a 2 ·) ?_
     refine dv (At.sI 17 ((k : Int) + 1) (by omega) ·) ?_
     refine dv (At.z 1 ·) ?_
     exact dw (fun _ h_ => AWL.weak (Sub.o [] [true, false, false, true, true]) h_) (ih1 (k + 1, ((IntKind.i64.wrap ((IntKind.i64.wrap ((IntKind.i64.wrap (s * 131)) + (e1.toNat : Int))) + 7)) % 1073741824)) (by simp only; omega) (by simp only; omega))
   refine dv (AW.condF (decide ((k : Int) < 4000)) (by kernel_rfl) (decide_eq_false h2) ·) ?_
   refine dv (AW.exit ·) ?_
   refine dv (AW.q 5 ·) ?_
   refine dv (AW.ret ·) ?_
   refine dv (⟨_, Sub.refl _ _, ·⟩) ?_
   exact ⟨(s), trivial, KF.mk (.inr rfl) [(131, 0)] [.ptr 131 0 0] (by kernel_rfl) (by kernel_rfl) (by kernel_rfl) (by kernel_rfl) (by kernel_rfl)⟩
 refine dv (At.sB 12 _ _ (sayF h1) ·) ?_
 refine dv (At.z 3 ·) ?_
 refine dv (fun h_ => AW.cond false (by kernel_rfl) (fun h => by cases h) (fun _ => h_)) ?_
 refine dv (AW.exit ·) ?_
 refine dv (AW.q 5 ·) ?_
 refine dv (AW.ret ·) ?_
 refine dv (⟨_, Sub.refl _ _, ·⟩) ?_
 exact ⟨(s), trivial, KF.mk (.inr rfl) [(131, 0)] [.ptr 131 0 0] (by kernel_rfl) (by kernel_rfl) (by kernel_rfl) (by kernel_rfl) (by kernel_rfl)⟩
theorem spec_l1Byte_spec  (c : Cur) (hp : 0 ≤ c.pos ∧ c.pos ≤ c.data.length ∧ c.data.length ≤ 1048576) : ∃ rho_ : Int × Int × Int, (0 ≤ rho_.1 ∧ rho_.1 ≤ c.data.length ∧ 0 ≤ rho_.2.2 ∧ rho_.2.2 ≤ 255) ∧ FnSpec Tryd.prog 39 [.ptr 0 0 0] [.box 58 [.sl false 1 (c.data.map encU8), .int .i64 c.pos, .int .i64 c.seed]] (.int .i64 rho_.2.2) [.box 58 [.sl false 1 (c.data.map encU8), .int .i64 rho_.1, .int .i64 rho_.2.1]] := by
 refine dv (fun h_ => FnSpec.of 58 Tryd.func39 rfl Tryd.ntmps39 (by simp) (AW.weakK h_)) ?_
 refine dv (AW.q 1 ·) ?_
 refine dv (AW.q 10 ·) ?_
 refine dv (AW.seq ·) ?_
 refine dv (AW.gD Tryd_mix ·) ?_
 refine dv (At.a 4 ·) ?_
 refine dv (At.shift (t := 3) (u := 65) (d := 17) (op := .shr) (x := .tmp 16) (y := .const (.int .u64 33)) (kd := .i64) (kd' := .u64) (a := IntKind.i64.wrap ((IntKind.i64.wrap (c.seed * 6364136223846793005)) + 1442695040888963407)) (b := 33) (shV .shr .i64 (IntKind.i64.wrap ((IntKind.i64.wrap (c.seed * 6364136223846793005)) + 1442695040888963407)) 33) (by kernel_rfl) (by kernel_rfl) (by kernel_rfl) (by kernel_rfl) (by omega) (shS_shr _ _ _) ·) ?_
 refine dv (At.a 4 ·) ?_
 refine dv (At.shift (t := 3) (u := 65) (d := 22) (op := .shr) (x := .tmp 21) (y := .const (.int .u64 45)) (kd := .i64) (kd' := .u64) (a := IntKind.i64.wrap ((IntKind.i64.wrap (c.seed * 6364136223846793005)) + 1442695040888963407)) (b := 45) (shV .shr .i64 (IntKind.i64.wrap ((IntKind.i64.wrap (c.seed * 6364136223846793005)) + 1442695040888963407)) 45) (by kernel_rfl) (by kernel_rfl) (by kernel_rfl) (by kernel_rfl) (by omega) (shS_shr _ _ _) ·) ?_
 refine dv (At.bits (t := 3) (u := 3) (d := 23) (op := .xor) (x := .tmp 17) (y := .tmp 22) (kd := .i64) (a := shV .shr .i64 (IntKind.i64.wrap ((IntKind.i64.wrap (c.seed * 6364136223846793005)) + 1442695040888963407)) 33) (b := shV .shr .i64 (IntKind.i64.wrap ((IntKind.i64.wrap (c.seed * 6364136223846793005)) + 1442695040888963407)) 45) (bitV .xor .i64 (shV .shr .i64 (IntKind.i64.wrap ((IntKind.i64.wrap (c.seed * 6364136223846793005)) + 1442695040888963407)) 33) (shV .shr .i64 (IntKind.i64.wrap ((IntKind.i64.wrap (c.seed * 6364136223846793005)) + 1442695040888963407)) 45)) (by kernel_rfl) (by kernel_rfl) (by kernel_rfl) (by kernel_rfl) (bitS_xor _ _ _) ·) ?_
 refine dv (At.bits (t := 3) (u := 3) (d := 24) (op := .and) (x := .tmp 23) (y := .const (.int .i64 255)) (kd := .i64) (a := bitV .xor .i64 (shV .shr .i64 (IntKind.i64.wrap ((IntKind.i64.wrap (c.seed * 6364136223846793005)) + 1442695040888963407)) 33) (shV .shr .i64 (IntKind.i64.wrap ((IntKind.i64.wrap (c.seed * 6364136223846793005)) + 1442695040888963407)) 45)) (b := 255) ((bitV .xor .i64 (shV .shr .i64 (IntKind.i64.wrap ((IntKind.i64.wrap (c.seed * 6364136223846793005)) + 1442695040888963407)) 33) (shV .shr .i64 (IntKind.i64.wrap ((IntKind.i64.wrap (c.seed * 6364136223846793005)) + 1442695040888963407)) 45)) % 256) (by kernel_rfl) (by kernel_rfl) (by kernel_rfl) (by kernel_rfl) (andM 8 256 _ _ (by decide) (by decide) (by decide)) ·) ?_
 refine dv (At.zD 1 ·) ?_
 refine dv (AW.seq ·) ?_
 refine dv (AW.seq ·) ?_
 refine dv (AW.gD Tryd_mix ·) ?_
 refine dv (At.a 9 ·) ?_
 refine dv (At.sL 33 encU8 c.data ·) ?_
 refine dv (At.zD 1 ·) ?_
 by_cases h1 : c.pos < (c.data.length : Int)
 · refine dv (AW.condT (decide (c.pos < (c.data.length : Int))) (by kernel_rfl) (decide_eq_true h1) ·) ?_
   refine dv (AW.seq ·) ?_
   refine dv (AW.gD Tryd_mix ·) ?_
   refine dv (At.a 9 ·) ?_
   refine dv (At.iSl 28 44 (.tmp 39) (.tmp 43) false 1 (c.data.map encU8) .i64 c.pos 5 (by omega) (by simp only [List.length_map]; omega) ·) ?_
   refine Exists.elim (gE c.data ((c.pos).toNat) (by omega)) fun e1 he1 => ?_
   have hbe1 := UInt8.toNat_lt e1
   refine dv (At.lVp 5 45 (.tmp 44) false 1 (c.data.map encU8) ((c.pos).toNat) 0 false 1 (encU8 e1) (.int .u8 (e1.toNat : Int)) (mapGet he1) ·) ?_
   refine dv (At.conv (s := 5) (t := 3) (d := 46) (x := .tmp 45) (kd := .u8) (kd' := .i64) (a := (e1.toNat : Int)) (.int .i64 (e1.toNat : Int)) (by kernel_rfl) (by kernel_rfl) (by kernel_rfl) (by kernel_rfl) (sayI _ (by have := UInt8.toNat_lt e1; omega)) ·) ?_
   refine dv (At.a 1 ·) ?_
   refine dv (At.sI 47 (((bitV .xor .i64 (shV .shr .i64 (IntKind.i64.wrap ((IntKind.i64.wrap (c.seed * 6364136223846793005)) + 1442695040888963407)) 33) (shV .shr .i64 (IntKind.i64.wrap ((IntKind.i64.wrap (c.seed * 6364136223846793005)) + 1442695040888963407)) 45)) % 256) + (e1.toNat : Int)) (by omega) ·) ?_
   refine dv (At.bits (t := 3) (u := 3) (d := 48) (op := .and) (x := .tmp 47) (y := .const (.int .i64 255)) (kd := .i64) (a := ((bitV .xor .i64 (shV .shr .i64 (IntKind.i64.wrap ((IntKind.i64.wrap (c.seed * 6364136223846793005)) + 1442695040888963407)) 33) (shV .shr .i64 (IntKind.i64.wrap ((IntKind.i64.wrap (c.seed * 6364136223846793005)) + 1442695040888963407)) 45)) % 256) + (e1.toNat : Int)) (b := 255) ((((bitV .xor .i64 (shV .shr .i64 (IntKind.i64.wrap ((IntKind.i64.wrap (c.seed * 6364136223846793005)) + 1442695040888963407)) 33) (shV .shr .i64 (IntKind.i64.wrap ((IntKind.i64.wrap (c.seed * 6364136223846793005)) + 1442695040888963407)) 45)) % 256) + (e1.toNat : Int)) % 256) (by kernel_rfl) (by kernel_rfl) (by kernel_rfl) (by kernel_rfl) (andM 8 256 _ _ (by decide) (by decide) (by decide)) ·) ?_
   refine dv (At.zD 1 ·) ?_
   refine dv (AW.g ·) ?_
   refine dv (At.a 6 ·) ?_
   refine dv (At.sI 54 (c.pos + 1) (by omega) ·) ?_
   refine dv (At.z 3 ·) ?_
   refine dv (AW.q 2 ·) ?_
   refine dv (AW.ret ·) ?_
   refine dv (⟨_, Sub.refl _ _, ·⟩) ?_
   exact ⟨(c.pos + 1, IntKind.i64.wrap ((IntKind.i64.wrap (c.seed * 6364136223846793005)) + 1442695040888963407), (((bitV .xor .i64 (shV .shr .i64 (IntKind.i64.wrap ((IntKind.i64.wrap (c.seed * 6364136223846793005)) + 1442695040888963407)) 33) (shV .shr .i64 (IntKind.i64.wrap ((IntKind.i64.wrap (c.seed * 6364136223846793005)) + 1442695040888963407)) 45)) % 256) + (e1.toNat : Int)) % 256), (by dsimp only; omega), KF.mk (.inr rfl) [(0, 0)] [.int .i64 ((((bitV .xor .i64 (shV .shr .i64 (IntKind.i64.wrap ((IntKind.i64.wrap (c.seed * 6364136223846793005)) + 1442695040888963407)) 33) (shV .shr .i64 (IntKind.i64.wrap ((IntKind.i64.wrap (c.seed * 6364136223846793005)) + 1442695040888963407)) 45)) % 256) + (e1.toNat : Int)) % 256)] (by kernel_rfl) (by kernel_rfl) (by kernel_rfl) (by kernel_rfl) (by kernel_rfl)⟩
 refine dv (AW.condF (decide (c.pos < (c.data.length : Int))) (by kernel_rfl) (decide_eq_false h1) ·) ?_
 refine dv (AW.skip ·) ?_
 refine dv (AW.q 2 ·) ?_
 refine dv (AW.ret ·) ?_
 refine dv (⟨_, Sub.refl _ _, ·⟩) ?_
 exact ⟨(c.pos, IntKind.i64.wrap ((IntKind.i64.wrap (c.seed * 6364136223846793005)) + 1442695040888963407), (bitV .xor .i64 (shV .shr .i64 (IntKind.i64.wrap ((IntKind.i64.wrap (c.seed * 6364136223846793005)) + 1442695040888963407)) 33) (shV .shr .i64 (IntKind.i64.wrap ((IntKind.i64.wrap (c.seed * 6364136223846793005)) + 1442695040888963407)) 45)) % 256), (by dsimp only; omega), KF.mk (.inr rfl) [(0, 0)] [.int .i64 ((bitV .xor .i64 (shV .shr .i64 (IntKind.i64.wrap ((IntKind.i64.wrap (c.seed * 6364136223846793005)) + 1442695040888963407)) 33) (shV .shr .i64 (IntKind.i64.wrap ((IntKind.i64.wrap (c.seed * 6364136223846793005)) + 1442695040888963407)) 45)) % 256)] (by kernel_rfl) (by kernel_rfl) (by kernel_rfl) (by kernel_rfl) (by kernel_rfl)⟩
theorem spec_l1Below_spec  (c : Cur) (n : Int) (hp : 0 ≤ c.pos ∧ c.pos ≤ c.data.length ∧ c.data.length ≤ 1048576) : ∃ rho_ : Int × Int × Int, (0 ≤ rho_.1 ∧ rho_.1 ≤ c.data.length ∧ 0 ≤ rho_.2.2 ∧ (0 < n → rho_.2.2 < n) ∧ (n ≤ 0 → rho_.2.2 = 0)) ∧ FnSpec Tryd.prog 31 [.ptr 0 0 0, .int .i64 n] [.box 58 [.sl false 1 (c.data.map encU8), .int .i64 c.pos, .int .i64 c.seed]] (.int .i64 rho_.2.2) [.box 58 [.sl false 1 (c.data.map encU8), .int .i64 rho_.1, .int .i64 rho_.2.1]] := by
 refine dv (fun h_ => FnSpec.of 37 Tryd.func31 rfl Tryd.ntmps31 (by simp) (AW.weakK h_)) ?_
 refine dv (AW.q 1 ·) ?_
 refine dv (AW.seq ·) ?_
 refine dv (AW.q 2 ·) ?_
 by_cases h1 : n ≤ 0
 · refine dv (AW.condT (decide (n ≤ 0)) (by kernel_rfl) (decide_eq_true h1) ·) ?_
   refine dv (AW.q 1 ·) ?_
   refine dv (AW.ret ·) ?_
   refine dv (⟨_, Sub.refl _ _, ·⟩) ?_
   exact ⟨(c.pos, c.seed, 0), (by refine ⟨by dsimp only; omega, by dsimp only; omega, ?_⟩; dsimp only; first | omega | exact ⟨Int.emod_nonneg _ (by omega), fun _ => Int.emod_lt_of_pos _ (by omega), fun _ => by omega⟩), KF.mk (.inr rfl) [(0, 0)] [.int .i64 0] (by kernel_rfl) (by kernel_rfl) (by kernel_rfl) (by kernel_rfl) (by kernel_rfl)⟩
 refine dv (AW.condF (decide (n ≤ 0)) (by kernel_rfl) (decide_eq_false h1) ·) ?_
 refine dv (AW.skip ·) ?_
 refine dv (AW.seq ·) ?_
 refine dv (AW.q 2 ·) ?_
 by_cases h2 : n ≤ 256
 · refine dv (AW.condT (decide (n ≤ 256)) (by kernel_rfl) (decide_eq_true h2) ·) ?_
   refine dv (AW.r ·) ?_
   refine dv (At.a 1 ·) ?_
   refine Exists.elim (spec_l1Byte_spec  c (by omega)) fun r1_ hr1_ => ?_
   obtain ⟨qr1_, hr1_⟩ := hr1_
   try dsimp only at qr1_
   refine dv (At.c (hr1_) Tryd.call39 true [(0, 0)] [] [] trivial ·) ?_
   refine dv (At.a 1 ·) ?_
   refine dv (At.div (t := 3) (u := 3) (d := 16) (op := .rem) (x := .tmp 14) (y := .tmp 15) (kd := .i64) (a := r1_.2.2) (b := n) (by kernel_rfl) (by kernel_rfl) (by kernel_rfl) (by kernel_rfl) (by omega) (.int .i64 (r1_.2.2.tmod n)) (.inr ⟨rfl, rfl⟩) ·) ?_
   refine dv (At.say 16 (.int .i64 (r1_.2.2.tmod n)) (.int .i64 (r1_.2.2 % n)) (by kernel_rfl) (sayRem (by omega)) ·) ?_
   refine dv (At.z 1 ·) ?_
   refine dv (AW.ret ·) ?_
   refine dv (⟨_, Sub.refl _ _, ·⟩) ?_
   exact ⟨(r1_.1, r1_.2.1, r1_.2.2 % n), (by refine ⟨by dsimp only; omega, by dsimp only; omega, ?_⟩; dsimp only; first | omega | exact ⟨Int.emod_nonneg _ (by omega), fun _ => Int.emod_lt_of_pos _ (by omega), fun _ => by omega⟩), KF.mk (.inr rfl) [(0, 0)] [.int .i64 (r1_.2.2 % n)] (by kernel_rfl) (by kernel_rfl) (by kernel_rfl) (by kernel_rfl) (by kernel_rfl)⟩
 refine dv (AW.condF (decide (n ≤ 256)) (by kernel_rfl) (decide_eq_false h2) ·) ?_
 refine dv (AW.skip ·) ?_
 refine dv (AW.r ·) ?_
 refine dv (At.a 1 ·) ?_
 refine Exists.elim (spec_l1Byte_spec  c (by omega)) fun r1_ hr1_ => ?_
 obtain ⟨qr1_, hr1_⟩ := hr1_
 try dsimp only at qr1_
 refine dv (At.c (hr1_) Tryd.call39 true [(0, 0)] [] [] trivial ·) ?_
 refine dv (At.z 1 ·) ?_
 refine dv (AW.r ·) ?_
 refine dv (At.a 1 ·) ?_
 refine Exists.elim (spec_l1Byte_spec  (⟨c.data, r1_.1, r1_.2.1⟩ : Cur) (by dsimp only; omega)) fun r2_ hr2_ => ?_
 obtain ⟨qr2_, hr2_⟩ := hr2_
 try dsimp only at qr2_
 refine dv (At.c (hr2_) Tryd.call39 true [(0, 0)] [] [] trivial ·) ?_
 refine dv (At.z 1 ·) ?_
 refine dv (AW.r ·) ?_
 refine dv (At.a 1 ·) ?_
 refine Exists.elim (spec_l1Byte_spec  (⟨c.data, r2_.1, r2_.2.1⟩ : Cur) (by dsimp only; omega)) fun r3_ hr3_ => ?_
 obtain ⟨qr3_, hr3_⟩ := hr3_
 try dsimp only at qr3_
 refine dv (At.c (hr3_) Tryd.call39 true [(0, 0)] [] [] trivial ·) ?_
 refine dv (At.z 1 ·) ?_
 refine dv (AW.r ·) ?_
 refine dv (At.a 1 ·) ?_
 refine Exists.elim (spec_l1Byte_spec  (⟨c.data, r3_.1, r3_.2.1⟩ : Cur) (by dsimp only; omega)) fun r4_ hr4_ => ?_
 obtain ⟨qr4_, hr4_⟩ := hr4_
 try dsimp only at qr4_
 refine dv (At.c (hr4_) Tryd.call39 true [(0, 0)] [] [] trivial ·) ?_
 refine dv (At.z 1 ·) ?_
 refine dv (AW.r ·) ?_
 refine dv (At.a 2 ·) ?_
 refine dv (At.sI 26 (r1_.2.2 * 16777216) (by omega) ·) ?_
 refine dv (At.a 2 ·) ?_
 refine dv (At.sI 28 (r2_.2.2 * 65536) (by omega) ·) ?_
 refine dv (At.a 1 ·) ?_
 refine dv (At.sI 29 ((r1_.2.2 * 16777216) + (r2_.2.2 * 65536)) (by omega) ·) ?_
 refine dv (At.a 2 ·) ?_
 refine dv (At.sI 31 (r3_.2.2 * 256) (by omega) ·) ?_
 refine dv (At.a 1 ·) ?_
 refine dv (At.sI 32 (((r1_.2.2 * 16777216) + (r2_.2.2 * 65536)) + (r3_.2.2 * 256)) (by omega) ·) ?_
 refine dv (At.a 2 ·) ?_
 refine dv (At.sI 34 ((((r1_.2.2 * 16777216) + (r2_.2.2 * 65536)) + (r3_.2.2 * 256)) + r4_.2.2) (by omega) ·) ?_
 refine dv (At.a 1 ·) ?_
 refine dv (At.div (t := 3) (u := 3) (d := 36) (op := .rem) (x := .tmp 34) (y := .tmp 35) (kd := .i64) (a := (((r1_.2.2 * 16777216) + (r2_.2.2 * 65536)) + (r3_.2.2 * 256)) + r4_.2.2) (b := n) (by kernel_rfl) (by kernel_rfl) (by kernel_rfl) (by kernel_rfl) (by omega) (.int .i64 (((((r1_.2.2 * 16777216) + (r2_.2.2 * 65536)) + (r3_.2.2 * 256)) + r4_.2.2).tmod n)) (.inr ⟨rfl, rfl⟩) ·) ?_
 refine dv (At.say 36 (.int .i64 (((((r1_.2.2 * 16777216) + (r2_.2.2 * 65536)) + (r3_.2.2 * 256)) + r4_.2.2).tmod n)) (.int .i64 (((((r1_.2.2 * 16777216) + (r2_.2.2 * 65536)) + (r3_.2.2 * 256)) + r4_.2.2) % n)) (by kernel_rfl) (sayRem (by omega)) ·) ?_
 refine dv (At.z 1 ·) ?_
 refine dv (AW.ret ·) ?_
 refine dv (⟨_, Sub.refl _ _, ·⟩) ?_
 exact ⟨(r4_.1, r4_.2.1, ((((r1_.2.2 * 16777216) + (r2_.2.2 * 65536)) + (r3_.2.2 * 256)) + r4_.2.2) % n), (by refine ⟨by dsimp only; omega, by dsimp only; omega, ?_⟩; dsimp only; first | omega | exact ⟨Int.emod_nonneg _ (by omega), fun _ => Int.emod_lt_of_pos _ (by omega), fun _ => by omega⟩), KF.mk (.inr rfl) [(0, 0)] [.int .i64 (((((r1_.2.2 * 16777216) + (r2_.2.2 * 65536)) + (r3_.2.2 * 256)) + r4_.2.2) % n)] (by kernel_rfl) (by kernel_rfl) (by kernel_rfl) (by kernel_rfl) (by kernel_rfl)⟩
theorem spec_l1PickInt_spec  (c : Cur) (list : List Int) (hp : 0 ≤ c.pos ∧ c.pos ≤ c.data.length ∧ c.data.length ≤ 1048576) (hl : 0 < list.length ∧ list.length ≤ 1000) : ∃ rho_ : Int × Int × Int, (0 ≤ rho_.1 ∧ rho_.1 ≤ c.data.length ∧ rho_.2.2 ∈ list) ∧ FnSpec Tryd.prog 32 [.ptr 0 0 0, .ref 1] [.box 58 [.sl false 1 (c.data.map encU8), .int .i64 c.pos, .int .i64 c.seed], .arr 3 1 (list.map encI)] (.int .i64 rho_.2.2) [.box 58 [.sl false 1 (c.data.map encU8), .int .i64 rho_.1, .int .i64 rho_.2.1], .arr 3 1 (list.map encI)] := by
 refine dv (fun h_ => FnSpec.of 12 Tryd.func32 rfl Tryd.ntmps32 (by simp) (AW.weakK h_)) ?_
 refine dv (AW.q 1 ·) ?_
 refine dv (AW.r ·) ?_
 refine dv (At.a 4 ·) ?_
 refine dv (At.sL 8 encI list ·) ?_
 refine Exists.elim (spec_l1Below_spec  c (list.length : Int) (by omega)) fun r1_ hr1_ => ?_
 obtain ⟨qr1_, hr1_⟩ := hr1_
 try dsimp only at qr1_
 try simp only [Int.reduceLT, Int.reduceLE, true_implies, false_implies, and_true] at qr1_
 refine dv (At.c (hr1_) Tryd.call31 true [(0, 0)] [] [] trivial ·) ?_
 refine dv (At.iRf 56 10 (.tmp 5) (.tmp 9) 1 (list.map encI) .i64 r1_.2.2 3 1 (by omega) (by simp only [List.length_map]; omega) ·) ?_
 refine Exists.elim (gE list ((r1_.2.2).toNat) (by omega)) fun e1 he1 => ?_
 refine dv (At.lEl 3 11 (.tmp 10) 1 3 1 (list.map encI) ((r1_.2.2).toNat) 0 false 1 (encI e1) (.int .i64 e1) (mapGet he1) ·) ?_
 refine dv (At.z 1 ·) ?_
 refine dv (AW.ret ·) ?_
 refine dv (⟨_, Sub.refl _ _, ·⟩) ?_
 exact ⟨(r1_.1, r1_.2.1, e1), ⟨by dsimp only; omega, by dsimp only; omega, List.mem_of_getElem? he1⟩, KF.mk (.inr rfl) [(0, 0), (1, 1)] [.int .i64 e1] (by kernel_rfl) (by kernel_rfl) (by kernel_rfl) (by kernel_rfl) (by kernel_rfl)⟩
theorem spec_l11DrawOn_spec  (c : Cur) (hp : 0 ≤ c.pos ∧ c.pos ≤ c.data.length ∧ c.data.length ≤ 1048576) : ∃ rho_ : Int × Int × On, (0 ≤ rho_.1 ∧ rho_.1 ≤ c.data.length ∧ (-1 ≤ rho_.2.2.day ∧ rho_.2.2.day ≤ 100) ∧ (-1 ≤ rho_.2.2.week ∧ rho_.2.2.week ≤ 100)) ∧ FnSpec Tryd.prog 18 [.ptr 0 0 0] [.box 58 [.sl false 1 (c.data.map encU8), .int .i64 c.pos, .int .i64 c.seed]] (.agg [.int .i64 rho_.2.2.kind, .int .i64 rho_.2.2.day, .int .i64 rho_.2.2.week]) [.box 58 [.sl false 1 (c.data.map encU8), .int .i64 rho_.1, .int .i64 rho_.2.1]] := by
 refine dv (fun h_ => FnSpec.of 41 Tryd.func18 rfl Tryd.ntmps18 (by simp) (AW.weakK h_)) ?_
 refine dv (AW.q 1 ·) ?_
 refine dv (AW.r ·) ?_
 refine dv (At.a 1 ·) ?_
 refine Exists.elim (spec_l1Below_spec  c 3 (by omega)) fun r1_ hr1_ => ?_
 obtain ⟨qr1_, hr1_⟩ := hr1_
 try dsimp only at qr1_
 try simp only [Int.reduceLT, Int.reduceLE, true_implies, false_implies, and_true] at qr1_
 refine dv (At.c (hr1_) Tryd.call31 true [(0, 0)] [] [] trivial ·) ?_
 refine dv (At.a 1 ·) ?_
 refine dv (At.sI 6 (1 + r1_.2.2) (by omega) ·) ?_
 refine dv (At.z 3 ·) ?_
 refine dv (AW.seq ·) ?_
 refine dv (AW.q 3 ·) ?_
 by_cases h1 : 1 + r1_.2.2 = 2
 · refine dv (AW.condF ((1 + r1_.2.2) != 2) (by kernel_rfl) (by rw [bne_eq_false_iff_eq]; exact h1) ·) ?_
   refine dv (AW.skip ·) ?_
   refine dv (AW.seq ·) ?_
   refine dv (AW.q 3 ·) ?_
   by_cases h2 : 1 + r1_.2.2 = 1
   · refine dv (AW.condF ((1 + r1_.2.2) != 1) (by kernel_rfl) (by rw [bne_eq_false_iff_eq]; exact h2) ·) ?_
     refine dv (AW.skip ·) ?_
     refine dv (AW.seq ·) ?_
     refine dv (AW.r ·) ?_
     refine dv (At.a 1 ·) ?_
     refine Exists.elim (spec_l1Below_spec  (⟨c.data, r1_.1, r1_.2.1⟩ : Cur) 25 (by omega)) fun r2_ hr2_ => ?_
     obtain ⟨qr2_, hr2_⟩ := hr2_
     try dsimp only at qr2_
     try simp only [Int.reduceLT, Int.reduceLE, true_implies, false_implies, and_true] at qr2_
     refine dv (At.c (hr2_) Tryd.call31 true [(0, 0)] [] [] trivial ·) ?_
     refine dv (At.done rfl ·) ?_
     refine dv (AW.block ·) ?_
     refine dv (AW.q 2 ·) ?_
     by_cases h3 : r2_.2.2 = 0
     · refine dv (AW.condT (r2_.2.2 == 0) (by kernel_rfl) (beq_iff_eq.2 h3) ·) ?_
       refine dv (AW.g ·) ?_
       refine dv (At.a 1 ·) ?_
       refine Exists.elim (spec_l1Below_spec  (⟨c.data, r2_.1, r2_.2.1⟩ : Cur) 5 (by omega)) fun r3_ hr3_ => ?_
       obtain ⟨qr3_, hr3_⟩ := hr3_
       try dsimp only at qr3_
       try simp only [Int.reduceLT, Int.reduceLE, true_implies, false_implies, and_true] at qr3_
       refine dv (At.c (hr3_) Tryd.call31 true [(0, 0)] [] [] trivial ·) ?_
       refine dv (At.z 2 ·) ?_
       refine dv (AW.q 2 ·) ?_
       refine dv (AW.ret ·) ?_
       refine dv (⟨_, Sub.refl _ _, ·⟩) ?_
       exact ⟨(r3_.1, r3_.2.1, (⟨r3_.2.2, 0, 0⟩ : On)), (by (try dsimp only); omega), KF.mk (.inr rfl) [(0, 0)] [.agg [.int .i64 r3_.2.2, .int .i64 0, .int .i64 0]] (by kernel_rfl) (by kernel_rfl) (by kernel_rfl) (by kernel_rfl) (by kernel_rfl)⟩
     refine dv (AW.condF (r2_.2.2 == 0) (by kernel_rfl) (beq_eq_false_iff_ne.2 h3) ·) ?_
     refine dv (AW.q 2 ·) ?_
     by_cases h4 : r2_.2.2 = 1
     · refine dv (AW.condT (r2_.2.2 == 1) (by kernel_rfl) (beq_iff_eq.2 h4) ·) ?_
       refine dv (AW.g ·) ?_
       refine dv (At.a 1 ·) ?_
       refine dv (At.ll 31 3 1 131 (0, 6) (([0, 31, 32, -1]).map encI) ·) ?_
       refine Exists.elim (spec_l1PickInt_spec  (⟨c.data, r2_.1, r2_.2.1⟩ : Cur) ([0, 31, 32, -1]) (by omega) (by decide)) fun r3_ hr3_ => ?_
       obtain ⟨qr3_, hr3_⟩ := hr3_
       try dsimp only at qr3_
       refine dv (At.c (hr3_) Tryd.call32 true [(0, 0), (131, 1)] [] [] trivial ·) ?_
       have hS3 := qr3_.2.2
       simp only [List.mem_cons, List.not_mem_nil, or_false] at hS3
       refine dv (At.z 2 ·) ?_
       refine dv (AW.q 2 ·) ?_
       refine dv (AW.ret ·) ?_
       refine dv (⟨_, Sub.refl _ _, ·⟩) ?_
       exact ⟨(r3_.1, r3_.2.1, (⟨1 + r1_.2.2, r3_.2.2, 0⟩ : On)), (by (try dsimp only); omega), KF.mk (.inr rfl) [(0, 0)] [.agg [.int .i64 (1 + r1_.2.2), .int .i64 r3_.2.2, .int .i64 0]] (by kernel_rfl) (by kernel_rfl) (by kernel_rfl) (by kernel_rfl) (by kernel_rfl)⟩
     refine dv (AW.condF (r2_.2.2 == 1) (by kernel_rfl) (beq_eq_false_iff_ne.2 h4) ·) ?_
     refine dv (AW.q 2 ·) ?_
     by_cases h5 : r2_.2.2 = 2
     · refine dv (AW.condT (r2_.2.2 == 2) (by kernel_rfl) (beq_iff_eq.2 h5) ·) ?_
       refine dv (AW.g ·) ?_
       refine dv (At.a 1 ·) ?_
       refine dv (At.ll 37 3 1 137 (0, 6) (([-1, 6, 7]).map encI) ·) ?_
       refine Exists.elim (spec_l1PickInt_spec  (⟨c.data, r2_.1, r2_.2.1⟩ : Cur) ([-1, 6, 7]) (by omega) (by decide)) fun r3_ hr3_ => ?_
       obtain ⟨qr3_, hr3_⟩ := hr3_
       try dsimp only at qr3_
       refine dv (At.c (hr3_) Tryd.call32 true [(0, 0), (137, 1)] [] [] trivial ·) ?_
       have hS3 := qr3_.2.2
       simp only [List.mem_cons, List.not_mem_nil, or_false] at hS3
       refine dv (At.z 2 ·) ?_
       refine dv (AW.q 2 ·) ?_
       refine dv (AW.ret ·) ?_
       refine dv (⟨_, Sub.refl _ _, ·⟩) ?_
       exact ⟨(r3_.1, r3_.2.1, (⟨1 + r1_.2.2, 0, r3_.2.2⟩ : On)), (by (try dsimp only); omega), KF.mk (.inr rfl) [(0, 0)] [.agg [.int .i64 (1 + r1_.2.2), .int .i64 0, .int .i64 r3_.2.2]] (by kernel_rfl) (by kernel_rfl) (by kernel_rfl) (by kernel_rfl) (by kernel_rfl)⟩
     refine dv (AW.condF (r2_.2.2 == 2) (by kernel_rfl) (beq_eq_false_iff_ne.2 h5) ·) ?_
     refine dv (AW.skip ·) ?_
     refine dv (AW.q 2 ·) ?_
     refine dv (AW.ret ·) ?_
     refine dv (⟨_, Sub.refl _ _, ·⟩) ?_
     exact ⟨(r2_.1, r2_.2.1, (⟨1 + r1_.2.2, 0, 0⟩ : On)), (by (try dsimp only); omega), KF.mk (.inr rfl) [(0, 0)] [.agg [.int .i64 (1 + r1_.2.2), .int .i64 0, .int .i64 0]] (by kernel_rfl) (by kernel_rfl) (by kernel_rfl) (by kernel_rfl) (by kernel_rfl)⟩
   refine dv (AW.condT ((1 + r1_.2.2) != 1) (by kernel_rfl) (bne_iff_ne.2 h2) ·) ?_
   refine dv (AW.g ·) ?_
   refine dv (At.a 1 ·) ?_
   refine Exists.elim (spec_l1Below_spec  (⟨c.data, r1_.1, r1_.2.1⟩ : Cur) 7 (by dsimp only; omega)) fun r2_ hr2_ => ?_
   obtain ⟨qr2_, hr2_⟩ := hr2_
   try dsimp only at qr2_
   try simp only [Int.reduceLT, Int.reduceLE, true_implies, false_implies, and_true] at qr2_
   refine dv (At.c (hr2_) Tryd.call31 true [(0, 0)] [] [] trivial ·) ?_
   refine dv (At.z 2 ·) ?_
   refine dv (AW.seq ·) ?_
   refine dv (AW.r ·) ?_
   refine dv (At.a 1 ·) ?_
   refine Exists.elim (spec_l1Below_spec  (⟨c.data, r2_.1, r2_.2.1⟩ : Cur) 25 (by dsimp only; omega)) fun r3_ hr3_ => ?_
   obtain ⟨qr3_, hr3_⟩ := hr3_
   try dsimp only at qr3_
   try simp only [Int.reduceLT, Int.reduceLE, true_implies, false_implies, and_true] at qr3_
   refine dv (At.c (hr3_) Tryd.call31 true [(0, 0)] [] [] trivial ·) ?_
   refine dv (At.done rfl ·) ?_
   refine dv (AW.block ·) ?_
   refine dv (AW.q 2 ·) ?_
   by_cases h6 : r3_.2.2 = 0
   · refine dv (AW.condT (r3_.2.2 == 0) (by kernel_rfl) (beq_iff_eq.2 h6) ·) ?_
     refine dv (AW.g ·) ?_
     refine dv (At.a 1 ·) ?_
     refine Exists.elim (spec_l1Below_spec  (⟨c.data, r3_.1, r3_.2.1⟩ : Cur) 5 (by dsimp only; omega)) fun r4_ hr4_ => ?_
     obtain ⟨qr4_, hr4_⟩ := hr4_
     try dsimp only at qr4_
     try simp only [Int.reduceLT, Int.reduceLE, true_implies, false_implies, and_true] at qr4_
     refine dv (At.c (hr4_) Tryd.call31 true [(0, 0)] [] [] trivial ·) ?_
     refine dv (At.z 2 ·) ?_
     refine dv (AW.q 2 ·) ?_
     refine dv (AW.ret ·) ?_
     refine dv (⟨_, Sub.refl _ _, ·⟩) ?_
     exact ⟨(r4_.1, r4_.2.1, (⟨r4_.2.2, 0, r2_.2.2⟩ : On)), (by (try dsimp only); omega), KF.mk (.inr rfl) [(0, 0)] [.agg [.int .i64 r4_.2.2, .int .i64 0, .int .i64 r2_.2.2]] (by kernel_rfl) (by kernel_rfl) (by kernel_rfl) (by kernel_rfl) (by kernel_rfl)⟩
   refine dv (AW.condF (r3_.2.2 == 0) (by kernel_rfl) (beq_eq_false_iff_ne.2 h6) ·) ?_
   refine dv (AW.q 2 ·) ?_
   by_cases h7 : r3_.2.2 = 1
   · refine dv (AW.condT (r3_.2.2 == 1) (by kernel_rfl) (beq_iff_eq.2 h7) ·) ?_
     refine dv (AW.g ·) ?_
     refine dv (At.a 1 ·) ?_
     refine dv (At.ll 31 3 1 131 (0, 6) (([0, 31, 32, -1]).map encI) ·) ?_
     refine Exists.elim (spec_l1PickInt_spec  (⟨c.data, r3_.1, r3_.2.1⟩ : Cur) ([0, 31, 32, -1]) (by dsimp only; omega) (by decide)) fun r4_ hr4_ => ?_
     obtain ⟨qr4_, hr4_⟩ := hr4_
     try dsimp only at qr4_
     refine dv (At.c (hr4_) Tryd.call32 true [(0, 0), (131, 1)] [] [] trivial ·) ?_
     have hS4 := qr4_.2.2
     simp only [List.mem_cons, List.not_mem_nil, or_false] at hS4
     refine dv (At.z 2 ·) ?_
     refine dv (AW.q 2 ·) ?_
     refine dv (AW.ret ·) ?_
     refine dv (⟨_, Sub.refl _ _, ·⟩) ?_
     exact ⟨(r4_.1, r4_.2.1, (⟨1 + r1_.2.2, r4_.2.2, r2_.2.2⟩ : On)), (by (try dsimp only); omega), KF.mk (.inr rfl) [(0, 0)] [.agg [.int .i64 (1 + r1_.2.2), .int .i64 r4_.2.2, .int .i64 r2_.2.2]] (by kernel_rfl) (by kernel_rfl) (by kernel_rfl) (by kernel_rfl) (by kernel_rfl)⟩
   refine dv (AW.condF (r3_.2.2 == 1) (by kernel_rfl) (beq_eq_false_iff_ne.2 h7) ·) ?_
   refine dv (AW.q 2 ·) ?_
   by_cases h8 : r3_.2.2 = 2
   · refine dv (AW.condT (r3_.2.2 == 2) (by kernel_rfl) (beq_iff_eq.2 h8) ·) ?_
     refine dv (AW.g ·) ?_
     refine dv (At.a 1 ·) ?_
     refine dv (At.ll 37 3 1 137 (0, 6) (([-1, 6, 7]).map encI) ·) ?_
     refine Exists.elim (spec_l1PickInt_spec  (⟨c.data, r3_.1, r3_.2.1⟩ : Cur) ([-1, 6, 7]) (by dsimp only; omega) (by decide)) fun r4_ hr4_ => ?_
     obtain ⟨qr4_, hr4_⟩ := hr4_
     try dsimp only at qr4_
     refine dv (At.c (hr4_) Tryd.call32 true [(0, 0), (137, 1)] [] [] trivial ·) ?_
     have hS4 := qr4_.2.2
     simp only [List.mem_cons, List.not_mem_nil, or_false] at hS4
     refine dv (At.z 2 ·) ?_
     refine dv (AW.q 2 ·) ?_
     refine dv (AW.ret ·) ?_
     refine dv (⟨_, Sub.refl _ _, ·⟩) ?_
     exact ⟨(r4_.1, r4_.2.1, (⟨1 + r1_.2.2, 0, r4_.2.2⟩ : On)), (by (try dsimp only); omega), KF.mk (.inr rfl) [(0, 0)] [.agg [.int .i64 (1 + r1_.2.2), .int .i64 0, .int .i64 r4_.2.2]] (by kernel_rfl) (by kernel_rfl) (by kernel_rfl) (by kernel_rfl) (by kernel_rfl)⟩
   refine dv (AW.condF (r3_.2.2 == 2) (by kernel_rfl) (beq_eq_false_iff_ne.2 h8) ·) ?_
   refine dv (AW.skip ·) ?_
   refine dv (AW.q 2 ·) ?_
   refine dv (AW.ret ·) ?_
   refine dv (⟨_, Sub.refl _ _, ·⟩) ?_
   exact ⟨(r3_.1, r3_.2.1, (⟨1 + r1_.2.2, 0, r2_.2.2⟩ : On)), (by (try dsimp only); omega), KF.mk (.inr rfl) [(0, 0)] [.agg [.int .i64 (1 + r1_.2.2), .int .i64 0, .int .i64 r2_.2.2]] (by kernel_rfl) (by kernel_rfl) (by kernel_rfl) (by kernel_rfl) (by kernel_rfl)⟩
 refine dv (AW.condT ((1 + r1_.2.2) != 2) (by kernel_rfl) (bne_iff_ne.2 h1) ·) ?_
 refine dv (AW.g ·) ?_
 refine dv (At.a 1 ·) ?_
 refine Exists.elim (spec_l1Below_spec  (⟨c.data, r1_.1, r1_.2.1⟩ : Cur) 31 (by dsimp only; omega)) fun r2_ hr2_ => ?_
 obtain ⟨qr2_, hr2_⟩ := hr2_
 try dsimp only at qr2_
 try simp only [Int.reduceLT, Int.reduceLE, true_implies, false_implies, and_true] at qr2_
 refine dv (At.c (hr2_) Tryd.call31 true [(0, 0)] [] [] trivial ·) ?_
 refine dv (At.a 1 ·) ?_
 refine dv (At.sI 13 (1 + r2_.2.2) (by omega) ·) ?_
 refine dv (At.z 2 ·) ?_
 refine dv (AW.seq ·) ?_
 refine dv (AW.q 3 ·) ?_
 by_cases h9 : 1 + r1_.2.2 = 1
 · refine dv (AW.condF ((1 + r1_.2.2) != 1) (by kernel_rfl) (by rw [bne_eq_false_iff_eq]; exact h9) ·) ?_
   refine dv (AW.skip ·) ?_
   refine dv (AW.seq ·) ?_
   refine dv (AW.r ·) ?_
   refine dv (At.a 1 ·) ?_
   refine Exists.elim (spec_l1Below_spec  (⟨c.data, r2_.1, r2_.2.1⟩ : Cur) 25 (by dsimp only; omega)) fun r3_ hr3_ => ?_
   obtain ⟨qr3_, hr3_⟩ := hr3_
   try dsimp only at qr3_
   try simp only [Int.reduceLT, Int.reduceLE, true_implies, false_implies, and_true] at qr3_
   refine dv (At.c (hr3_) Tryd.call31 true [(0, 0)] [] [] trivial ·) ?_
   refine dv (At.done rfl ·) ?_
   refine dv (AW.block ·) ?_
   refine dv (AW.q 2 ·) ?_
   by_cases h10 : r3_.2.2 = 0
   · refine dv (AW.condT (r3_.2.2 == 0) (by kernel_rfl) (beq_iff_eq.2 h10) ·) ?_
     refine dv (AW.g ·) ?_
     refine dv (At.a 1 ·) ?_
     refine Exists.elim (spec_l1Below_spec  (⟨c.data, r3_.1, r3_.2.1⟩ : Cur) 5 (by dsimp only; omega)) fun r4_ hr4_ => ?_
     obtain ⟨qr4_, hr4_⟩ := hr4_
     try dsimp only at qr4_
     try simp only [Int.reduceLT, Int.reduceLE, true_implies, false_implies, and_true] at qr4_
     refine dv (At.c (hr4_) Tryd.call31 true [(0, 0)] [] [] trivial ·) ?_
     refine dv (At.z 2 ·) ?_
     refine dv (AW.q 2 ·) ?_
     refine dv (AW.ret ·) ?_
     refine dv (⟨_, Sub.refl _ _, ·⟩) ?_
     exact ⟨(r4_.1, r4_.2.1, (⟨r4_.2.2, 1 + r2_.2.2, 0⟩ : On)), (by (try dsimp only); omega), KF.mk (.inr rfl) [(0, 0)] [.agg [.int .i64 r4_.2.2, .int .i64 (1 + r2_.2.2), .int .i64 0]] (by kernel_rfl) (by kernel_rfl) (by kernel_rfl) (by kernel_rfl) (by kernel_rfl)⟩
   refine dv (AW.condF (r3_.2.2 == 0) (by kernel_rfl) (beq_eq_false_iff_ne.2 h10) ·) ?_
   refine dv (AW.q 2 ·) ?_
   by_cases h11 : r3_.2.2 = 1
   · refine dv (AW.condT (r3_.2.2 == 1) (by kernel_rfl) (beq_iff_eq.2 h11) ·) ?_
     refine dv (AW.g ·) ?_
     refine dv (At.a 1 ·) ?_
     refine dv (At.ll 31 3 1 131 (0, 6) (([0, 31, 32, -1]).map encI) ·) ?_
     refine Exists.elim (spec_l1PickInt_spec  (⟨c.data, r3_.1, r3_.2.1⟩ : Cur) ([0, 31, 32, -1]) (by dsimp only; omega) (by decide)) fun r4_ hr4_ => ?_
     obtain ⟨qr4_, hr4_⟩ := hr4_
     try dsimp only at qr4_
     refine dv (At.c (hr4_) Tryd.call32 true [(0, 0), (131, 1)] [] [] trivial ·) ?_
     have hS4 := qr4_.2.2
     simp only [List.mem_cons, List.not_mem_nil, or_false] at hS4
     refine dv (At.z 2 ·) ?_
     refine dv (AW.q 2 ·) ?_
     refine dv (AW.ret ·) ?_
     refine dv (⟨_, Sub.refl _ _, ·⟩) ?_
     exact ⟨(r4_.1, r4_.2.1, (⟨1 + r1_.2.2, r4_.2.2, 0⟩ : On)), (by (try dsimp only); omega), KF.mk (.inr rfl) [(0, 0)] [.agg [.int .i64 (1 + r1_.2.2), .int .i64 r4_.2.2, .int .i64 0]] (by kernel_rfl) (by kernel_rfl) (by kernel_rfl) (by kernel_rfl) (by kernel_rfl)⟩
   refine dv (AW.condF (r3_.2.2 == 1) (by kernel_rfl) (beq_eq_false_iff_ne.2 h11) ·) ?_
   refine dv (AW.q 2 ·) ?_
   by_cases h12 : r3_.2.2 = 2
   · refine dv (AW.condT (r3_.2.2 == 2) (by kernel_rfl) (beq_iff_eq.2 h12) ·) ?_
     refine dv (AW.g ·) ?_
     refine dv (At.a 1 ·) ?_
     refine dv (At.ll 37 3 1 137 (0, 6) (([-1, 6, 7]).map encI) ·) ?_
     refine Exists.elim (spec_l1PickInt_spec  (⟨c.data, r3_.1, r3_.2.1⟩ : Cur) ([-1, 6, 7]) (by dsimp only; omega) (by decide)) fun r4_ hr4_ => ?_
     obtain ⟨qr4_, hr4_⟩ := hr4_
     try dsimp only at qr4_
     refine dv (At.c (hr4_) Tryd.call32 true [(0, 0), (137, 1)] [] [] trivial ·) ?_
     have hS4 := qr4_.2.2
     simp only [List.mem_cons, List.not_mem_nil, or_false] at hS4
     refine dv (At.z 2 ·) ?_
     refine dv (AW.q 2 ·) ?_
     refine dv (AW.ret ·) ?_
     refine dv (⟨_, Sub.refl _ _, ·⟩) ?_
     exact ⟨(r4_.1, r4_.2.1, (⟨1 + r1_.2.2, 1 + r2_.2.2, r4_.2.2⟩ : On)), (by (try dsimp only); omega), KF.mk (.inr rfl) [(0, 0)] [.agg [.int .i64 (1 + r1_.2.2), .int .i64 (1 + r2_.2.2), .int .i64 r4_.2.2]] (by kernel_rfl) (by kernel_rfl) (by kernel_rfl) (by kernel_rfl) (by kernel_rfl)⟩
   refine dv (AW.condF (r3_.2.2 == 2) (by kernel_rfl) (beq_eq_false_iff_ne.2 h12) ·) ?_
   refine dv (AW.skip ·) ?_
   refine dv (AW.q 2 ·) ?_
   refine dv (AW.ret ·) ?_
   refine dv (⟨_, Sub.refl _ _, ·⟩) ?_
   exact ⟨(r3_.1, r3_.2.1, (⟨1 + r1_.2.2, 1 + r2_.2.2, 0⟩ : On)), (by (try dsimp only); omega), KF.mk (.inr rfl) [(0, 0)] [.agg [.int .i64 (1 + r1_.2.2), .int .i64 (1 + r2_.2.2), .int .i64 0]] (by kernel_rfl) (by kernel_rfl) (by kernel_rfl) (by kernel_rfl) (by kernel_rfl)⟩
 refine dv (AW.condT ((1 + r1_.2.2) != 1) (by kernel_rfl) (bne_iff_ne.2 h9) ·) ?_
 refine dv (AW.g ·) ?_
 refine dv (At.a 1 ·) ?_
 refine Exists.elim (spec_l1Below_spec  (⟨c.data, r2_.1, r2_.2.1⟩ : Cur) 7 (by dsimp only; omega)) fun r3_ hr3_ => ?_
 obtain ⟨qr3_, hr3_⟩ := hr3_
 try dsimp only at qr3_
 try simp only [Int.reduceLT, Int.reduceLE, true_implies, false_implies, and_true] at qr3_
 refine dv (At.c (hr3_) Tryd.call31 true [(0, 0)] [] [] trivial ·) ?_
 refine dv (At.z 2 ·) ?_
 refine dv (AW.seq ·) ?_
 refine dv (AW.r ·) ?_
 refine dv (At.a 1 ·) ?_
 refine Exists.elim (spec_l1Below_spec  (⟨c.data, r3_.1, r3_.2.1⟩ : Cur) 25 (by dsimp only; omega)) fun r4_ hr4_ => ?_
 obtain ⟨qr4_, hr4_⟩ := hr4_
 try dsimp only at qr4_
 try simp only [Int.reduceLT, Int.reduceLE, true_implies, false_implies, and_true] at qr4_
 refine dv (At.c (hr4_) Tryd.call31 true [(0, 0)] [] [] trivial ·) ?_
 refine dv (At.done rfl ·) ?_
 refine dv (AW.block ·) ?_
 refine dv (AW.q 2 ·) ?_
 by_cases h13 : r4_.2.2 = 0
 · refine dv (AW.condT (r4_.2.2 == 0) (by kernel_rfl) (beq_iff_eq.2 h13) ·) ?_
   refine dv (AW.g ·) ?_
   refine dv (At.a 1 ·) ?_
   refine Exists.elim (spec_l1Below_spec  (⟨c.data, r4_.1, r4_.2.1⟩ : Cur) 5 (by dsimp only; omega)) fun r5_ hr5_ => ?_
   obtain ⟨qr5_, hr5_⟩ := hr5_
   try dsimp only at qr5_
   try simp only [Int.reduceLT, Int.reduceLE, true_implies, false_implies, and_true] at qr5_
   refine dv (At.c (hr5_) Tryd.call31 true [(0, 0)] [] [] trivial ·) ?_
   refine dv (At.z 2 ·) ?_
   refine dv (AW.q 2 ·) ?_
   refine dv (AW.ret ·) ?_
   refine dv (⟨_, Sub.refl _ _, ·⟩) ?_
   exact ⟨(r5_.1, r5_.2.1, (⟨r5_.2.2, 1 + r2_.2.2, r3_.2.2⟩ : On)), (by (try dsimp only); omega), KF.mk (.inr rfl) [(0, 0)] [.agg [.int .i64 r5_.2.2, .int .i64 (1 + r2_.2.2), .int .i64 r3_.2.2]] (by kernel_rfl) (by kernel_rfl) (by kernel_rfl) (by kernel_rfl) (by kernel_rfl)⟩
 refine dv (AW.condF (r4_.2.2 == 0) (by kernel_rfl) (beq_eq_false_iff_ne.2 h13) ·) ?_
 refine dv (AW.q 2 ·) ?_
 by_cases h14 : r4_.2.2 = 1
 · refine dv (AW.condT (r4_.2.2 == 1) (by kernel_rfl) (beq_iff_eq.2 h14) ·) ?_
   refine dv (AW.g ·) ?_
   refine dv (At.a 1 ·) ?_
   refine dv (At.ll 31 3 1 131 (0, 6) (([0, 31, 32, -1]).map encI) ·) ?_
   refine Exists.elim (spec_l1PickInt_spec  (⟨c.data, r4_.1, r4_.2.1⟩ : Cur) ([0, 31, 32, -1]) (by dsimp only; omega) (by decide)) fun r5_ hr5_ => ?_
   obtain ⟨qr5_, hr5_⟩ := hr5_
   try dsimp only at qr5_
   refine dv (At.c (hr5_) Tryd.call32 true [(0, 0), (131, 1)] [] [] trivial ·) ?_
   have hS5 := qr5_.2.2
   simp only [List.mem_cons, List.not_mem_nil, or_false] at hS5
   refine dv (At.z 2 ·) ?_
   refine dv (AW.q 2 ·) ?_
   refine dv (AW.ret ·) ?_
   refine dv (⟨_, Sub.refl _ _, ·⟩) ?_
   exact ⟨(r5_.1, r5_.2.1, (⟨1 + r1_.2.2, r5_.2.2, r3_.2.2⟩ : On)), (by (try dsimp only); omega), KF.mk (.inr rfl) [(0, 0)] [.agg [.int .i64 (1 + r1_.2.2), .int .i64 r5_.2.2, .int .i64 r3_.2.2]] (by kernel_rfl) (by kernel_rfl) (by kernel_rfl) (by kernel_rfl) (by kernel_rfl)⟩
 refine dv (AW.condF (r4_.2.2 == 1) (by kernel_rfl) (beq_eq_false_iff_ne.2 h14) ·) ?_
 refine dv (AW.q 2 ·) ?_
 by_cases h15 : r4_.2.2 = 2
 · refine dv (AW.condT (r4_.2.2 == 2) (by kernel_rfl) (beq_iff_eq.2 h15) ·) ?_
   refine dv (AW.g ·) ?_
   refine dv (At.a 1 ·) ?_
   refine dv (At.ll 37 3 1 137 (0, 6) (([-1, 6, 7]).map encI) ·) ?_
   refine Exists.elim (spec_l1PickInt_spec  (⟨c.data, r4_.1, r4_.2.1⟩ : Cur) ([-1, 6, 7]) (by dsimp only; omega) (by decide)) fun r5_ hr5_ => ?_
   obtain ⟨qr5_, hr5_⟩ := hr5_
   try dsimp only at qr5_
   refine dv (At.c (hr5_) Tryd.call32 true [(0, 0), (137, 1)] [] [] trivial ·) ?_
   have hS5 := qr5_.2.2
   simp only [List.mem_cons, List.not_mem_nil, or_false] at hS5
   refine dv (At.z 2 ·) ?_
   refine dv (AW.q 2 ·) ?_
   refine dv (AW.ret ·) ?_
   refine dv (⟨_, Sub.refl _ _, ·⟩) ?_
   exact ⟨(r5_.1, r5_.2.1, (⟨1 + r1_.2.2, 1 + r2_.2.2, r5_.2.2⟩ : On)), (by (try dsimp only); omega), KF.mk (.inr rfl) [(0, 0)] [.agg [.int .i64 (1 + r1_.2.2), .int .i64 (1 + r2_.2.2), .int .i64 r5_.2.2]] (by kernel_rfl) (by kernel_rfl) (by kernel_rfl) (by kernel_rfl) (by kernel_rfl)⟩
 refine dv (AW.condF (r4_.2.2 == 2) (by kernel_rfl) (beq_eq_false_iff_ne.2 h15) ·) ?_
 refine dv (AW.skip ·) ?_
 refine dv (AW.q 2 ·) ?_
 refine dv (AW.ret ·) ?_
 refine dv (⟨_, Sub.refl _ _, ·⟩) ?_
 exact ⟨(r4_.1, r4_.2.1, (⟨1 + r1_.2.2, 1 + r2_.2.2, r3_.2.2⟩ : On)), (by (try dsimp only); omega), KF.mk (.inr rfl) [(0, 0)] [.agg [.int .i64 (1 + r1_.2.2), .int .i64 (1 + r2_.2.2), .int .i64 r3_.2.2]] (by kernel_rfl) (by kernel_rfl) (by kernel_rfl) (by kernel_rfl) (by kernel_rfl)⟩
theorem spec_DrawOnText_spec  (code : List UInt8) (hc : code.length ≤ 1048576) : ∃ rho_ : On, ((-1 ≤ rho_.day ∧ rho_.day ≤ 100) ∧ (-1 ≤ rho_.week ∧ rho_.week ≤ 100)) ∧ FnSpec Tryd.prog 9 [.sl false 1 (code.map encU8)] [] (.agg [.int .i64 rho_.kind, .int .i64 rho_.day, .int .i64 rho_.week]) [] := by
 refine dv (fun h_ => FnSpec.of 6 Tryd.func9 rfl Tryd.ntmps9 (by simp) (AW.weakK h_)) ?_
 refine dv (AW.q 1 ·) ?_
 refine dv (AW.r ·) ?_
 refine dv (At.a 1 ·) ?_
 refine Exists.elim (spec_l1New_spec  code hc) fun r1_ hr1_ => ?_
 obtain ⟨qr1_, hr1_⟩ := hr1_
 try dsimp only at qr1_
 refine dv (At.c (hr1_) Tryd.call19 true [] [(1080, 0)] [] trivial ·) ?_
 refine Exists.elim (spec_l11DrawOn_spec  (⟨code, 0, r1_⟩ : Cur) (by dsimp only; omega)) fun r2_ hr2_ => ?_
 obtain ⟨qr2_, hr2_⟩ := hr2_
 try dsimp only at qr2_
 refine dv (At.c (hr2_) Tryd.call18 true [(1080, 0)] [] [] trivial ·) ?_
 refine dv (At.z 1 ·) ?_
 refine dv (AW.ret ·) ?_
 refine dv (⟨_, Sub.refl _ _, ·⟩) ?_
 exact ⟨(r2_.2.2), (by (try dsimp only); omega), KF.mk (.inr rfl) [] [.agg [.int .i64 r2_.2.2.kind, .int .i64 r2_.2.2.day, .int .i64 r2_.2.2.week]] (by kernel_rfl) (by kernel_rfl) (by kernel_rfl) (by kernel_rfl) (by kernel_rfl)⟩
theorem impl_within_spec  (n : Int) (low : Int) (high : Int) : FnSpec Tryd.prog 25 [.int .i64 n, .int .i64 low, .int .i64 high] [] (.bool (inR n low high)) [] := by
 refine FnSpec.of 15 Tryd.func25 rfl Tryd.ntmps25 (by simp) (AW.weakK ?_)
 refine AW.q 1 ?_
 refine AW.r ?_
 refine At.a 4 ?_
 by_cases h1 : n ≥ low
 · refine At.sB 10 _ _ (sayT h1) ?_
   refine At.z 5 ?_
   refine AW.ret ?_
   refine ⟨_, Sub.refl _ _, ?_⟩
   refine KF.conv (fun w => .bool w) (fun w => []) (show (decide (n ≤ high)) = (inR n low high) from by simp [inR, *]) ?_
   exact KF.n []
 refine At.sB 10 _ _ (sayF h1) ?_
 refine At.z 5 ?_
 refine AW.ret ?_
 refine ⟨_, Sub.refl _ _, ?_⟩
 refine KF.conv (fun w => .bool w) (fun w => []) (show (false) = (inR n low high) from by simp [inR, *]) ?_
 exact KF.n []
def K_impl_OnOk (rs : List ResultVar) (o : On) (w0_ : Bool) : Exit → Sg → Prop := KF Tryd.prog 0 rs (.bool w0_) []
theorem impl_OnOk_spec  (o : On) : FnSpec Tryd.prog 13 [.agg [.int .i64 o.kind, .int .i64 o.day, .int .i64 o.week]] [] (.bool (onOk o)) [] := by
 refine FnSpec.of 38 Tryd.func13 rfl Tryd.ntmps13 (by simp) (AW.weakK ?_)
 refine AW.q 2 ?_
 refine AW.seq ?_
 refine AW.q 2 ?_
 refine AW.block ?_
 refine AW.q 2 ?_
 refine AW.cE o.kind (1 : Int) (fun h1 => ?_) (fun h1 => ?_)
 · refine AW.r ?_
   refine At.a 2 ?_
   refine At.c (impl_within_spec  o.day 1 31 ) Tryd.call25 true [] [] [] trivial ?_
   refine At.a 1 ?_
   by_cases h2 : (inR o.day 1 31) = true
   · refine At.sB 10 (inR o.day 1 31) true (sayB h2) ?_
     have h2i := inR_iff.1 h2
     refine At.z 5 ?_
     exact AW.ret (rf (k1 (K_impl_OnOk _ o) (show (o.week == 0) = (onOk o) from by simp [onOk, *]; done) (KF.n [])))
   refine At.sB 10 (inR o.day 1 31) false (sayB (Bool.eq_false_iff.2 h2)) ?_
   replace h2 := Bool.eq_false_iff.2 h2
   refine At.z 5 ?_
   exact AW.ret (rf (k1 (K_impl_OnOk _ o) (show (false) = (onOk o) from by simp [onOk, *]; done) (KF.n [])))
 refine AW.q 2 ?_
 refine AW.cE o.kind (2 : Int) (fun h3 => ?_) (fun h3 => ?_)
 · refine AW.r ?_
   refine At.a 4 ?_
   by_cases h4 : o.day = 0
   · refine At.sB 20 _ _ (sayET h4) ?_
     refine At.a 2 ?_
     refine At.c (impl_within_spec  o.week 0 6 ) Tryd.call25 true [] [] [] trivial ?_
     refine At.z 2 ?_
     exact AW.ret (rf (k1 (K_impl_OnOk _ o) (show (inR o.week 0 6) = (onOk o) from by simp [onOk, *]; done) (KF.n [])))
   refine At.sB 20 _ _ (sayEF h4) ?_
   refine At.z 5 ?_
   exact AW.ret (rf (k1 (K_impl_OnOk _ o) (show (false) = (onOk o) from by simp [onOk, *]; done) (KF.n [])))
 refine AW.skip ?_
 refine AW.r ?_
 refine At.a 4 ?_
 by_cases h5 : o.kind = 3
 · refine At.sB 28 _ _ (sayET h5) ?_
   refine At.a 2 ?_
   refine At.c (impl_within_spec  o.day 1 31 ) Tryd.call25 true [] [] [] trivial ?_
   refine At.a 2 ?_
   by_cases h6 : (inR o.day 1 31) = true
   · refine At.sB 33 (inR o.day 1 31) true (sayB h6) ?_
     have h6i := inR_iff.1 h6
     refine At.a 2 ?_
     refine At.c (impl_within_spec  o.week 0 6 ) Tryd.call25 true [] [] [] trivial ?_
     refine At.z 2 ?_
     exact AW.ret (rf (k1 (K_impl_OnOk _ o) (show (inR o.week 0 6) = (onOk o) from by simp [onOk, *]; done) (KF.n [])))
   refine At.sB 33 (inR o.day 1 31) false (sayB (Bool.eq_false_iff.2 h6)) ?_
   replace h6 := Bool.eq_false_iff.2 h6
   refine At.z 5 ?_
   exact AW.ret (rf (k1 (K_impl_OnOk _ o) (show (false) = (onOk o) from by simp [onOk, *]; done) (KF.n [])))
 refine At.sB 28 _ _ (sayEF h5) ?_
 refine At.z 10 ?_
 exact AW.ret (rf (k1 (K_impl_OnOk _ o) (show (false) = (onOk o) from by simp [onOk, *]; done) (KF.n [])))
theorem impl_digits_spec  (n : Int) (hn : -9223372036854775808 ≤ n ∧ n ≤ 9223372036854775807) : FnSpecQ GB Tryd.prog 20 [.int .i64 n] (.str (strOf (Lib.itoa n))) := digits_q n hn
theorem impl_OnText_spec  (o : On) (ho : (-9223372036854775808 ≤ o.day ∧ o.day ≤ 9223372036854775807) ∧ (-9223372036854775808 ≤ o.week ∧ o.week ≤ 9223372036854775807)) : FnSpecQ GB Tryd.prog 10 [.agg [.int .i64 o.kind, .int .i64 o.day, .int .i64 o.week]] (.str (strOf (txO o))) := by
 have hl1 : (⟨#[108, 97, 115, 116]⟩ : ByteArray).size = 4 := rfl
 have hl2 : (⟨#[62, 61]⟩ : ByteArray).size = 2 := rfl
 have hid := Lib.itoa_length_le o.day (by omega) (by omega)
 have hiw := Lib.itoa_length_le o.week (by omega) (by omega)
 refine FnSpecQ.of 27 Tryd.func10 rfl Tryd.ntmps10 (by simp) (AW.weakK ?_)
 refine AW.q 2 ?_
 refine AW.seq ?_
 refine AW.r ?_
 refine At.a 1 ?_
 refine At.c (impl_OnOk_spec  o ) Tryd.call13 true [] [] [] trivial ?_
 refine At.z 1 ?_
 refine AW.cNB (onOk o) (fun h1 => ?_) (fun h1 => ?_)
 · refine AW.q 1 ?_
   refine AW.ret ?_
   refine ⟨_, Sub.refl _ _, ?_⟩
   refine KF.conv (fun w => .str w) (fun w => []) (show ((⟨#[]⟩ : ByteArray)) = (strOf (txO o)) from by exact tx_no (by assumption)) ?_
   exact KF.n []
 refine AW.skip ?_
 refine AW.seq ?_
 refine AW.q 2 ?_
 refine AW.block ?_
 refine AW.q 2 ?_
 refine AW.cE o.kind (1 : Int) (fun h2 => ?_) (fun h2 => ?_)
 · refine AW.r ?_
   refine At.a 2 ?_
   refine At.callQ glLasts rfl (impl_digits_spec  o.day (by omega)) Tryd.call20 true [] [] [] (by kernel_rfl) (by kernel_rfl) (by kernel_rfl) (by kernel_rfl) (by kernel_rfl) trivial ?_
   refine At.z 1 ?_
   refine AW.ret ?_
   refine ⟨_, Sub.refl _ _, ?_⟩
   refine KF.conv (fun w => .str w) (fun w => []) (show (strOf (Lib.itoa o.day)) = (strOf (txO o)) from by exact tx_1 (by assumption) (by assumption)) ?_
   exact KF.n []
 refine AW.q 2 ?_
 refine AW.cE o.kind (2 : Int) (fun h3 => ?_) (fun h3 => ?_)
 · refine AW.r ?_
   refine At.a 2 ?_
   refine At.callQ glLasts rfl (impl_digits_spec  o.week (by omega)) Tryd.call20 true [] [] [] (by kernel_rfl) (by kernel_rfl) (by kernel_rfl) (by kernel_rfl) (by kernel_rfl) trivial ?_
   refine At.cat (t := 9) (u := 9) (d := 18) (x := .const (.string ⟨#[108, 97, 115, 116]⟩)) (y := .tmp 17) (a := (⟨#[108, 97, 115, 116]⟩ : ByteArray)) (b := strOf (Lib.itoa o.week)) (by kernel_rfl) (by kernel_rfl) (by kernel_rfl) (by kernel_rfl) (by simp only [cat_size, strOf_size]; omega) ?_
   refine At.z 1 ?_
   refine AW.ret ?_
   refine ⟨_, Sub.refl _ _, ?_⟩
   refine KF.conv (fun w => .str w) (fun w => []) (show ((⟨#[108, 97, 115, 116]⟩ : ByteArray) ++ (strOf (Lib.itoa o.week))) = (strOf (txO o)) from by exact tx_2 (by assumption) (by assumption) (by assumption)) ?_
   exact KF.n []
 refine AW.skip ?_
 refine AW.seq ?_
 refine AW.gD Tryd_mix ?_
 refine At.a 2 ?_
 refine At.callQ glLasts rfl (impl_digits_spec  o.week (by omega)) Tryd.call20 true [] [] [] (by kernel_rfl) (by kernel_rfl) (by kernel_rfl) (by kernel_rfl) (by kernel_rfl) trivial ?_
 refine At.cat (t := 9) (u := 9) (d := 22) (x := .tmp 21) (y := .const (.string ⟨#[62, 61]⟩)) (a := strOf (Lib.itoa o.week)) (b := (⟨#[62, 61]⟩ : ByteArray)) (by kernel_rfl) (by kernel_rfl) (by kernel_rfl) (by kernel_rfl) (by simp only [cat_size, strOf_size]; omega) ?_
 refine At.a 2 ?_
 refine At.callQ glLasts rfl (impl_digits_spec  o.day (by omega)) Tryd.call20 true [] [] [] (by kernel_rfl) (by kernel_rfl) (by kernel_rfl) (by kernel_rfl) (by kernel_rfl) trivial ?_
 refine At.cat (t := 9) (u := 9) (d := 26) (x := .tmp 22) (y := .tmp 25) (a := (strOf (Lib.itoa o.week)) ++ (⟨#[62, 61]⟩ : ByteArray)) (b := strOf (Lib.itoa o.day)) (by kernel_rfl) (by kernel_rfl) (by kernel_rfl) (by kernel_rfl) (by simp only [cat_size, strOf_size]; omega) ?_
 refine At.zD 1 ?_
 refine AW.ret ?_
 refine ⟨_, Sub.refl _ _, ?_⟩
 refine KF.conv (fun w => .str w) (fun w => []) (show (((strOf (Lib.itoa o.week)) ++ (⟨#[62, 61]⟩ : ByteArray)) ++ (strOf (Lib.itoa o.day))) = (strOf (txO o)) from by exact tx_3 (by assumption) (by assumption) (by assumption)) ?_
 exact KF.n []
theorem spec_l1In_spec  (x : Int) (lo : Int) (hi : Int) : FnSpec Tryd.prog 21 [.int .i64 x, .int .i64 lo, .int .i64 hi] [] (.bool (inR x lo hi)) [] := by
 refine FnSpec.of 15 Tryd.func21 rfl Tryd.ntmps21 (by simp) (AW.weakK ?_)
 refine AW.q 1 ?_
 refine AW.r ?_
 refine At.a 4 ?_
 by_cases h1 : x ≥ lo
 · refine At.sB 10 _ _ (sayT h1) ?_
   refine At.z 5 ?_
   refine AW.ret ?_
   refine ⟨_, Sub.refl _ _, ?_⟩
   refine KF.conv (fun w => .bool w) (fun w => []) (show (decide (x ≤ hi)) = (inR x lo hi) from by simp [inR, *]) ?_
   exact KF.n []
 refine At.sB 10 _ _ (sayF h1) ?_
 refine At.z 5 ?_
 refine AW.ret ?_
 refine ⟨_, Sub.refl _ _, ?_⟩
 refine KF.conv (fun w => .bool w) (fun w => []) (show (false) = (inR x lo hi) from by simp [inR, *]) ?_
 exact KF.n []
def K_spec_OnOk (rs : List ResultVar) (o : On) (w0_ : Bool) : Exit → Sg → Prop := KF Tryd.prog 0 rs (.bool w0_) []
theorem spec_OnOk_spec  (o : On) : FnSpec Tryd.prog 11 [.agg [.int .i64 o.kind, .int .i64 o.day, .int .i64 o.week]] [] (.bool (onOk o)) [] := by
 refine FnSpec.of 35 Tryd.func11 rfl Tryd.ntmps11 (by simp) (AW.weakK ?_)
 refine AW.q 2 ?_
 refine AW.seq ?_
 refine AW.q 2 ?_
 refine AW.block ?_
 refine AW.q 2 ?_
 refine AW.cE o.kind (1 : Int) (fun h1 => ?_) (fun h1 => ?_)
 · refine AW.r ?_
   refine At.a 2 ?_
   refine At.c (spec_l1In_spec  o.day 1 31 ) Tryd.call21 true [] [] [] trivial ?_
   refine At.a 1 ?_
   by_cases h2 : (inR o.day 1 31) = true
   · refine At.sB 10 (inR o.day 1 31) true (sayB h2) ?_
     have h2i := inR_iff.1 h2
     refine At.z 5 ?_
     exact AW.ret (rf (k1 (K_spec_OnOk _ o) (show (o.week == 0) = (onOk o) from by simp [onOk, *]; done) (KF.n [])))
   refine At.sB 10 (inR o.day 1 31) false (sayB (Bool.eq_false_iff.2 h2)) ?_
   replace h2 := Bool.eq_false_iff.2 h2
   refine At.z 5 ?_
   exact AW.ret (rf (k1 (K_spec_OnOk _ o) (show (false) = (onOk o) from by simp [onOk, *]; done) (KF.n [])))
 refine AW.q 2 ?_
 refine AW.cE o.kind (2 : Int) (fun h3 => ?_) (fun h3 => ?_)
 · refine AW.r ?_
   refine At.a 4 ?_
   by_cases h4 : o.day = 0
   · refine At.sB 20 _ _ (sayET h4) ?_
     refine At.a 2 ?_
     refine At.c (spec_l1In_spec  o.week 0 6 ) Tryd.call21 true [] [] [] trivial ?_
     refine At.z 2 ?_
     exact AW.ret (rf (k1 (K_spec_OnOk _ o) (show (inR o.week 0 6) = (onOk o) from by simp [onOk, *]; done) (KF.n [])))
   refine At.sB 20 _ _ (sayEF h4) ?_
   refine At.z 5 ?_
   exact AW.ret (rf (k1 (K_spec_OnOk _ o) (show (false) = (onOk o) from by simp [onOk, *]; done) (KF.n [])))
 refine AW.q 2 ?_
 refine AW.cE o.kind (3 : Int) (fun h5 => ?_) (fun h5 => ?_)
 · refine AW.r ?_
   refine At.a 2 ?_
   refine At.c (spec_l1In_spec  o.day 1 31 ) Tryd.call21 true [] [] [] trivial ?_
   refine At.a 1 ?_
   by_cases h6 : (inR o.day 1 31) = true
   · refine At.sB 30 (inR o.day 1 31) true (sayB h6) ?_
     have h6i := inR_iff.1 h6
     refine At.a 2 ?_
     refine At.c (spec_l1In_spec  o.week 0 6 ) Tryd.call21 true [] [] [] trivial ?_
     refine At.z 2 ?_
     exact AW.ret (rf (k1 (K_spec_OnOk _ o) (show (inR o.week 0 6) = (onOk o) from by simp [onOk, *]; done) (KF.n [])))
   refine At.sB 30 (inR o.day 1 31) false (sayB (Bool.eq_false_iff.2 h6)) ?_
   replace h6 := Bool.eq_false_iff.2 h6
   refine At.z 5 ?_
   exact AW.ret (rf (k1 (K_spec_OnOk _ o) (show (false) = (onOk o) from by simp [onOk, *]; done) (KF.n [])))
 refine AW.skip ?_
 refine AW.q 1 ?_
 exact AW.ret (rf (k1 (K_spec_OnOk _ o) (show (false) = (onOk o) from by simp [onOk, *]; done) (KF.n [])))
theorem strings_CutPrefix_spec  (s : ByteArray) (p : ByteArray) : FnSpecQ GB Tryd.prog 15 [.str s, .str p] (.tup [.str (strOf (Lib.trimPrefix s.data.toList p.data.toList)), .bool (Lib.hasPrefix s.data.toList p.data.toList)]) := cutPrefix_q s p
theorem strings_Cut_spec  (s : ByteArray) (p : ByteArray) (hs : s.size ≤ 1048576) : FnSpecQ GB Tryd.prog 16 [.str s, .str p] (.tup [.str (strOf (Lib.cut s.data.toList p.data.toList).1), .str (strOf (Lib.cut s.data.toList p.data.toList).2.1), .bool ((Lib.cut s.data.toList p.data.toList).2.2)]) := cut_q s p hs
theorem impl_readNumber_spec  (s : ByteArray) (m : Int) (hs : s.size ≤ 1048576) : FnSpecQ GB Tryd.prog 17 [.str s, .int .i64 m] (.tup [.int .i64 ((rdN s.data.toList m).1), .bool ((rdN s.data.toList m).2)]) := readNumber_q s m hs
def K_impl_OnRead (rs : List ResultVar) (s : ByteArray) (w0_ : On) (w1_ : Bool) : Exit → Sg → Prop := KF Tryd.prog 0 rs (.tup [.agg [.int .i64 w0_.kind, .int .i64 w0_.day, .int .i64 w0_.week], .bool w1_]) []
theorem impl_OnRead_spec  (s : ByteArray) (hs : s.size ≤ 1048576) : FnSpecQ GB Tryd.prog 6 [.str s] (.tup [.agg [.int .i64 (((onRI s.data.toList).1).kind), .int .i64 (((onRI s.data.toList).1).day), .int .i64 (((onRI s.data.toList).1).week)], .bool ((onRI s.data.toList).2)]) := by
 refine FnSpecQ.of 62 Tryd.func6 rfl Tryd.ntmps6 (by simp) (AW.weakK ?_)
 refine AW.q 2 ?_
 refine AW.q 3 ?_
 refine AW.r ?_
 refine At.a 1 ?_
 refine At.callQ glLasts rfl (strings_CutPrefix_spec  s (⟨#[108, 97, 115, 116]⟩ : ByteArray) ) Tryd.call15 true [] [] [] (by kernel_rfl) (by kernel_rfl) (by kernel_rfl) (by kernel_rfl) (by kernel_rfl) trivial ?_
 refine At.z 5 ?_
 refine AW.r ?_
 refine At.a 1 ?_
 refine At.callQ glLasts rfl (strings_Cut_spec  s (⟨#[62, 61]⟩ : ByteArray) (by assumption)) Tryd.call16 true [] [] [] (by kernel_rfl) (by kernel_rfl) (by kernel_rfl) (by kernel_rfl) (by kernel_rfl) trivial ?_
 refine At.z 7 ?_
 refine AW.seq ?_
 refine AW.block ?_
 refine AW.q 2 ?_
 refine AW.cB (Lib.hasPrefix s.data.toList (⟨#[108, 97, 115, 116]⟩ : ByteArray).data.toList) (fun h1 => ?_) (fun h1 => ?_)
 · refine AW.q 2 ?_
   refine AW.g ?_
   refine At.a 1 ?_
   refine At.callQ glLasts rfl (impl_readNumber_spec  (strOf (Lib.trimPrefix s.data.toList (⟨#[108, 97, 115, 116]⟩ : ByteArray).data.toList)) 2 (by rw [strOf_size]; first | exact Nat.le_trans (trim_le _ _) (by rw [Array.length_toList]; exact hs) | exact Nat.le_trans (cut_le _).1 (by rw [Array.length_toList]; exact hs) | exact Nat.le_trans (cut_le _).2 (by rw [Array.length_toList]; exact hs))) Tryd.call17 true [] [] [] (by kernel_rfl) (by kernel_rfl) (by kernel_rfl) (by kernel_rfl) (by kernel_rfl) trivial ?_
   refine At.z 5 ?_
   refine AW.seq ?_
   refine AW.r ?_
   refine At.a 3 ?_
   by_cases h2 : s.toList = (⟨#[]⟩ : ByteArray).toList
   · refine At.sB 54 _ _ (sayET h2) ?_
     refine At.z 5 ?_
     refine AW.cond true (by kernel_rfl) (fun _ => ?_) (fun h => by cases h)
     refine AW.q 3 ?_
     exact AW.ret (rf (k2 (K_impl_OnRead _ s) (show ((⟨0, 0, 0⟩ : On)) = ((onRI s.data.toList).1) from by rw [ri_1 (by assumption)]; first | done | rfl) (show (false) = ((onRI s.data.toList).2) from by rw [ri_1 (by assumption)]; first | done | rfl) (KF.n [])))
   refine At.sB 54 _ _ (sayEF h2) ?_
   refine At.a 1 ?_
   refine At.callQ glLasts rfl (impl_OnText_spec  (⟨2, 0, (rdN (strOf (Lib.trimPrefix s.data.toList (⟨#[108, 97, 115, 116]⟩ : ByteArray).data.toList)).data.toList 2).1⟩ : On) ⟨by simp; done, by exact rdN_bd _ _⟩) Tryd.call10 true [] [] [] (by kernel_rfl) (by kernel_rfl) (by kernel_rfl) (by kernel_rfl) (by kernel_rfl) trivial ?_
   refine At.z 3 ?_
   refine AW.cNE ((strOf (txO (⟨2, 0, (rdN (strOf (Lib.trimPrefix s.data.toList (⟨#[108, 97, 115, 116]⟩ : ByteArray).data.toList)).data.toList 2).1⟩ : On))).toList) (s.toList) (fun h3 => ?_) (fun h3 => ?_)
   · refine AW.q 3 ?_
     exact AW.ret (rf (k2 (K_impl_OnRead _ s) (show ((⟨0, 0, 0⟩ : On)) = ((onRI s.data.toList).1) from by rw [ri_2 (by assumption) (by first | exact onO_1 (by assumption) | exact onO_2 (by assumption) (by assumption) | exact onO_3 (by assumption) (by assumption)) (by assumption)]; first | done | rfl) (show (false) = ((onRI s.data.toList).2) from by rw [ri_2 (by assumption) (by first | exact onO_1 (by assumption) | exact onO_2 (by assumption) (by assumption) | exact onO_3 (by assumption) (by assumption)) (by assumption)]; first | done | rfl) (KF.n [])))
   refine AW.skip ?_
   refine AW.q 3 ?_
   exact AW.ret (rf (k2 (K_impl_OnRead _ s) (show ((⟨2, 0, (rdN (strOf (Lib.trimPrefix s.data.toList (⟨#[108, 97, 115, 116]⟩ : ByteArray).data.toList)).data.toList 2).1⟩ : On)) = ((onRI s.data.toList).1) from by rw [ri_3 (by assumption) (by first | exact onO_1 (by assumption) | exact onO_2 (by assumption) (by assumption) | exact onO_3 (by assumption) (by assumption)) (by assumption)]; first | done | rfl) (show (true) = ((onRI s.data.toList).2) from by rw [ri_3 (by assumption) (by first | exact onO_1 (by assumption) | exact onO_2 (by assumption) (by assumption) | exact onO_3 (by assumption) (by assumption)) (by assumption)]; first | done | rfl) (KF.n [])))
 refine AW.q 2 ?_
 refine AW.cB ((Lib.cut s.data.toList (⟨#[62, 61]⟩ : ByteArray).data.toList).2.2) (fun h4 => ?_) (fun h4 => ?_)
 · refine AW.q 2 ?_
   refine AW.r ?_
   refine At.a 1 ?_
   refine At.callQ glLasts rfl (impl_readNumber_spec  (strOf (Lib.cut s.data.toList (⟨#[62, 61]⟩ : ByteArray).data.toList).1) 2 (by rw [strOf_size]; first | exact Nat.le_trans (trim_le _ _) (by rw [Array.length_toList]; exact hs) | exact Nat.le_trans (cut_le _).1 (by rw [Array.length_toList]; exact hs) | exact Nat.le_trans (cut_le _).2 (by rw [Array.length_toList]; exact hs))) Tryd.call17 true [] [] [] (by kernel_rfl) (by kernel_rfl) (by kernel_rfl) (by kernel_rfl) (by kernel_rfl) trivial ?_
   refine At.z 5 ?_
   refine AW.g ?_
   refine At.a 1 ?_
   refine At.callQ glLasts rfl (impl_readNumber_spec  (strOf (Lib.cut s.data.toList (⟨#[62, 61]⟩ : ByteArray).data.toList).2.1) 2 (by rw [strOf_size]; first | exact Nat.le_trans (trim_le _ _) (by rw [Array.length_toList]; exact hs) | exact Nat.le_trans (cut_le _).1 (by rw [Array.length_toList]; exact hs) | exact Nat.le_trans (cut_le _).2 (by rw [Array.length_toList]; exact hs))) Tryd.call17 true [] [] [] (by kernel_rfl) (by kernel_rfl) (by kernel_rfl) (by kernel_rfl) (by kernel_rfl) trivial ?_
   refine At.z 5 ?_
   refine AW.seq ?_
   refine AW.r ?_
   refine At.a 3 ?_
   by_cases h5 : s.toList = (⟨#[]⟩ : ByteArray).toList
   · refine At.sB 54 _ _ (sayET h5) ?_
     refine At.z 5 ?_
     refine AW.cond true (by kernel_rfl) (fun _ => ?_) (fun h => by cases h)
     refine AW.q 3 ?_
     exact AW.ret (rf (k2 (K_impl_OnRead _ s) (show ((⟨0, 0, 0⟩ : On)) = ((onRI s.data.toList).1) from by rw [ri_1 (by assumption)]; first | done | rfl) (show (false) = ((onRI s.data.toList).2) from by rw [ri_1 (by assumption)]; first | done | rfl) (KF.n [])))
   refine At.sB 54 _ _ (sayEF h5) ?_
   refine At.a 1 ?_
   refine At.callQ glLasts rfl (impl_OnText_spec  (⟨3, (rdN (strOf (Lib.cut s.data.toList (⟨#[62, 61]⟩ : ByteArray).data.toList).2.1).data.toList 2).1, (rdN (strOf (Lib.cut s.data.toList (⟨#[62, 61]⟩ : ByteArray).data.toList).1).data.toList 2).1⟩ : On) ⟨by exact rdN_bd _ _, by exact rdN_bd _ _⟩) Tryd.call10 true [] [] [] (by kernel_rfl) (by kernel_rfl) (by kernel_rfl) (by kernel_rfl) (by kernel_rfl) trivial ?_
   refine At.z 3 ?_
   refine AW.cNE ((strOf (txO (⟨3, (rdN (strOf (Lib.cut s.data.toList (⟨#[62, 61]⟩ : ByteArray).data.toList).2.1).data.toList 2).1, (rdN (strOf (Lib.cut s.data.toList (⟨#[62, 61]⟩ : ByteArray).data.toList).1).data.toList 2).1⟩ : On))).toList) (s.toList) (fun h6 => ?_) (fun h6 => ?_)
   · refine AW.q 3 ?_
     exact AW.ret (rf (k2 (K_impl_OnRead _ s) (show ((⟨0, 0, 0⟩ : On)) = ((onRI s.data.toList).1) from by rw [ri_2 (by assumption) (by first | exact onO_1 (by assumption) | exact onO_2 (by assumption) (by assumption) | exact onO_3 (by assumption) (by assumption)) (by assumption)]; first | done | rfl) (show (false) = ((onRI s.data.toList).2) from by rw [ri_2 (by assumption) (by first | exact onO_1 (by assumption) | exact onO_2 (by assumption) (by assumption) | exact onO_3 (by assumption) (by assumption)) (by assumption)]; first | done | rfl) (KF.n [])))
   refine AW.skip ?_
   refine AW.q 3 ?_
   exact AW.ret (rf (k2 (K_impl_OnRead _ s) (show ((⟨3, (rdN (strOf (Lib.cut s.data.toList (⟨#[62, 61]⟩ : ByteArray).data.toList).2.1).data.toList 2).1, (rdN (strOf (Lib.cut s.data.toList (⟨#[62, 61]⟩ : ByteArray).data.toList).1).data.toList 2).1⟩ : On)) = ((onRI s.data.toList).1) from by rw [ri_3 (by assumption) (by first | exact onO_1 (by assumption) | exact onO_2 (by assumption) (by assumption) | exact onO_3 (by assumption) (by assumption)) (by assumption)]; first | done | rfl) (show (true) = ((onRI s.data.toList).2) from by rw [ri_3 (by assumption) (by first | exact onO_1 (by assumption) | exact onO_2 (by assumption) (by assumption) | exact onO_3 (by assumption) (by assumption)) (by assumption)]; first | done | rfl) (KF.n [])))
 refine AW.g ?_
 refine At.a 1 ?_
 refine At.callQ glLasts rfl (impl_readNumber_spec  s 2 (by assumption)) Tryd.call17 true [] [] [] (by kernel_rfl) (by kernel_rfl) (by kernel_rfl) (by kernel_rfl) (by kernel_rfl) trivial ?_
 refine At.z 5 ?_
 refine AW.seq ?_
 refine AW.r ?_
 refine At.a 3 ?_
 by_cases h7 : s.toList = (⟨#[]⟩ : ByteArray).toList
 · refine At.sB 54 _ _ (sayET h7) ?_
   refine At.z 5 ?_
   refine AW.cond true (by kernel_rfl) (fun _ => ?_) (fun h => by cases h)
   refine AW.q 3 ?_
   exact AW.ret (rf (k2 (K_impl_OnRead _ s) (show ((⟨0, 0, 0⟩ : On)) = ((onRI s.data.toList).1) from by rw [ri_1 (by assumption)]; first | done | rfl) (show (false) = ((onRI s.data.toList).2) from by rw [ri_1 (by assumption)]; first | done | rfl) (KF.n [])))
 refine At.sB 54 _ _ (sayEF h7) ?_
 refine At.a 1 ?_
 refine At.callQ glLasts rfl (impl_OnText_spec  (⟨1, (rdN s.data.toList 2).1, 0⟩ : On) ⟨by exact rdN_bd _ _, by simp; done⟩) Tryd.call10 true [] [] [] (by kernel_rfl) (by kernel_rfl) (by kernel_rfl) (by kernel_rfl) (by kernel_rfl) trivial ?_
 refine At.z 3 ?_
 refine AW.cNE ((strOf (txO (⟨1, (rdN s.data.toList 2).1, 0⟩ : On))).toList) (s.toList) (fun h8 => ?_) (fun h8 => ?_)
 · refine AW.q 3 ?_
   exact AW.ret (rf (k2 (K_impl_OnRead _ s) (show ((⟨0, 0, 0⟩ : On)) = ((onRI s.data.toList).1) from by rw [ri_2 (by assumption) (by first | exact onO_1 (by assumption) | exact onO_2 (by assumption) (by assumption) | exact onO_3 (by assumption) (by assumption)) (by assumption)]; first | done | rfl) (show (false) = ((onRI s.data.toList).2) from by rw [ri_2 (by assumption) (by first | exact onO_1 (by assumption) | exact onO_2 (by assumption) (by assumption) | exact onO_3 (by assumption) (by assumption)) (by assumption)]; first | done | rfl) (KF.n [])))
 refine AW.skip ?_
 refine AW.q 3 ?_
 exact AW.ret (rf (k2 (K_impl_OnRead _ s) (show ((⟨1, (rdN s.data.toList 2).1, 0⟩ : On)) = ((onRI s.data.toList).1) from by rw [ri_3 (by assumption) (by first | exact onO_1 (by assumption) | exact onO_2 (by assumption) (by assumption) | exact onO_3 (by assumption) (by assumption)) (by assumption)]; first | done | rfl) (show (true) = ((onRI s.data.toList).2) from by rw [ri_3 (by assumption) (by first | exact onO_1 (by assumption) | exact onO_2 (by assumption) (by assumption) | exact onO_3 (by assumption) (by assumption)) (by assumption)]; first | done | rfl) (KF.n [])))
theorem spec_l12Num_spec  (x : Int) (hx : 0 - 100000 ≤ x ∧ x ≤ 100000) : FnSpec Tryd.prog 26 [.int .i64 x] [] (.str (strOf (Lib.itoa x))) [] := by
 have hb0 : (⟨#[45]⟩ : ByteArray).size = 1 := rfl
 refine FnSpec.of 26 Tryd.func26 rfl Tryd.ntmps26 (by simp) (AW.weakK ?_)
 refine AW.q 1 ?_
 refine AW.seq ?_
 refine AW.q 2 ?_
 refine AW.cD (x < 0) (fun h1 => ?_) (fun h1 => ?_)
 · refine AW.r ?_
   refine At.a 2 ?_
   refine At.sI 6 (0 - x) (by omega) ?_
   refine At.c (spec_l12Num_spec  (0 - x) (by omega)) Tryd.call26 true [] [] [] trivial ?_
   refine At.cat (t := 9) (u := 9) (d := 8) (x := .const (.string ⟨#[45]⟩)) (y := .tmp 7) (a := (⟨#[45]⟩ : ByteArray)) (b := strOf (Lib.itoa (0 - x))) (by kernel_rfl) (by kernel_rfl) (by kernel_rfl) (by kernel_rfl) (by simp only [cat_size, strOf_size, List.length_cons, List.length_nil]; first | omega | (have := Lib.itoa_length_le (0 - x) (by omega) (by omega); omega) | (have := Lib.itoa_length_le (x / 10) (by omega) (by omega); omega)) ?_
   refine At.z 1 ?_
   refine AW.ret ?_
   refine ⟨_, Sub.refl _ _, ?_⟩
   refine KF.conv (fun w => .str w) (fun w => []) (show ((⟨#[45]⟩ : ByteArray) ++ (strOf (Lib.itoa (0 - x)))) = (strOf (Lib.itoa x)) from by exact num_neg (by omega)) ?_
   exact KF.n []
 refine AW.skip ?_
 refine AW.seq ?_
 refine AW.q 2 ?_
 refine AW.cD (x < 10) (fun h2 => ?_) (fun h2 => ?_)
 · refine AW.r ?_
   refine At.a 2 ?_
   refine At.sI 12 (48 + x) (by omega) ?_
   refine At.conv (s := 3) (t := 5) (d := 13) (x := .tmp 12) (kd := .i64) (kd' := .u8) (a := 48 + x) (.int .u8 ((u8Of (48 + x)).toNat : Int)) (by kernel_rfl) (by kernel_rfl) (by kernel_rfl) (by kernel_rfl) (sayByte _) ?_
   refine At.ll 14 5 1 114 (0, 6) (([(u8Of (48 + x))]).map encU8) ?_
   refine At.b2s (s := 28) (t := 9) (e := 5) (d := 15) (x := .tmp 14) (T := .ref 114) ([(u8Of (48 + x))]) [] (by kernel_rfl) (by kernel_rfl) (by kernel_rfl) (by kernel_rfl) ⟨by kernel_rfl, .inl ⟨rfl, (allP_encU8 _)⟩⟩ ?_
   refine At.z 1 ?_
   refine AW.ret ?_
   refine ⟨_, Sub.refl _ _, ?_⟩
   refine KF.conv (fun w => .str w) (fun w => []) (show (strOf ([(u8Of (48 + x))])) = (strOf (Lib.itoa x)) from by exact num_one (by omega) (by omega)) ?_
   exact KF.n []
 refine AW.skip ?_
 refine AW.seq ?_
 refine AW.gD Tryd_mix ?_
 refine At.a 1 ?_
 refine At.div (t := 3) (u := 3) (d := 17) (op := .quo) (x := .tmp 16) (y := .const (.int .i64 10)) (kd := .i64) (a := x) (b := 10) (by kernel_rfl) (by kernel_rfl) (by kernel_rfl) (by kernel_rfl) (by omega) (.int .i64 (IntKind.i64.wrap (x.tdiv 10))) (.inl ⟨rfl, rfl⟩) ?_
 refine At.say 17 (.int .i64 (IntKind.i64.wrap (x.tdiv 10))) (.int .i64 (x / 10)) (by kernel_rfl) (sayQuo (by omega) (by omega) (by omega)) ?_
 refine At.c (spec_l12Num_spec  (x / 10) (by omega)) Tryd.call26 true [] [] [] trivial ?_
 refine At.a 1 ?_
 refine At.div (t := 3) (u := 3) (d := 20) (op := .rem) (x := .tmp 19) (y := .const (.int .i64 10)) (kd := .i64) (a := x) (b := 10) (by kernel_rfl) (by kernel_rfl) (by kernel_rfl) (by kernel_rfl) (by omega) (.int .i64 (x.tmod 10)) (.inr ⟨rfl, rfl⟩) ?_
 refine At.say 20 (.int .i64 (x.tmod 10)) (.int .i64 (x % 10)) (by kernel_rfl) (sayRem (by omega)) ?_
 refine At.a 1 ?_
 refine At.sI 21 (48 + (x % 10)) (by omega) ?_
 refine At.conv (s := 3) (t := 5) (d := 22) (x := .tmp 21) (kd := .i64) (kd' := .u8) (a := 48 + (x % 10)) (.int .u8 ((u8Of (48 + (x % 10))).toNat : Int)) (by kernel_rfl) (by kernel_rfl) (by kernel_rfl) (by kernel_rfl) (sayByte _) ?_
 refine At.ll 23 5 1 123 (0, 6) (([(u8Of (48 + (x % 10)))]).map encU8) ?_
 refine At.b2s (s := 28) (t := 9) (e := 5) (d := 24) (x := .tmp 23) (T := .ref 123) ([(u8Of (48 + (x % 10)))]) [] (by kernel_rfl) (by kernel_rfl) (by kernel_rfl) (by kernel_rfl) ⟨by kernel_rfl, .inl ⟨rfl, (allP_encU8 _)⟩⟩ ?_
 refine At.cat (t := 9) (u := 9) (d := 25) (x := .tmp 18) (y := .tmp 24) (a := strOf (Lib.itoa (x / 10))) (b := strOf ([(u8Of (48 + (x % 10)))])) (by kernel_rfl) (by kernel_rfl) (by kernel_rfl) (by kernel_rfl) (by simp only [cat_size, strOf_size, List.length_cons, List.length_nil]; first | omega | (have := Lib.itoa_length_le (0 - x) (by omega) (by omega); omega) | (have := Lib.itoa_length_le (x / 10) (by omega) (by omega); omega)) ?_
 refine At.zD 1 ?_
 refine AW.ret ?_
 refine ⟨_, Sub.refl _ _, ?_⟩
 refine KF.conv (fun w => .str w) (fun w => []) (show ((strOf (Lib.itoa (x / 10))) ++ (strOf ([(u8Of (48 + (x % 10)))]))) = (strOf (Lib.itoa x)) from by exact num_big (by omega) (by omega)) ?_
 exact KF.n []
termination_by (2 * x.natAbs + (1 - x).toNat)
decreasing_by all_goals omega
theorem spec_OnText_spec  (o : On) : FnSpec Tryd.prog 22 [.agg [.int .i64 o.kind, .int .i64 o.day, .int .i64 o.week]] [] (.str (strOf (txO o))) [] := by
 have hl1 : (⟨#[108, 97, 115, 116]⟩ : ByteArray).size = 4 := rfl
 have hl2 : (⟨#[62, 61]⟩ : ByteArray).size = 2 := rfl
 refine FnSpec.of 30 Tryd.func22 rfl Tryd.ntmps22 (by simp) (AW.weakK ?_)
 refine AW.q 2 ?_
 refine AW.seq ?_
 refine AW.block ?_
 refine AW.r ?_
 refine At.a 1 ?_
 refine At.c (spec_OnOk_spec  o ) Tryd.call11 true [] [] [] trivial ?_
 refine At.z 2 ?_
 refine AW.cNB (onOk o) (fun h1 => ?_) (fun h1 => ?_)
 · refine AW.q 1 ?_
   refine AW.ret ?_
   refine ⟨_, Sub.refl _ _, ?_⟩
   refine KF.conv (fun w => .str w) (fun w => []) (show ((⟨#[]⟩ : ByteArray)) = (strOf (txO o)) from by exact tx_no (by assumption)) ?_
   exact KF.n []
 have hnn := onOk_nums h1
 refine AW.q 4 ?_
 refine AW.cE o.kind (1 : Int) (fun h2 => ?_) (fun h2 => ?_)
 · refine AW.r ?_
   refine At.a 2 ?_
   refine At.c (spec_l12Num_spec  o.day (by omega)) Tryd.call26 true [] [] [] trivial ?_
   refine At.z 1 ?_
   refine AW.ret ?_
   refine ⟨_, Sub.refl _ _, ?_⟩
   refine KF.conv (fun w => .str w) (fun w => []) (show (strOf (Lib.itoa o.day)) = (strOf (txO o)) from by exact tx_1 (by assumption) (by assumption)) ?_
   exact KF.n []
 refine AW.q 4 ?_
 refine AW.cE o.kind (2 : Int) (fun h3 => ?_) (fun h3 => ?_)
 · refine AW.r ?_
   refine At.a 2 ?_
   refine At.c (spec_l12Num_spec  o.week (by omega)) Tryd.call26 true [] [] [] trivial ?_
   refine At.cat (t := 9) (u := 9) (d := 21) (x := .const (.string ⟨#[108, 97, 115, 116]⟩)) (y := .tmp 20) (a := (⟨#[108, 97, 115, 116]⟩ : ByteArray)) (b := strOf (Lib.itoa o.week)) (by kernel_rfl) (by kernel_rfl) (by kernel_rfl) (by kernel_rfl) (by simp only [cat_size, strOf_size]; have hid := Lib.itoa_length_le o.day (by omega) (by omega); have hiw := Lib.itoa_length_le o.week (by omega) (by omega); omega) ?_
   refine At.z 1 ?_
   refine AW.ret ?_
   refine ⟨_, Sub.refl _ _, ?_⟩
   refine KF.conv (fun w => .str w) (fun w => []) (show ((⟨#[108, 97, 115, 116]⟩ : ByteArray) ++ (strOf (Lib.itoa o.week))) = (strOf (txO o)) from by exact tx_2 (by assumption) (by assumption) (by assumption)) ?_
   exact KF.n []
 refine AW.skip ?_
 refine AW.seq ?_
 refine AW.gD Tryd_mix ?_
 refine At.a 2 ?_
 refine At.c (spec_l12Num_spec  o.week (by omega)) Tryd.call26 true [] [] [] trivial ?_
 refine At.cat (t := 9) (u := 9) (d := 25) (x := .tmp 24) (y := .const (.string ⟨#[62, 61]⟩)) (a := strOf (Lib.itoa o.week)) (b := (⟨#[62, 61]⟩ : ByteArray)) (by kernel_rfl) (by kernel_rfl) (by kernel_rfl) (by kernel_rfl) (by simp only [cat_size, strOf_size]; have hid := Lib.itoa_length_le o.day (by omega) (by omega); have hiw := Lib.itoa_length_le o.week (by omega) (by omega); omega) ?_
 refine At.a 2 ?_
 refine At.c (spec_l12Num_spec  o.day (by omega)) Tryd.call26 true [] [] [] trivial ?_
 refine At.cat (t := 9) (u := 9) (d := 29) (x := .tmp 25) (y := .tmp 28) (a := (strOf (Lib.itoa o.week)) ++ (⟨#[62, 61]⟩ : ByteArray)) (b := strOf (Lib.itoa o.day)) (by kernel_rfl) (by kernel_rfl) (by kernel_rfl) (by kernel_rfl) (by simp only [cat_size, strOf_size]; have hid := Lib.itoa_length_le o.day (by omega) (by omega); have hiw := Lib.itoa_length_le o.week (by omega) (by omega); omega) ?_
 refine At.zD 1 ?_
 refine AW.ret ?_
 refine ⟨_, Sub.refl _ _, ?_⟩
 refine KF.conv (fun w => .str w) (fun w => []) (show (((strOf (Lib.itoa o.week)) ++ (⟨#[62, 61]⟩ : ByteArray)) ++ (strOf (Lib.itoa o.day))) = (strOf (txO o)) from by exact tx_3 (by assumption) (by assumption) (by assumption)) ?_
 exact KF.n []
theorem spec_l1Once_spec  (c : Cur) (n : Int) (hp : 0 ≤ c.pos ∧ c.pos ≤ c.data.length ∧ c.data.length ≤ 1048576) : ∃ rho_ : Int × Int × Bool, (0 ≤ rho_.1 ∧ rho_.1 ≤ c.data.length) ∧ FnSpec Tryd.prog 23 [.ptr 0 0 0, .int .i64 n] [.box 58 [.sl false 1 (c.data.map encU8), .int .i64 c.pos, .int .i64 c.seed]] (.bool rho_.2.2) [.box 58 [.sl false 1 (c.data.map encU8), .int .i64 rho_.1, .int .i64 rho_.2.1]] := by
 refine dv (fun h_ => FnSpec.of 9 Tryd.func23 rfl Tryd.ntmps23 (by simp) (AW.weakK h_)) ?_
 refine dv (AW.q 1 ·) ?_
 refine dv (AW.r ·) ?_
 refine dv (At.a 2 ·) ?_
 refine Exists.elim (spec_l1Below_spec  c n (by omega)) fun r1_ hr1_ => ?_
 obtain ⟨qr1_, hr1_⟩ := hr1_
 try dsimp only at qr1_
 try simp only [Int.reduceLT, Int.reduceLE, true_implies, false_implies, and_true] at qr1_
 refine dv (At.c (hr1_) Tryd.call31 true [(0, 0)] [] [] trivial ·) ?_
 refine dv (At.z 2 ·) ?_
 refine dv (AW.ret ·) ?_
 refine dv (⟨_, Sub.refl _ _, ·⟩) ?_
 exact ⟨(r1_.1, r1_.2.1, r1_.2.2 == 0), (by dsimp only; omega), KF.mk (.inr rfl) [(0, 0)] [.bool (r1_.2.2 == 0)] (by kernel_rfl) (by kernel_rfl) (by kernel_rfl) (by kernel_rfl) (by kernel_rfl)⟩
theorem spec_l1Pick_spec  (c : Cur) (list : List ByteArray) (hp : 0 ≤ c.pos ∧ c.pos ≤ c.data.length ∧ c.data.length ≤ 1048576) (hl : 0 < list.length ∧ list.length ≤ 1000) (hm : ∀ x ∈ list, x.size ≤ 1000) : ∃ rho_ : Int × Int × ByteArray, (0 ≤ rho_.1 ∧ rho_.1 ≤ c.data.length ∧ rho_.2.2.size ≤ 1000) ∧ FnSpec Tryd.prog 24 [.ptr 0 0 0, .ref 1] [.box 58 [.sl false 1 (c.data.map encU8), .int .i64 c.pos, .int .i64 c.seed], .arr 9 1 (list.map encS)] (.str rho_.2.2) [.box 58 [.sl false 1 (c.data.map encU8), .int .i64 rho_.1, .int .i64 rho_.2.1], .arr 9 1 (list.map encS)] := by
 refine dv (fun h_ => FnSpec.of 12 Tryd.func24 rfl Tryd.ntmps24 (by simp) (AW.weakK h_)) ?_
 refine dv (AW.q 1 ·) ?_
 refine dv (AW.r ·) ?_
 refine dv (At.a 4 ·) ?_
 refine dv (At.sL 8 encS list ·) ?_
 refine Exists.elim (spec_l1Below_spec  c (list.length : Int) (by omega)) fun r1_ hr1_ => ?_
 obtain ⟨qr1_, hr1_⟩ := hr1_
 try dsimp only at qr1_
 try simp only [Int.reduceLT, Int.reduceLE, true_implies, false_implies, and_true] at qr1_
 refine dv (At.c (hr1_) Tryd.call31 true [(0, 0)] [] [] trivial ·) ?_
 refine dv (At.iRf 48 10 (.tmp 5) (.tmp 9) 1 (list.map encS) .i64 r1_.2.2 9 1 (by omega) (by simp only [List.length_map]; omega) ·) ?_
 refine Exists.elim (gE list ((r1_.2.2).toNat) (by omega)) fun e1 he1 => ?_
 refine dv (At.lEl 9 11 (.tmp 10) 1 9 1 (list.map encS) ((r1_.2.2).toNat) 0 false 1 (encS e1) (.str e1) (mapGet he1) ·) ?_
 refine dv (At.z 1 ·) ?_
 refine dv (AW.ret ·) ?_
 refine dv (⟨_, Sub.refl _ _, ·⟩) ?_
 exact ⟨(r1_.1, r1_.2.1, e1), ⟨by dsimp only; omega, by dsimp only; omega, hm _ (List.mem_of_getElem? he1)⟩, KF.mk (.inr rfl) [(0, 0), (1, 1)] [.str e1] (by kernel_rfl) (by kernel_rfl) (by kernel_rfl) (by kernel_rfl) (by kernel_rfl)⟩
theorem spec_DrawOnRead_spec  (code : List UInt8) (hc : code.length ≤ 1048576) : ∃ rho_ : ByteArray, (rho_.size ≤ 1000) ∧ FnSpec Tryd.prog 12 [.sl false 1 (code.map encU8)] [] (.str rho_) [] := by
 refine dv (fun h_ => FnSpec.of 16 Tryd.func12 rfl Tryd.ntmps12 (by simp) (AW.weakK h_)) ?_
 refine dv (AW.q 1 ·) ?_
 refine dv (AW.r ·) ?_
 refine dv (At.a 1 ·) ?_
 refine Exists.elim (spec_l1New_spec  code hc) fun r1_ hr1_ => ?_
 obtain ⟨qr1_, hr1_⟩ := hr1_
 try dsimp only at qr1_
 refine dv (At.c (hr1_) Tryd.call19 true [] [(1120, 0)] [] trivial ·) ?_
 refine dv (At.z 1 ·) ?_
 refine dv (AW.r ·) ?_
 refine dv (At.a 1 ·) ?_
 refine Exists.elim (spec_l11DrawOn_spec  (⟨code, 0, r1_⟩ : Cur) (by dsimp only; omega)) fun r2_ hr2_ => ?_
 obtain ⟨qr2_, hr2_⟩ := hr2_
 try dsimp only at qr2_
 refine dv (At.c (hr2_) Tryd.call18 true [(1120, 0)] [] [] trivial ·) ?_
 refine dv (At.c (spec_OnText_spec  r2_.2.2 ) Tryd.call22 true [] [] [] trivial ·) ?_
 refine dv (At.z 1 ·) ?_
 refine dv (AW.seq ·) ?_
 refine dv (AW.r ·) ?_
 refine dv (At.a 1 ·) ?_
 refine Exists.elim (spec_l1Once_spec  (⟨code, r2_.1, r2_.2.1⟩ : Cur) 3 (by dsimp only; omega)) fun r3_ hr3_ => ?_
 obtain ⟨qr3_, hr3_⟩ := hr3_
 try dsimp only at qr3_
 refine dv (At.c (hr3_) Tryd.call23 true [(1120, 0)] [] [] trivial ·) ?_
 refine dv (At.done rfl ·) ?_
 by_cases h1 : r3_.2.2 = true
 · refine dv (AW.condT (r3_.2.2) (by kernel_rfl) h1 ·) ?_
   refine dv (AW.g ·) ?_
   refine dv (At.a 1 ·) ?_
   refine dv (At.ll 13 9 1 113 (0, 6) (([(⟨#[]⟩ : ByteArray), (⟨#[108, 97, 115, 116]⟩ : ByteArray), (⟨#[108, 97, 115, 116, 55]⟩ : ByteArray), (⟨#[108, 97, 115, 116, 48]⟩ : ByteArray), (⟨#[48, 62, 61, 56]⟩ : ByteArray), (⟨#[55, 62, 61, 49]⟩ : ByteArray), (⟨#[48, 62, 61, 51, 50]⟩ : ByteArray), (⟨#[48, 49]⟩ : ByteArray), (⟨#[51, 50]⟩ : ByteArray), (⟨#[45, 49]⟩ : ByteArray), (⟨#[62, 61, 51]⟩ : ByteArray), (⟨#[48, 62, 61]⟩ : ByteArray), (⟨#[108, 97, 115, 116, 48, 49]⟩ : ByteArray)]).map encS) ·) ?_
   refine Exists.elim (spec_l1Pick_spec  (⟨code, r3_.1, r3_.2.1⟩ : Cur) ([(⟨#[]⟩ : ByteArray), (⟨#[108, 97, 115, 116]⟩ : ByteArray), (⟨#[108, 97, 115, 116, 55]⟩ : ByteArray), (⟨#[108, 97, 115, 116, 48]⟩ : ByteArray), (⟨#[48, 62, 61, 56]⟩ : ByteArray), (⟨#[55, 62, 61, 49]⟩ : ByteArray), (⟨#[48, 62, 61, 51, 50]⟩ : ByteArray), (⟨#[48, 49]⟩ : ByteArray), (⟨#[51, 50]⟩ : ByteArray), (⟨#[45, 49]⟩ : ByteArray), (⟨#[62, 61, 51]⟩ : ByteArray), (⟨#[48, 62, 61]⟩ : ByteArray), (⟨#[108, 97, 115, 116, 48, 49]⟩ : ByteArray)]) (by dsimp only; omega) (by decide) (by decide)) fun r4_ hr4_ => ?_
   obtain ⟨qr4_, hr4_⟩ := hr4_
   try dsimp only at qr4_
   refine dv (At.c (hr4_) Tryd.call24 true [(1120, 0), (113, 1)] [] [] trivial ·) ?_
   refine dv (At.z 1 ·) ?_
   refine dv (AW.q 2 ·) ?_
   refine dv (AW.ret ·) ?_
   refine dv (⟨_, Sub.refl _ _, ·⟩) ?_
   exact ⟨(r4_.2.2), (by (try dsimp only); first | omega | exact tx_size _), KF.mk (.inr rfl) [] [.str r4_.2.2] (by kernel_rfl) (by kernel_rfl) (by kernel_rfl) (by kernel_rfl) (by kernel_rfl)⟩
 replace h1 := Bool.eq_false_iff.2 h1
 refine dv (AW.condF (r3_.2.2) (by kernel_rfl) h1 ·) ?_
 refine dv (AW.skip ·) ?_
 refine dv (AW.q 2 ·) ?_
 refine dv (AW.ret ·) ?_
 refine dv (⟨_, Sub.refl _ _, ·⟩) ?_
 exact ⟨(strOf (txO r2_.2.2)), (by (try dsimp only); first | omega | exact tx_size _), KF.mk (.inr rfl) [] [.str (strOf (txO r2_.2.2))] (by kernel_rfl) (by kernel_rfl) (by kernel_rfl) (by kernel_rfl) (by kernel_rfl)⟩
def K_spec_l12Read (rs : List ResultVar) (s : ByteArray) (w0_ : Int) (w1_ : Bool) : Exit → Sg → Prop := KF Tryd.prog 0 rs (.tup [.int .i64 w0_, .bool w1_]) []
theorem spec_l12Read_spec  (s : ByteArray) (hs : s.size ≤ 1048576) : FnSpec Tryd.prog 14 [.str s] [] (.tup [.int .i64 ((rd4 s.data.toList).1), .bool ((rd4 s.data.toList).2)]) [] := by
 have hdl : s.data.toList.length = s.size := Array.length_toList
 refine FnSpec.of 55 Tryd.func14 rfl Tryd.ntmps14 (by simp) (AW.weakK ?_)
 refine AW.q 2 ?_
 refine AW.q 1 ?_
 refine AW.seq ?_
 refine AW.r ?_
 refine At.a 4 ?_
 by_cases h1 : (s.size : Int) > 0
 · refine At.sB 10 _ _ (sayT h1) ?_
   refine At.a 1 ?_
   refine Exists.elim (show ∃ e, s.data[0]? = some e from ⟨_, Array.getElem?_eq_getElem (by show _ < s.size; omega)⟩) fun e1 he1 => ?_
   have hbe1 := UInt8.toNat_lt e1
   have hle1 := strGet he1
   refine At.idxStr (t := 9) (d := 12) (x := .tmp 11) (y := .const (.int .i64 0)) (s := s) (kd := .i64) (i := 0) e1 (by kernel_rfl) (by kernel_rfl) (by kernel_rfl) (by kernel_rfl) (by omega) he1 ?_
   refine At.z 2 ?_
   refine AW.cE (e1.toNat : Int) (45 : Int) (fun h2 => ?_) (fun h2 => ?_)
   · refine AW.gq 1 ?_
     refine AW.seq ?_
     refine AW.r ?_
     refine At.a 4 ?_
     refine At.sI 18 ((s.size : Int) - 1) (by omega) ?_
     refine At.c (spec_l1In_spec  ((s.size : Int) - 1) 1 4 ) Tryd.call21 true [] [] [] trivial ?_
     refine At.z 1 ?_
     refine AW.cNB (inR ((s.size : Int) - 1) 1 4) (fun h3 => ?_) (fun h3 => ?_)
     · refine AW.q 2 ?_
       exact AW.ret (rf (k2 (K_spec_l12Read _ s) (show (0) = ((rd4 s.data.toList).1) from by rw [rd4_no (by first | exact minus_1 (strGet he1) (by assumption) | exact minus_0 (strGet he1) (by assumption) | exact minus_n (by assumption)) (by assumption)]) (show (false) = ((rd4 s.data.toList).2) from by rw [rd4_no (by first | exact minus_1 (strGet he1) (by assumption) | exact minus_0 (strGet he1) (by assumption) | exact minus_n (by assumption)) (by assumption)]) (KF.n [])))
     have h3i := inR_iff.1 h3
     have hin := inR_iff.1 h3
     refine AW.skip ?_
     refine AW.q 1 ?_
     refine AW.seq ?_
     refine AW.q 2 ?_
     refine AW.block ?_
     refine AW.loopW (fun (x : Nat × Int) => match x with | (k, x) => Go.Sy.mk [.str s, .un, .un, .un, .int .i64 1, .int .i64 x, .int .i64 (k : Int)] []) (fun (x : Nat × Int) => match x with | (k, x) => (1 ≤ k ∧ k ≤ s.size) ∧ (0 ≤ x ∧ x < 10 ^ (k - 1)) ∧ dgo 0 (s.data.toList.drop 1) = dgo x (s.data.toList.drop k)) (fun (x : Nat × Int) => match x with | (k, x) => s.size - k) (1, 0) ⟨by omega, by simp, rfl⟩ (Sub.o [] [true, false, false, false, true, true, true]) ?_
     rintro ⟨k, x⟩ ⟨hk, hx, hR⟩
     have hpw := pow_four (i := k - 1) (by omega)
     refine AW.seq ?_
     refine AW.q 4 ?_
     refine AW.cD ((k : Int) < (s.size : Int)) (fun h4 => ?_) (fun h4 => ?_)
     · refine AW.skip ?_
       refine AW.seq ?_
       refine AW.block ?_
       refine AW.seq ?_
       refine AW.r ?_
       refine At.a 2 ?_
       refine Exists.elim (show ∃ e, s.data[k]? = some e from ⟨_, Array.getElem?_eq_getElem (by show _ < s.size; omega)⟩) fun e2 he2 => ?_
       have hbe2 := UInt8.toNat_lt e2
       have hle2 := strGet he2
       refine At.idxStr (t := 9) (d := 30) (x := .tmp 28) (y := .tmp 29) (s := s) (kd := .i64) (i := (k : Int)) e2 (by kernel_rfl) (by kernel_rfl) (by kernel_rfl) (by kernel_rfl) (by omega) he2 ?_
       refine At.a 2 ?_
       by_cases h5 : (e2.toNat : Int) < 48
       · refine At.sB 32 _ _ (sayT h5) ?_
         refine At.z 5 ?_
         refine AW.cond true (by kernel_rfl) (fun _ => ?_) (fun h => by cases h)
         refine AW.q 2 ?_
         exact AW.ret (rf (k2 (K_spec_l12Read _ s) (show (0) = ((rd4 s.data.toList).1) from by rw [rd4_bad (by first | exact minus_1 (strGet he1) (by assumption) | exact minus_0 (strGet he1) (by assumption) | exact minus_n (by assumption)) (by assumption) (hR.trans (dgo_bad (by assumption) (by omega)))]) (show (false) = ((rd4 s.data.toList).2) from by rw [rd4_bad (by first | exact minus_1 (strGet he1) (by assumption) | exact minus_0 (strGet he1) (by assumption) | exact minus_n (by assumption)) (by assumption) (hR.trans (dgo_bad (by assumption) (by omega)))]) (KF.n [])))
       refine At.sB 32 _ _ (sayF h5) ?_
       refine At.a 2 ?_
       refine At.idxStr (t := 9) (d := 35) (x := .tmp 33) (y := .tmp 34) (s := s) (kd := .i64) (i := (k : Int)) e2 (by kernel_rfl) (by kernel_rfl) (by kernel_rfl) (by kernel_rfl) (by omega) he2 ?_
       refine At.z 2 ?_
       refine AW.cD ((e2.toNat : Int) > 57) (fun h6 => ?_) (fun h6 => ?_)
       · refine AW.q 2 ?_
         exact AW.ret (rf (k2 (K_spec_l12Read _ s) (show (0) = ((rd4 s.data.toList).1) from by rw [rd4_bad (by first | exact minus_1 (strGet he1) (by assumption) | exact minus_0 (strGet he1) (by assumption) | exact minus_n (by assumption)) (by assumption) (hR.trans (dgo_bad (by assumption) (by omega)))]) (show (false) = ((rd4 s.data.toList).2) from by rw [rd4_bad (by first | exact minus_1 (strGet he1) (by assumption) | exact minus_0 (strGet he1) (by assumption) | exact minus_n (by assumption)) (by assumption) (hR.trans (dgo_bad (by assumption) (by omega)))]) (KF.n [])))
       refine AW.skip ?_
       refine AW.g ?_
       refine At.a 2 ?_
       refine At.sI 39 (10 * x) (by omega) ?_
       refine At.a 2 ?_
       refine At.idxStr (t := 9) (d := 42) (x := .tmp 40) (y := .tmp 41) (s := s) (kd := .i64) (i := (k : Int)) e2 (by kernel_rfl) (by kernel_rfl) (by kernel_rfl) (by kernel_rfl) (by omega) he2 ?_
       refine At.conv (s := 5) (t := 3) (d := 43) (x := .tmp 42) (kd := .u8) (kd' := .i64) (a := (e2.toNat : Int)) (.int .i64 (e2.toNat : Int)) (by kernel_rfl) (by kernel_rfl) (by kernel_rfl) (by kernel_rfl) (sayI _ (by have := UInt8.toNat_lt e2; omega)) ?_
       refine At.a 1 ?_
       refine At.sI 44 ((10 * x) + (e2.toNat : Int)) (by omega) ?_
       refine At.a 1 ?_
       refine At.sI 45 (((10 * x) + (e2.toNat : Int)) - 48) (by omega) ?_
       refine At.z 1 ?_
       refine AW.g ?_
       refine At.a 2 ?_
       refine At.sI 27 ((k : Int) + 1) (by omega) ?_
       refine At.z 1 ?_
       exact ⟨(k + 1, (((10 * x) + (e2.toNat : Int)) - 48)), ⟨by omega, by rw [show k + 1 - 1 = (k - 1) + 1 from by omega, Int.pow_succ]; omega, by rw [hR]; exact dgo_step (by assumption) (by omega)⟩, (by simp only; omega), Sub.o [] [true, false, false, false, true, true, true]⟩
     refine AW.exit ?_
     refine AW.seq ?_
     refine AW.q 2 ?_
     refine AW.cE (1 : Int) (1 : Int) (fun h7 => ?_) (fun h7 => ?_)
     · refine AW.g ?_
       refine At.a 2 ?_
       refine At.sI 49 (0 - x) (by omega) ?_
       refine At.z 1 ?_
       refine AW.seq ?_
       refine AW.r ?_
       refine At.a 1 ?_
       refine At.c (spec_l12Num_spec  (0 - x) (by omega)) Tryd.call26 true [] [] [] trivial ?_
       refine At.z 2 ?_
       refine AW.cNE ((strOf (Lib.itoa (0 - x))).toList) (s.toList) (fun h8 => ?_) (fun h8 => ?_)
       · refine AW.q 2 ?_
         exact AW.ret (rf (k2 (K_spec_l12Read _ s) (show (0) = ((rd4 s.data.toList).1) from by rw [rd4_ne (by first | exact minus_1 (strGet he1) (by assumption) | exact minus_0 (strGet he1) (by assumption) | exact minus_n (by assumption)) (by assumption) (hR.trans (dgo_end (by omega))) (by first | exact if_pos rfl | exact if_neg (by decide)) (by assumption)]) (show (false) = ((rd4 s.data.toList).2) from by rw [rd4_ne (by first | exact minus_1 (strGet he1) (by assumption) | exact minus_0 (strGet he1) (by assumption) | exact minus_n (by assumption)) (by assumption) (hR.trans (dgo_end (by omega))) (by first | exact if_pos rfl | exact if_neg (by decide)) (by assumption)]) (KF.n [])))
       refine AW.skip ?_
       refine AW.q 3 ?_
       exact AW.ret (rf (k2 (K_spec_l12Read _ s) (show (0 - x) = ((rd4 s.data.toList).1) from by rw [rd4_ok (by first | exact minus_1 (strGet he1) (by assumption) | exact minus_0 (strGet he1) (by assumption) | exact minus_n (by assumption)) (by assumption) (hR.trans (dgo_end (by omega))) (by first | exact if_pos rfl | exact if_neg (by decide)) (by assumption)]) (show (true) = ((rd4 s.data.toList).2) from by rw [rd4_ok (by first | exact minus_1 (strGet he1) (by assumption) | exact minus_0 (strGet he1) (by assumption) | exact minus_n (by assumption)) (by assumption) (hR.trans (dgo_end (by omega))) (by first | exact if_pos rfl | exact if_neg (by decide)) (by assumption)]) (KF.n [])))
     refine AW.skip ?_
     refine AW.seq ?_
     refine AW.r ?_
     refine At.a 1 ?_
     refine At.c (spec_l12Num_spec  x (by omega)) Tryd.call26 true [] [] [] trivial ?_
     refine At.z 2 ?_
     refine AW.cNE ((strOf (Lib.itoa x)).toList) (s.toList) (fun h9 => ?_) (fun h9 => ?_)
     · refine AW.q 2 ?_
       exact AW.ret (rf (k2 (K_spec_l12Read _ s) (show (0) = ((rd4 s.data.toList).1) from by exfalso; omega) (show (false) = ((rd4 s.data.toList).2) from by exfalso; omega) (KF.n [])))
     refine AW.skip ?_
     refine AW.q 3 ?_
     exact AW.ret (rf (k2 (K_spec_l12Read _ s) (show (x) = ((rd4 s.data.toList).1) from by exfalso; omega) (show (true) = ((rd4 s.data.toList).2) from by exfalso; omega) (KF.n [])))
   refine AW.skip ?_
   refine AW.seq ?_
   refine AW.r ?_
   refine At.a 4 ?_
   refine At.sI 18 ((s.size : Int) - 0) (by omega) ?_
   refine At.c (spec_l1In_spec  ((s.size : Int) - 0) 1 4 ) Tryd.call21 true [] [] [] trivial ?_
   refine At.z 1 ?_
   refine AW.cNB (inR ((s.size : Int) - 0) 1 4) (fun h10 => ?_) (fun h10 => ?_)
   · refine AW.q 2 ?_
     exact AW.ret (rf (k2 (K_spec_l12Read _ s) (show (0) = ((rd4 s.data.toList).1) from by rw [rd4_no (by first | exact minus_1 (strGet he1) (by assumption) | exact minus_0 (strGet he1) (by assumption) | exact minus_n (by assumption)) (by assumption)]) (show (false) = ((rd4 s.data.toList).2) from by rw [rd4_no (by first | exact minus_1 (strGet he1) (by assumption) | exact minus_0 (strGet he1) (by assumption) | exact minus_n (by assumption)) (by assumption)]) (KF.n [])))
   have h10i := inR_iff.1 h10
   have hin := inR_iff.1 h10
   refine AW.skip ?_
   refine AW.q 1 ?_
   refine AW.seq ?_
   refine AW.q 2 ?_
   refine AW.block ?_
   refine AW.loopW (fun (x : Nat × Int) => match x with | (k, x) => Go.Sy.mk [.str s, .un, .un, .un, .int .i64 0, .int .i64 x, .int .i64 (k : Int)] []) (fun (x : Nat × Int) => match x with | (k, x) => (0 ≤ k ∧ k ≤ s.size) ∧ (0 ≤ x ∧ x < 10 ^ (k - 0)) ∧ dgo 0 (s.data.toList.drop 0) = dgo x (s.data.toList.drop k)) (fun (x : Nat × Int) => match x with | (k, x) => s.size - k) (0, 0) ⟨by omega, by simp, rfl⟩ (Sub.o [] [true, false, false, false, true, true, true]) ?_
   rintro ⟨k, x⟩ ⟨hk, hx, hR⟩
   have hpw := pow_four (i := k - 0) (by omega)
   refine AW.seq ?_
   refine AW.q 4 ?_
   refine AW.cD ((k : Int) < (s.size : Int)) (fun h11 => ?_) (fun h11 => ?_)
   · refine AW.skip ?_
     refine AW.seq ?_
     refine AW.block ?_
     refine AW.seq ?_
     refine AW.r ?_
     refine At.a 2 ?_
     refine Exists.elim (show ∃ e, s.data[k]? = some e from ⟨_, Array.getElem?_eq_getElem (by show _ < s.size; omega)⟩) fun e3 he3 => ?_
     have hbe3 := UInt8.toNat_lt e3
     have hle3 := strGet he3
     refine At.idxStr (t := 9) (d := 30) (x := .tmp 28) (y := .tmp 29) (s := s) (kd := .i64) (i := (k : Int)) e3 (by kernel_rfl) (by kernel_rfl) (by kernel_rfl) (by kernel_rfl) (by omega) he3 ?_
     refine At.a 2 ?_
     by_cases h12 : (e3.toNat : Int) < 48
     · refine At.sB 32 _ _ (sayT h12) ?_
       refine At.z 5 ?_
       refine AW.cond true (by kernel_rfl) (fun _ => ?_) (fun h => by cases h)
       refine AW.q 2 ?_
       exact AW.ret (rf (k2 (K_spec_l12Read _ s) (show (0) = ((rd4 s.data.toList).1) from by rw [rd4_bad (by first | exact minus_1 (strGet he1) (by assumption) | exact minus_0 (strGet he1) (by assumption) | exact minus_n (by assumption)) (by assumption) (hR.trans (dgo_bad (by assumption) (by omega)))]) (show (false) = ((rd4 s.data.toList).2) from by rw [rd4_bad (by first | exact minus_1 (strGet he1) (by assumption) | exact minus_0 (strGet he1) (by assumption) | exact minus_n (by assumption)) (by assumption) (hR.trans (dgo_bad (by assumption) (by omega)))]) (KF.n [])))
     refine At.sB 32 _ _ (sayF h12) ?_
     refine At.a 2 ?_
     refine At.idxStr (t := 9) (d := 35) (x := .tmp 33) (y := .tmp 34) (s := s) (kd := .i64) (i := (k : Int)) e3 (by kernel_rfl) (by kernel_rfl) (by kernel_rfl) (by kernel_rfl) (by omega) he3 ?_
     refine At.z 2 ?_
     refine AW.cD ((e3.toNat : Int) > 57) (fun h13 => ?_) (fun h13 => ?_)
     · refine AW.q 2 ?_
       exact AW.ret (rf (k2 (K_spec_l12Read _ s) (show (0) = ((rd4 s.data.toList).1) from by rw [rd4_bad (by first | exact minus_1 (strGet he1) (by assumption) | exact minus_0 (strGet he1) (by assumption) | exact minus_n (by assumption)) (by assumption) (hR.trans (dgo_bad (by assumption) (by omega)))]) (show (false) = ((rd4 s.data.toList).2) from by rw [rd4_bad (by first | exact minus_1 (strGet he1) (by assumption) | exact minus_0 (strGet he1) (by assumption) | exact minus_n (by assumption)) (by assumption) (hR.trans (dgo_bad (by assumption) (by omega)))]) (KF.n [])))
     refine AW.skip ?_
     refine AW.g ?_
     refine At.a 2 ?_
     refine At.sI 39 (10 * x) (by omega) ?_
     refine At.a 2 ?_
     refine At.idxStr (t := 9) (d := 42) (x := .tmp 40) (y := .tmp 41) (s := s) (kd := .i64) (i := (k : Int)) e3 (by kernel_rfl) (by kernel_rfl) (by kernel_rfl) (by kernel_rfl) (by omega) he3 ?_
     refine At.conv (s := 5) (t := 3) (d := 43) (x := .tmp 42) (kd := .u8) (kd' := .i64) (a := (e3.toNat : Int)) (.int .i64 (e3.toNat : Int)) (by kernel_rfl) (by kernel_rfl) (by kernel_rfl) (by kernel_rfl) (sayI _ (by have := UInt8.toNat_lt e3; omega)) ?_
     refine At.a 1 ?_
     refine At.sI 44 ((10 * x) + (e3.toNat : Int)) (by omega) ?_
     refine At.a 1 ?_
     refine At.sI 45 (((10 * x) + (e3.toNat : Int)) - 48) (by omega) ?_
     refine At.z 1 ?_
     refine AW.g ?_
     refine At.a 2 ?_
     refine At.sI 27 ((k : Int) + 1) (by omega) ?_
     refine At.z 1 ?_
     exact ⟨(k + 1, (((10 * x) + (e3.toNat : Int)) - 48)), ⟨by omega, by rw [show k + 1 - 0 = (k - 0) + 1 from by omega, Int.pow_succ]; omega, by rw [hR]; exact dgo_step (by assumption) (by omega)⟩, (by simp only; omega), Sub.o [] [true, false, false, false, true, true, true]⟩
   refine AW.exit ?_
   refine AW.seq ?_
   refine AW.q 2 ?_
   refine AW.cE (0 : Int) (1 : Int) (fun h14 => ?_) (fun h14 => ?_)
   · refine AW.g ?_
     refine At.a 2 ?_
     refine At.sI 49 (0 - x) (by omega) ?_
     refine At.z 1 ?_
     refine AW.seq ?_
     refine AW.r ?_
     refine At.a 1 ?_
     refine At.c (spec_l12Num_spec  (0 - x) (by omega)) Tryd.call26 true [] [] [] trivial ?_
     refine At.z 2 ?_
     refine AW.cNE ((strOf (Lib.itoa (0 - x))).toList) (s.toList) (fun h15 => ?_) (fun h15 => ?_)
     · refine AW.q 2 ?_
       exact AW.ret (rf (k2 (K_spec_l12Read _ s) (show (0) = ((rd4 s.data.toList).1) from by exfalso; omega) (show (false) = ((rd4 s.data.toList).2) from by exfalso; omega) (KF.n [])))
     refine AW.skip ?_
     refine AW.q 3 ?_
     exact AW.ret (rf (k2 (K_spec_l12Read _ s) (show (0 - x) = ((rd4 s.data.toList).1) from by exfalso; omega) (show (true) = ((rd4 s.data.toList).2) from by exfalso; omega) (KF.n [])))
   refine AW.skip ?_
   refine AW.seq ?_
   refine AW.r ?_
   refine At.a 1 ?_
   refine At.c (spec_l12Num_spec  x (by omega)) Tryd.call26 true [] [] [] trivial ?_
   refine At.z 2 ?_
   refine AW.cNE ((strOf (Lib.itoa x)).toList) (s.toList) (fun h16 => ?_) (fun h16 => ?_)
   · refine AW.q 2 ?_
     exact AW.ret (rf (k2 (K_spec_l12Read _ s) (show (0) = ((rd4 s.data.toList).1) from by rw [rd4_ne (by first | exact minus_1 (strGet he1) (by assumption) | exact minus_0 (strGet he1) (by assumption) | exact minus_n (by assumption)) (by assumption) (hR.trans (dgo_end (by omega))) (by first | exact if_pos rfl | exact if_neg (by decide)) (by assumption)]) (show (false) = ((rd4 s.data.toList).2) from by rw [rd4_ne (by first | exact minus_1 (strGet he1) (by assumption) | exact minus_0 (strGet he1) (by assumption) | exact minus_n (by assumption)) (by assumption) (hR.trans (dgo_end (by omega))) (by first | exact if_pos rfl | exact if_neg (by decide)) (by assumption)]) (KF.n [])))
   refine AW.skip ?_
   refine AW.q 3 ?_
   exact AW.ret (rf (k2 (K_spec_l12Read _ s) (show (x) = ((rd4 s.data.toList).1) from by rw [rd4_ok (by first | exact minus_1 (strGet he1) (by assumption) | exact minus_0 (strGet he1) (by assumption) | exact minus_n (by assumption)) (by assumption) (hR.trans (dgo_end (by omega))) (by first | exact if_pos rfl | exact if_neg (by decide)) (by assumption)]) (show (true) = ((rd4 s.data.toList).2) from by rw [rd4_ok (by first | exact minus_1 (strGet he1) (by assumption) | exact minus_0 (strGet he1) (by assumption) | exact minus_n (by assumption)) (by assumption) (hR.trans (dgo_end (by omega))) (by first | exact if_pos rfl | exact if_neg (by decide)) (by assumption)]) (KF.n [])))
 refine At.sB 10 _ _ (sayF h1) ?_
 refine At.z 4 ?_
 refine AW.cond false (by kernel_rfl) (fun h => by cases h) (fun _ => ?_)
 refine AW.skip ?_
 refine AW.seq ?_
 refine AW.r ?_
 refine At.a 4 ?_
 refine At.sI 18 ((s.size : Int) - 0) (by omega) ?_
 refine At.c (spec_l1In_spec  ((s.size : Int) - 0) 1 4 ) Tryd.call21 true [] [] [] trivial ?_
 refine At.z 1 ?_
 refine AW.cNB (inR ((s.size : Int) - 0) 1 4) (fun h17 => ?_) (fun h17 => ?_)
 · refine AW.q 2 ?_
   exact AW.ret (rf (k2 (K_spec_l12Read _ s) (show (0) = ((rd4 s.data.toList).1) from by rw [rd4_no (by first | exact minus_1 (strGet he1) (by assumption) | exact minus_0 (strGet he1) (by assumption) | exact minus_n (by assumption)) (by assumption)]) (show (false) = ((rd4 s.data.toList).2) from by rw [rd4_no (by first | exact minus_1 (strGet he1) (by assumption) | exact minus_0 (strGet he1) (by assumption) | exact minus_n (by assumption)) (by assumption)]) (KF.n [])))
 have h17i := inR_iff.1 h17
 have hin := inR_iff.1 h17
 refine AW.skip ?_
 refine AW.q 1 ?_
 refine AW.seq ?_
 refine AW.q 2 ?_
 refine AW.block ?_
 refine AW.loopW (fun (x : Nat × Int) => match x with | (k, x) => Go.Sy.mk [.str s, .un, .un, .un, .int .i64 0, .int .i64 x, .int .i64 (k : Int)] []) (fun (x : Nat × Int) => match x with | (k, x) => (0 ≤ k ∧ k ≤ s.size) ∧ (0 ≤ x ∧ x < 10 ^ (k - 0)) ∧ dgo 0 (s.data.toList.drop 0) = dgo x (s.data.toList.drop k)) (fun (x : Nat × Int) => match x with | (k, x) => s.size - k) (0, 0) ⟨by omega, by simp, rfl⟩ (Sub.o [] [true, false, false, false, true, true, true]) ?_
 rintro ⟨k, x⟩ ⟨hk, hx, hR⟩
 have hpw := pow_four (i := k - 0) (by omega)
 refine AW.seq ?_
 refine AW.q 4 ?_
 refine AW.cD ((k : Int) < (s.size : Int)) (fun h18 => ?_) (fun h18 => ?_)
 · refine AW.skip ?_
   refine AW.seq ?_
   refine AW.block ?_
   refine AW.seq ?_
   refine AW.r ?_
   refine At.a 2 ?_
   refine Exists.elim (show ∃ e, s.data[k]? = some e from ⟨_, Array.getElem?_eq_getElem (by show _ < s.size; omega)⟩) fun e4 he4 => ?_
   have hbe4 := UInt8.toNat_lt e4
   have hle4 := strGet he4
   refine At.idxStr (t := 9) (d := 30) (x := .tmp 28) (y := .tmp 29) (s := s) (kd := .i64) (i := (k : Int)) e4 (by kernel_rfl) (by kernel_rfl) (by kernel_rfl) (by kernel_rfl) (by omega) he4 ?_
   refine At.a 2 ?_
   by_cases h19 : (e4.toNat : Int) < 48
   · refine At.sB 32 _ _ (sayT h19) ?_
     refine At.z 5 ?_
     refine AW.cond true (by kernel_rfl) (fun _ => ?_) (fun h => by cases h)
     refine AW.q 2 ?_
     exact AW.ret (rf (k2 (K_spec_l12Read _ s) (show (0) = ((rd4 s.data.toList).1) from by exfalso; omega) (show (false) = ((rd4 s.data.toList).2) from by exfalso; omega) (KF.n [])))
   refine At.sB 32 _ _ (sayF h19) ?_
   refine At.a 2 ?_
   refine At.idxStr (t := 9) (d := 35) (x := .tmp 33) (y := .tmp 34) (s := s) (kd := .i64) (i := (k : Int)) e4 (by kernel_rfl) (by kernel_rfl) (by kernel_rfl) (by kernel_rfl) (by omega) he4 ?_
   refine At.z 2 ?_
   refine AW.cD ((e4.toNat : Int) > 57) (fun h20 => ?_) (fun h20 => ?_)
   · refine AW.q 2 ?_
     exact AW.ret (rf (k2 (K_spec_l12Read _ s) (show (0) = ((rd4 s.data.toList).1) from by exfalso; omega) (show (false) = ((rd4 s.data.toList).2) from by exfalso; omega) (KF.n [])))
   refine AW.skip ?_
   refine AW.g ?_
   refine At.a 2 ?_
   refine At.sI 39 (10 * x) (by omega) ?_
   refine At.a 2 ?_
   refine At.idxStr (t := 9) (d := 42) (x := .tmp 40) (y := .tmp 41) (s := s) (kd := .i64) (i := (k : Int)) e4 (by kernel_rfl) (by kernel_rfl) (by kernel_rfl) (by kernel_rfl) (by omega) he4 ?_
   refine At.conv (s := 5) (t := 3) (d := 43) (x := .tmp 42) (kd := .u8) (kd' := .i64) (a := (e4.toNat : Int)) (.int .i64 (e4.toNat : Int)) (by kernel_rfl) (by kernel_rfl) (by kernel_rfl) (by kernel_rfl) (sayI _ (by have := UInt8.toNat_lt e4; omega)) ?_
   refine At.a 1 ?_
   refine At.sI 44 ((10 * x) + (e4.toNat : Int)) (by omega) ?_
   refine At.a 1 ?_
   refine At.sI 45 (((10 * x) + (e4.toNat : Int)) - 48) (by omega) ?_
   refine At.z 1 ?_
   refine AW.g ?_
   refine At.a 2 ?_
   refine At.sI 27 ((k : Int) + 1) (by omega) ?_
   refine At.z 1 ?_
   exact ⟨(k + 1, (((10 * x) + (e4.toNat : Int)) - 48)), ⟨by omega, by rw [show k + 1 - 0 = (k - 0) + 1 from by omega, Int.pow_succ]; omega, by rw [hR]; exact dgo_step (by assumption) (by omega)⟩, (by simp only; omega), Sub.o [] [true, false, false, false, true, true, true]⟩
 refine AW.exit ?_
 refine AW.seq ?_
 refine AW.q 2 ?_
 refine AW.cE (0 : Int) (1 : Int) (fun h21 => ?_) (fun h21 => ?_)
 · refine AW.g ?_
   refine At.a 2 ?_
   refine At.sI 49 (0 - x) (by omega) ?_
   refine At.z 1 ?_
   refine AW.seq ?_
   refine AW.r ?_
   refine At.a 1 ?_
   refine At.c (spec_l12Num_spec  (0 - x) (by omega)) Tryd.call26 true [] [] [] trivial ?_
   refine At.z 2 ?_
   refine AW.cNE ((strOf (Lib.itoa (0 - x))).toList) (s.toList) (fun h22 => ?_) (fun h22 => ?_)
   · refine AW.q 2 ?_
     exact AW.ret (rf (k2 (K_spec_l12Read _ s) (show (0) = ((rd4 s.data.toList).1) from by exfalso; omega) (show (false) = ((rd4 s.data.toList).2) from by exfalso; omega) (KF.n [])))
   refine AW.skip ?_
   refine AW.q 3 ?_
   exact AW.ret (rf (k2 (K_spec_l12Read _ s) (show (0 - x) = ((rd4 s.data.toList).1) from by exfalso; omega) (show (true) = ((rd4 s.data.toList).2) from by exfalso; omega) (KF.n [])))
 refine AW.skip ?_
 refine AW.seq ?_
 refine AW.r ?_
 refine At.a 1 ?_
 refine At.c (spec_l12Num_spec  x (by omega)) Tryd.call26 true [] [] [] trivial ?_
 refine At.z 2 ?_
 refine AW.cNE ((strOf (Lib.itoa x)).toList) (s.toList) (fun h23 => ?_) (fun h23 => ?_)
 · refine AW.q 2 ?_
   exact AW.ret (rf (k2 (K_spec_l12Read _ s) (show (0) = ((rd4 s.data.toList).1) from by exfalso; omega) (show (false) = ((rd4 s.data.toList).2) from by exfalso; omega) (KF.n [])))
 refine AW.skip ?_
 refine AW.q 3 ?_
 exact AW.ret (rf (k2 (K_spec_l12Read _ s) (show (x) = ((rd4 s.data.toList).1) from by exfalso; omega) (show (true) = ((rd4 s.data.toList).2) from by exfalso; omega) (KF.n [])))
def K_spec_OnRead (rs : List ResultVar) (s : ByteArray) (w0_ : On) (w1_ : Bool) : Exit → Sg → Prop := KF Tryd.prog 0 rs (.tup [.agg [.int .i64 w0_.kind, .int .i64 w0_.day, .int .i64 w0_.week], .bool w1_]) []
theorem spec_OnRead_spec  (s : ByteArray) (hs : s.size ≤ 1048576) : FnSpec Tryd.prog 5 [.str s] [] (.tup [.agg [.int .i64 (((onRS s.data.toList).1).kind), .int .i64 (((onRS s.data.toList).1).day), .int .i64 (((onRS s.data.toList).1).week)], .bool ((onRS s.data.toList).2)]) [] := by
 refine FnSpec.of 70 Tryd.func5 rfl Tryd.ntmps5 (by simp) (AW.weakK ?_)
 refine AW.q 2 ?_
 refine AW.q 3 ?_
 refine AW.q 1 ?_
 refine AW.seq ?_
 refine AW.block ?_
 refine AW.r ?_
 refine At.a 4 ?_
 by_cases h1 : (s.size : Int) > 4
 · refine At.sB 19 _ _ (sayT h1) ?_
   refine At.a 1 ?_
   refine At.slStr (t := 9) (d := 21) (x := .tmp 20) (lx := none) (hx := some (.const (.int .i64 4))) (s := s) (vl := .un) (vh := .int .i64 4) 0 4 (by kernel_rfl) (by kernel_rfl) (by kernel_rfl) (by kernel_rfl) (.inl ⟨rfl, rfl⟩) (.inr ⟨_, _, rfl, rfl⟩) (by omega) (by omega) ?_
   refine At.z 3 ?_
   refine AW.cE ((s.extract 0 4).toList) ((⟨#[108, 97, 115, 116]⟩ : ByteArray).toList) (fun h2 => ?_) (fun h2 => ?_)
   · refine AW.q 2 ?_
     refine AW.g ?_
     refine At.a 1 ?_
     refine At.slStr (t := 9) (d := 27) (x := .tmp 26) (lx := some (.const (.int .i64 4))) (hx := none) (s := s) (vl := .int .i64 4) (vh := .un) 4 s.size (by kernel_rfl) (by kernel_rfl) (by kernel_rfl) (by kernel_rfl) (.inr ⟨_, _, rfl, rfl⟩) (.inl ⟨rfl, rfl⟩) (by omega) (by omega) ?_
     refine At.c (spec_l12Read_spec  (s.extract 4 s.size) (by rw [ByteArray.size_extract]; omega)) Tryd.call14 true [] [] [] trivial ?_
     refine At.z 6 ?_
     refine AW.seq ?_
     refine AW.r ?_
     refine At.a 3 ?_
     by_cases h3 : ((rd4 (s.extract 4 s.size).data.toList).2) = true
     · refine At.sB 63 (!((rd4 (s.extract 4 s.size).data.toList).2)) false (sayNF (sayB h3)) ?_
       refine At.a 1 ?_
       refine At.c (spec_OnOk_spec  (⟨2, 0, (rd4 (s.extract 4 s.size).data.toList).1⟩ : On) ) Tryd.call11 true [] [] [] trivial ?_
       refine At.z 2 ?_
       refine AW.cNB (onOk (⟨2, 0, (rd4 (s.extract 4 s.size).data.toList).1⟩ : On)) (fun h4 => ?_) (fun h4 => ?_)
       · refine AW.q 3 ?_
         exact AW.ret (rf (k2 (K_spec_OnRead _ s) (show ((⟨0, 0, 0⟩ : On)) = ((onRS s.data.toList).1) from by rw [rs_no (by first | exact raw_1 (by assumption) (by assumption) | exact raw_2 (by rintro ⟨q1, q2⟩; first | exact absurd q1 (by assumption) | exact absurd q2 (by assumption)) (by assumption) (by assumption) | exact raw_3 (by rintro ⟨q1, q2⟩; first | exact absurd q1 (by assumption) | exact absurd q2 (by assumption)) (by rintro ⟨q1, q2⟩; first | exact absurd q1 (by assumption) | exact absurd q2 (by assumption))) (by assumption)]; first | done | rfl) (show (false) = ((onRS s.data.toList).2) from by rw [rs_no (by first | exact raw_1 (by assumption) (by assumption) | exact raw_2 (by rintro ⟨q1, q2⟩; first | exact absurd q1 (by assumption) | exact absurd q2 (by assumption)) (by assumption) (by assumption) | exact raw_3 (by rintro ⟨q1, q2⟩; first | exact absurd q1 (by assumption) | exact absurd q2 (by assumption)) (by rintro ⟨q1, q2⟩; first | exact absurd q1 (by assumption) | exact absurd q2 (by assumption))) (by assumption)]; first | done | rfl) (KF.n [])))
       refine AW.skip ?_
       refine AW.q 3 ?_
       exact AW.ret (rf (k2 (K_spec_OnRead _ s) (show ((⟨2, 0, (rd4 (s.extract 4 s.size).data.toList).1⟩ : On)) = ((onRS s.data.toList).1) from by rw [rs_ok (by first | exact raw_1 (by assumption) (by assumption) | exact raw_2 (by rintro ⟨q1, q2⟩; first | exact absurd q1 (by assumption) | exact absurd q2 (by assumption)) (by assumption) (by assumption) | exact raw_3 (by rintro ⟨q1, q2⟩; first | exact absurd q1 (by assumption) | exact absurd q2 (by assumption)) (by rintro ⟨q1, q2⟩; first | exact absurd q1 (by assumption) | exact absurd q2 (by assumption))) (by simp only [*]; first | done | rfl | decide) (by assumption)]) (show (true) = ((onRS s.data.toList).2) from by rw [rs_ok (by first | exact raw_1 (by assumption) (by assumption) | exact raw_2 (by rintro ⟨q1, q2⟩; first | exact absurd q1 (by assumption) | exact absurd q2 (by assumption)) (by assumption) (by assumption) | exact raw_3 (by rintro ⟨q1, q2⟩; first | exact absurd q1 (by assumption) | exact absurd q2 (by assumption)) (by rintro ⟨q1, q2⟩; first | exact absurd q1 (by assumption) | exact absurd q2 (by assumption))) (by simp only [*]; first | done | rfl | decide) (by assumption)]) (KF.n [])))
     refine At.sB 63 (!((rd4 (s.extract 4 s.size).data.toList).2)) true (sayNT (sayB (Bool.eq_false_iff.2 h3))) ?_
     replace h3 := Bool.eq_false_iff.2 h3
     refine At.z 4 ?_
     refine AW.cond true (by kernel_rfl) (fun _ => ?_) (fun h => by cases h)
     refine AW.q 3 ?_
     exact AW.ret (rf (k2 (K_spec_OnRead _ s) (show ((⟨0, 0, 0⟩ : On)) = ((onRS s.data.toList).1) from by rw [rs_bad (by first | exact raw_1 (by assumption) (by assumption) | exact raw_2 (by rintro ⟨q1, q2⟩; first | exact absurd q1 (by assumption) | exact absurd q2 (by assumption)) (by assumption) (by assumption) | exact raw_3 (by rintro ⟨q1, q2⟩; first | exact absurd q1 (by assumption) | exact absurd q2 (by assumption)) (by rintro ⟨q1, q2⟩; first | exact absurd q1 (by assumption) | exact absurd q2 (by assumption))) (by simp only [*]; first | done | rfl | decide)]; first | done | rfl) (show (false) = ((onRS s.data.toList).2) from by rw [rs_bad (by first | exact raw_1 (by assumption) (by assumption) | exact raw_2 (by rintro ⟨q1, q2⟩; first | exact absurd q1 (by assumption) | exact absurd q2 (by assumption)) (by assumption) (by assumption) | exact raw_3 (by rintro ⟨q1, q2⟩; first | exact absurd q1 (by assumption) | exact absurd q2 (by assumption)) (by rintro ⟨q1, q2⟩; first | exact absurd q1 (by assumption) | exact absurd q2 (by assumption))) (by simp only [*]; first | done | rfl | decide)]; first | done | rfl) (KF.n [])))
   refine AW.r ?_
   refine At.a 4 ?_
   by_cases h5 : (s.size : Int) > 3
   · refine At.sB 36 _ _ (sayT h5) ?_
     refine At.a 1 ?_
     refine At.slStr (t := 9) (d := 38) (x := .tmp 37) (lx := some (.const (.int .i64 1))) (hx := some (.const (.int .i64 3))) (s := s) (vl := .int .i64 1) (vh := .int .i64 3) 1 3 (by kernel_rfl) (by kernel_rfl) (by kernel_rfl) (by kernel_rfl) (.inr ⟨_, _, rfl, rfl⟩) (.inr ⟨_, _, rfl, rfl⟩) (by omega) (by omega) ?_
     refine At.z 3 ?_
     refine AW.cE ((s.extract 1 3).toList) ((⟨#[62, 61]⟩ : ByteArray).toList) (fun h6 => ?_) (fun h6 => ?_)
     · refine AW.q 2 ?_
       refine AW.r ?_
       refine At.a 1 ?_
       refine At.slStr (t := 9) (d := 44) (x := .tmp 43) (lx := none) (hx := some (.const (.int .i64 1))) (s := s) (vl := .un) (vh := .int .i64 1) 0 1 (by kernel_rfl) (by kernel_rfl) (by kernel_rfl) (by kernel_rfl) (.inl ⟨rfl, rfl⟩) (.inr ⟨_, _, rfl, rfl⟩) (by omega) (by omega) ?_
       refine At.c (spec_l12Read_spec  (s.extract 0 1) (by rw [ByteArray.size_extract]; omega)) Tryd.call14 true [] [] [] trivial ?_
       refine At.z 6 ?_
       refine AW.r ?_
       refine At.a 1 ?_
       refine At.slStr (t := 9) (d := 51) (x := .tmp 50) (lx := some (.const (.int .i64 3))) (hx := none) (s := s) (vl := .int .i64 3) (vh := .un) 3 s.size (by kernel_rfl) (by kernel_rfl) (by kernel_rfl) (by kernel_rfl) (.inr ⟨_, _, rfl, rfl⟩) (.inl ⟨rfl, rfl⟩) (by omega) (by omega) ?_
       refine At.c (spec_l12Read_spec  (s.extract 3 s.size) (by rw [ByteArray.size_extract]; omega)) Tryd.call14 true [] [] [] trivial ?_
       refine At.z 5 ?_
       refine AW.q 3 ?_
       refine AW.g ?_
       refine At.a 2 ?_
       by_cases h7 : ((rd4 (s.extract 0 1).data.toList).2) = true
       · refine At.sB 58 ((rd4 (s.extract 0 1).data.toList).2) true (sayB h7) ?_
         refine At.z 3 ?_
         refine AW.seq ?_
         refine AW.r ?_
         refine At.a 3 ?_
         by_cases h8 : ((rd4 (s.extract 3 s.size).data.toList).2) = true
         · refine At.sB 63 (!((rd4 (s.extract 3 s.size).data.toList).2)) false (sayNF (sayB h8)) ?_
           refine At.a 1 ?_
           refine At.c (spec_OnOk_spec  (⟨3, (rd4 (s.extract 3 s.size).data.toList).1, (rd4 (s.extract 0 1).data.toList).1⟩ : On) ) Tryd.call11 true [] [] [] trivial ?_
           refine At.z 2 ?_
           refine AW.cNB (onOk (⟨3, (rd4 (s.extract 3 s.size).data.toList).1, (rd4 (s.extract 0 1).data.toList).1⟩ : On)) (fun h9 => ?_) (fun h9 => ?_)
           · refine AW.q 3 ?_
             exact AW.ret (rf (k2 (K_spec_OnRead _ s) (show ((⟨0, 0, 0⟩ : On)) = ((onRS s.data.toList).1) from by rw [rs_no (by first | exact raw_1 (by assumption) (by assumption) | exact raw_2 (by rintro ⟨q1, q2⟩; first | exact absurd q1 (by assumption) | exact absurd q2 (by assumption)) (by assumption) (by assumption) | exact raw_3 (by rintro ⟨q1, q2⟩; first | exact absurd q1 (by assumption) | exact absurd q2 (by assumption)) (by rintro ⟨q1, q2⟩; first | exact absurd q1 (by assumption) | exact absurd q2 (by assumption))) (by assumption)]; first | done | rfl) (show (false) = ((onRS s.data.toList).2) from by rw [rs_no (by first | exact raw_1 (by assumption) (by assumption) | exact raw_2 (by rintro ⟨q1, q2⟩; first | exact absurd q1 (by assumption) | exact absurd q2 (by assumption)) (by assumption) (by assumption) | exact raw_3 (by rintro ⟨q1, q2⟩; first | exact absurd q1 (by assumption) | exact absurd q2 (by assumption)) (by rintro ⟨q1, q2⟩; first | exact absurd q1 (by assumption) | exact absurd q2 (by assumption))) (by assumption)]; first | done | rfl) (KF.n [])))
           refine AW.skip ?_
           refine AW.q 3 ?_
           exact AW.ret (rf (k2 (K_spec_OnRead _ s) (show ((⟨3, (rd4 (s.extract 3 s.size).data.toList).1, (rd4 (s.extract 0 1).data.toList).1⟩ : On)) = ((onRS s.data.toList).1) from by rw [rs_ok (by first | exact raw_1 (by assumption) (by assumption) | exact raw_2 (by rintro ⟨q1, q2⟩; first | exact absurd q1 (by assumption) | exact absurd q2 (by assumption)) (by assumption) (by assumption) | exact raw_3 (by rintro ⟨q1, q2⟩; first | exact absurd q1 (by assumption) | exact absurd q2 (by assumption)) (by rintro ⟨q1, q2⟩; first | exact absurd q1 (by assumption) | exact absurd q2 (by assumption))) (by simp only [*]; first | done | rfl | decide) (by assumption)]) (show (true) = ((onRS s.data.toList).2) from by rw [rs_ok (by first | exact raw_1 (by assumption) (by assumption) | exact raw_2 (by rintro ⟨q1, q2⟩; first | exact absurd q1 (by assumption) | exact absurd q2 (by assumption)) (by assumption) (by assumption) | exact raw_3 (by rintro ⟨q1, q2⟩; first | exact absurd q1 (by assumption) | exact absurd q2 (by assumption)) (by rintro ⟨q1, q2⟩; first | exact absurd q1 (by assumption) | exact absurd q2 (by assumption))) (by simp only [*]; first | done | rfl | decide) (by assumption)]) (KF.n [])))
         refine At.sB 63 (!((rd4 (s.extract 3 s.size).data.toList).2)) true (sayNT (sayB (Bool.eq_false_iff.2 h8))) ?_
         replace h8 := Bool.eq_false_iff.2 h8
         refine At.z 4 ?_
         refine AW.cond true (by kernel_rfl) (fun _ => ?_) (fun h => by cases h)
         refine AW.q 3 ?_
         exact AW.ret (rf (k2 (K_spec_OnRead _ s) (show ((⟨0, 0, 0⟩ : On)) = ((onRS s.data.toList).1) from by rw [rs_bad (by first | exact raw_1 (by assumption) (by assumption) | exact raw_2 (by rintro ⟨q1, q2⟩; first | exact absurd q1 (by assumption) | exact absurd q2 (by assumption)) (by assumption) (by assumption) | exact raw_3 (by rintro ⟨q1, q2⟩; first | exact absurd q1 (by assumption) | exact absurd q2 (by assumption)) (by rintro ⟨q1, q2⟩; first | exact absurd q1 (by assumption) | exact absurd q2 (by assumption))) (by simp only [*]; first | done | rfl | decide)]; first | done | rfl) (show (false) = ((onRS s.data.toList).2) from by rw [rs_bad (by first | exact raw_1 (by assumption) (by assumption) | exact raw_2 (by rintro ⟨q1, q2⟩; first | exact absurd q1 (by assumption) | exact absurd q2 (by assumption)) (by assumption) (by assumption) | exact raw_3 (by rintro ⟨q1, q2⟩; first | exact absurd q1 (by assumption) | exact absurd q2 (by assumption)) (by rintro ⟨q1, q2⟩; first | exact absurd q1 (by assumption) | exact absurd q2 (by assumption))) (by simp only [*]; first | done | rfl | decide)]; first | done | rfl) (KF.n [])))
       refine At.sB 58 ((rd4 (s.extract 0 1).data.toList).2) false (sayB (Bool.eq_false_iff.2 h7)) ?_
       replace h7 := Bool.eq_false_iff.2 h7
       refine At.z 3 ?_
       refine AW.seq ?_
       refine AW.q 7 ?_
       refine AW.cond true (by kernel_rfl) (fun _ => ?_) (fun h => by cases h)
       refine AW.q 3 ?_
       exact AW.ret (rf (k2 (K_spec_OnRead _ s) (show ((⟨0, 0, 0⟩ : On)) = ((onRS s.data.toList).1) from by rw [rs_bad (by first | exact raw_1 (by assumption) (by assumption) | exact raw_2 (by rintro ⟨q1, q2⟩; first | exact absurd q1 (by assumption) | exact absurd q2 (by assumption)) (by assumption) (by assumption) | exact raw_3 (by rintro ⟨q1, q2⟩; first | exact absurd q1 (by assumption) | exact absurd q2 (by assumption)) (by rintro ⟨q1, q2⟩; first | exact absurd q1 (by assumption) | exact absurd q2 (by assumption))) (by simp only [*]; first | done | rfl | decide)]; first | done | rfl) (show (false) = ((onRS s.data.toList).2) from by rw [rs_bad (by first | exact raw_1 (by assumption) (by assumption) | exact raw_2 (by rintro ⟨q1, q2⟩; first | exact absurd q1 (by assumption) | exact absurd q2 (by assumption)) (by assumption) (by assumption) | exact raw_3 (by rintro ⟨q1, q2⟩; first | exact absurd q1 (by assumption) | exact absurd q2 (by assumption)) (by rintro ⟨q1, q2⟩; first | exact absurd q1 (by assumption) | exact absurd q2 (by assumption))) (by simp only [*]; first | done | rfl | decide)]; first | done | rfl) (KF.n [])))
     refine AW.g ?_
     refine At.a 1 ?_
     refine At.c (spec_l12Read_spec  s (by assumption)) Tryd.call14 true [] [] [] trivial ?_
     refine At.z 6 ?_
     refine AW.seq ?_
     refine AW.r ?_
     refine At.a 3 ?_
     by_cases h10 : ((rd4 s.data.toList).2) = true
     · refine At.sB 63 (!((rd4 s.data.toList).2)) false (sayNF (sayB h10)) ?_
       refine At.a 1 ?_
       refine At.c (spec_OnOk_spec  (⟨1, (rd4 s.data.toList).1, 0⟩ : On) ) Tryd.call11 true [] [] [] trivial ?_
       refine At.z 2 ?_
       refine AW.cNB (onOk (⟨1, (rd4 s.data.toList).1, 0⟩ : On)) (fun h11 => ?_) (fun h11 => ?_)
       · refine AW.q 3 ?_
         exact AW.ret (rf (k2 (K_spec_OnRead _ s) (show ((⟨0, 0, 0⟩ : On)) = ((onRS s.data.toList).1) from by rw [rs_no (by first | exact raw_1 (by assumption) (by assumption) | exact raw_2 (by rintro ⟨q1, q2⟩; first | exact absurd q1 (by assumption) | exact absurd q2 (by assumption)) (by assumption) (by assumption) | exact raw_3 (by rintro ⟨q1, q2⟩; first | exact absurd q1 (by assumption) | exact absurd q2 (by assumption)) (by rintro ⟨q1, q2⟩; first | exact absurd q1 (by assumption) | exact absurd q2 (by assumption))) (by assumption)]; first | done | rfl) (show (false) = ((onRS s.data.toList).2) from by rw [rs_no (by first | exact raw_1 (by assumption) (by assumption) | exact raw_2 (by rintro ⟨q1, q2⟩; first | exact absurd q1 (by assumption) | exact absurd q2 (by assumption)) (by assumption) (by assumption) | exact raw_3 (by rintro ⟨q1, q2⟩; first | exact absurd q1 (by assumption) | exact absurd q2 (by assumption)) (by rintro ⟨q1, q2⟩; first | exact absurd q1 (by assumption) | exact absurd q2 (by assumption))) (by assumption)]; first | done | rfl) (KF.n [])))
       refine AW.skip ?_
       refine AW.q 3 ?_
       exact AW.ret (rf (k2 (K_spec_OnRead _ s) (show ((⟨1, (rd4 s.data.toList).1, 0⟩ : On)) = ((onRS s.data.toList).1) from by rw [rs_ok (by first | exact raw_1 (by assumption) (by assumption) | exact raw_2 (by rintro ⟨q1, q2⟩; first | exact absurd q1 (by assumption) | exact absurd q2 (by assumption)) (by assumption) (by assumption) | exact raw_3 (by rintro ⟨q1, q2⟩; first | exact absurd q1 (by assumption) | exact absurd q2 (by assumption)) (by rintro ⟨q1, q2⟩; first | exact absurd q1 (by assumption) | exact absurd q2 (by assumption))) (by simp only [*]; first | done | rfl | decide) (by assumption)]) (show (true) = ((onRS s.data.toList).2) from by rw [rs_ok (by first | exact raw_1 (by assumption) (by assumption) | exact raw_2 (by rintro ⟨q1, q2⟩; first | exact absurd q1 (by assumption) | exact absurd q2 (by assumption)) (by assumption) (by assumption) | exact raw_3 (by rintro ⟨q1, q2⟩; first | exact absurd q1 (by assumption) | exact absurd q2 (by assumption)) (by rintro ⟨q1, q2⟩; first | exact absurd q1 (by assumption) | exact absurd q2 (by assumption))) (by simp only [*]; first | done | rfl | decide) (by assumption)]) (KF.n [])))
     refine At.sB 63 (!((rd4 s.data.toList).2)) true (sayNT (sayB (Bool.eq_false_iff.2 h10))) ?_
     replace h10 := Bool.eq_false_iff.2 h10
     refine At.z 4 ?_
     refine AW.cond true (by kernel_rfl) (fun _ => ?_) (fun h => by cases h)
     refine AW.q 3 ?_
     exact AW.ret (rf (k2 (K_spec_OnRead _ s) (show ((⟨0, 0, 0⟩ : On)) = ((onRS s.data.toList).1) from by rw [rs_bad (by first | exact raw_1 (by assumption) (by assumption) | exact raw_2 (by rintro ⟨q1, q2⟩; first | exact absurd q1 (by assumption) | exact absurd q2 (by assumption)) (by assumption) (by assumption) | exact raw_3 (by rintro ⟨q1, q2⟩; first | exact absurd q1 (by assumption) | exact absurd q2 (by assumption)) (by rintro ⟨q1, q2⟩; first | exact absurd q1 (by assumption) | exact absurd q2 (by assumption))) (by simp only [*]; first | done | rfl | decide)]; first | done | rfl) (show (false) = ((onRS s.data.toList).2) from by rw [rs_bad (by first | exact raw_1 (by assumption) (by assumption) | exact raw_2 (by rintro ⟨q1, q2⟩; first | exact absurd q1 (by assumption) | exact absurd q2 (by assumption)) (by assumption) (by assumption) | exact raw_3 (by rintro ⟨q1, q2⟩; first | exact absurd q1 (by assumption) | exact absurd q2 (by assumption)) (by rintro ⟨q1, q2⟩; first | exact absurd q1 (by assumption) | exact absurd q2 (by assumption))) (by simp only [*]; first | done | rfl | decide)]; first | done | rfl) (KF.n [])))
   refine At.sB 36 _ _ (sayF h5) ?_
   refine At.z 5 ?_
   refine AW.cond false (by kernel_rfl) (fun h => by cases h) (fun _ => ?_)
   refine AW.g ?_
   refine At.a 1 ?_
   refine At.c (spec_l12Read_spec  s (by assumption)) Tryd.call14 true [] [] [] trivial ?_
   refine At.z 6 ?_
   refine AW.seq ?_
   refine AW.r ?_
   refine At.a 3 ?_
   by_cases h12 : ((rd4 s.data.toList).2) = true
   · refine At.sB 63 (!((rd4 s.data.toList).2)) false (sayNF (sayB h12)) ?_
     refine At.a 1 ?_
     refine At.c (spec_OnOk_spec  (⟨1, (rd4 s.data.toList).1, 0⟩ : On) ) Tryd.call11 true [] [] [] trivial ?_
     refine At.z 2 ?_
     refine AW.cNB (onOk (⟨1, (rd4 s.data.toList).1, 0⟩ : On)) (fun h13 => ?_) (fun h13 => ?_)
     · refine AW.q 3 ?_
       exact AW.ret (rf (k2 (K_spec_OnRead _ s) (show ((⟨0, 0, 0⟩ : On)) = ((onRS s.data.toList).1) from by rw [rs_no (by first | exact raw_1 (by assumption) (by assumption) | exact raw_2 (by rintro ⟨q1, q2⟩; first | exact absurd q1 (by assumption) | exact absurd q2 (by assumption)) (by assumption) (by assumption) | exact raw_3 (by rintro ⟨q1, q2⟩; first | exact absurd q1 (by assumption) | exact absurd q2 (by assumption)) (by rintro ⟨q1, q2⟩; first | exact absurd q1 (by assumption) | exact absurd q2 (by assumption))) (by assumption)]; first | done | rfl) (show (false) = ((onRS s.data.toList).2) from by rw [rs_no (by first | exact raw_1 (by assumption) (by assumption) | exact raw_2 (by rintro ⟨q1, q2⟩; first | exact absurd q1 (by assumption) | exact absurd q2 (by assumption)) (by assumption) (by assumption) | exact raw_3 (by rintro ⟨q1, q2⟩; first | exact absurd q1 (by assumption) | exact absurd q2 (by assumption)) (by rintro ⟨q1, q2⟩; first | exact absurd q1 (by assumption) | exact absurd q2 (by assumption))) (by assumption)]; first | done | rfl) (KF.n [])))
     refine AW.skip ?_
     refine AW.q 3 ?_
     exact AW.ret (rf (k2 (K_spec_OnRead _ s) (show ((⟨1, (rd4 s.data.toList).1, 0⟩ : On)) = ((onRS s.data.toList).1) from by rw [rs_ok (by first | exact raw_1 (by assumption) (by assumption) | exact raw_2 (by rintro ⟨q1, q2⟩; first | exact absurd q1 (by assumption) | exact absurd q2 (by assumption)) (by assumption) (by assumption) | exact raw_3 (by rintro ⟨q1, q2⟩; first | exact absurd q1 (by assumption) | exact absurd q2 (by assumption)) (by rintro ⟨q1, q2⟩; first | exact absurd q1 (by assumption) | exact absurd q2 (by assumption))) (by simp only [*]; first | done | rfl | decide) (by assumption)]) (show (true) = ((onRS s.data.toList).2) from by rw [rs_ok (by first | exact raw_1 (by assumption) (by assumption) | exact raw_2 (by rintro ⟨q1, q2⟩; first | exact absurd q1 (by assumption) | exact absurd q2 (by assumption)) (by assumption) (by assumption) | exact raw_3 (by rintro ⟨q1, q2⟩; first | exact absurd q1 (by assumption) | exact absurd q2 (by assumption)) (by rintro ⟨q1, q2⟩; first | exact absurd q1 (by assumption) | exact absurd q2 (by assumption))) (by simp only [*]; first | done | rfl | decide) (by assumption)]) (KF.n [])))
   refine At.sB 63 (!((rd4 s.data.toList).2)) true (sayNT (sayB (Bool.eq_false_iff.2 h12))) ?_
   replace h12 := Bool.eq_false_iff.2 h12
   refine At.z 4 ?_
   refine AW.cond true (by kernel_rfl) (fun _ => ?_) (fun h => by cases h)
   refine AW.q 3 ?_
   exact AW.ret (rf (k2 (K_spec_OnRead _ s) (show ((⟨0, 0, 0⟩ : On)) = ((onRS s.data.toList).1) from by rw [rs_bad (by first | exact raw_1 (by assumption) (by assumption) | exact raw_2 (by rintro ⟨q1, q2⟩; first | exact absurd q1 (by assumption) | exact absurd q2 (by assumption)) (by assumption) (by assumption) | exact raw_3 (by rintro ⟨q1, q2⟩; first | exact absurd q1 (by assumption) | exact absurd q2 (by assumption)) (by rintro ⟨q1, q2⟩; first | exact absurd q1 (by assumption) | exact absurd q2 (by assumption))) (by simp only [*]; first | done | rfl | decide)]; first | done | rfl) (show (false) = ((onRS s.data.toList).2) from by rw [rs_bad (by first | exact raw_1 (by assumption) (by assumption) | exact raw_2 (by rintro ⟨q1, q2⟩; first | exact absurd q1 (by assumption) | exact absurd q2 (by assumption)) (by assumption) (by assumption) | exact raw_3 (by rintro ⟨q1, q2⟩; first | exact absurd q1 (by assumption) | exact absurd q2 (by assumption)) (by rintro ⟨q1, q2⟩; first | exact absurd q1 (by assumption) | exact absurd q2 (by assumption))) (by simp only [*]; first | done | rfl | decide)]; first | done | rfl) (KF.n [])))
 refine At.sB 19 _ _ (sayF h1) ?_
 refine At.z 5 ?_
 refine AW.cond false (by kernel_rfl) (fun h => by cases h) (fun _ => ?_)
 refine AW.r ?_
 refine At.a 4 ?_
 by_cases h14 : (s.size : Int) > 3
 · refine At.sB 36 _ _ (sayT h14) ?_
   refine At.a 1 ?_
   refine At.slStr (t := 9) (d := 38) (x := .tmp 37) (lx := some (.const (.int .i64 1))) (hx := some (.const (.int .i64 3))) (s := s) (vl := .int .i64 1) (vh := .int .i64 3) 1 3 (by kernel_rfl) (by kernel_rfl) (by kernel_rfl) (by kernel_rfl) (.inr ⟨_, _, rfl, rfl⟩) (.inr ⟨_, _, rfl, rfl⟩) (by omega) (by omega) ?_
   refine At.z 3 ?_
   refine AW.cE ((s.extract 1 3).toList) ((⟨#[62, 61]⟩ : ByteArray).toList) (fun h15 => ?_) (fun h15 => ?_)
   · refine AW.q 2 ?_
     refine AW.r ?_
     refine At.a 1 ?_
     refine At.slStr (t := 9) (d := 44) (x := .tmp 43) (lx := none) (hx := some (.const (.int .i64 1))) (s := s) (vl := .un) (vh := .int .i64 1) 0 1 (by kernel_rfl) (by kernel_rfl) (by kernel_rfl) (by kernel_rfl) (.inl ⟨rfl, rfl⟩) (.inr ⟨_, _, rfl, rfl⟩) (by omega) (by omega) ?_
     refine At.c (spec_l12Read_spec  (s.extract 0 1) (by rw [ByteArray.size_extract]; omega)) Tryd.call14 true [] [] [] trivial ?_
     refine At.z 6 ?_
     refine AW.r ?_
     refine At.a 1 ?_
     refine At.slStr (t := 9) (d := 51) (x := .tmp 50) (lx := some (.const (.int .i64 3))) (hx := none) (s := s) (vl := .int .i64 3) (vh := .un) 3 s.size (by kernel_rfl) (by kernel_rfl) (by kernel_rfl) (by kernel_rfl) (.inr ⟨_, _, rfl, rfl⟩) (.inl ⟨rfl, rfl⟩) (by omega) (by omega) ?_
     refine At.c (spec_l12Read_spec  (s.extract 3 s.size) (by rw [ByteArray.size_extract]; omega)) Tryd.call14 true [] [] [] trivial ?_
     refine At.z 5 ?_
     refine AW.q 3 ?_
     refine AW.g ?_
     refine At.a 2 ?_
     by_cases h16 : ((rd4 (s.extract 0 1).data.toList).2) = true
     · refine At.sB 58 ((rd4 (s.extract 0 1).data.toList).2) true (sayB h16) ?_
       refine At.z 3 ?_
       refine AW.seq ?_
       refine AW.r ?_
       refine At.a 3 ?_
       by_cases h17 : ((rd4 (s.extract 3 s.size).data.toList).2) = true
       · refine At.sB 63 (!((rd4 (s.extract 3 s.size).data.toList).2)) false (sayNF (sayB h17)) ?_
         refine At.a 1 ?_
         refine At.c (spec_OnOk_spec  (⟨3, (rd4 (s.extract 3 s.size).data.toList).1, (rd4 (s.extract 0 1).data.toList).1⟩ : On) ) Tryd.call11 true [] [] [] trivial ?_
         refine At.z 2 ?_
         refine AW.cNB (onOk (⟨3, (rd4 (s.extract 3 s.size).data.toList).1, (rd4 (s.extract 0 1).data.toList).1⟩ : On)) (fun h18 => ?_) (fun h18 => ?_)
         · refine AW.q 3 ?_
           exact AW.ret (rf (k2 (K_spec_OnRead _ s) (show ((⟨0, 0, 0⟩ : On)) = ((onRS s.data.toList).1) from by rw [rs_no (by first | exact raw_1 (by assumption) (by assumption) | exact raw_2 (by rintro ⟨q1, q2⟩; first | exact absurd q1 (by assumption) | exact absurd q2 (by assumption)) (by assumption) (by assumption) | exact raw_3 (by rintro ⟨q1, q2⟩; first | exact absurd q1 (by assumption) | exact absurd q2 (by assumption)) (by rintro ⟨q1, q2⟩; first | exact absurd q1 (by assumption) | exact absurd q2 (by assumption))) (by assumption)]; first | done | rfl) (show (false) = ((onRS s.data.toList).2) from by rw [rs_no (by first | exact raw_1 (by assumption) (by assumption) | exact raw_2 (by rintro ⟨q1, q2⟩; first | exact absurd q1 (by assumption) | exact absurd q2 (by assumption)) (by assumption) (by assumption) | exact raw_3 (by rintro ⟨q1, q2⟩; first | exact absurd q1 (by assumption) | exact absurd q2 (by assumption)) (by rintro ⟨q1, q2⟩; first | exact absurd q1 (by assumption) | exact absurd q2 (by assumption))) (by assumption)]; first | done | rfl) (KF.n [])))
         refine AW.skip ?_
         refine AW.q 3 ?_
         exact AW.ret (rf (k2 (K_spec_OnRead _ s) (show ((⟨3, (rd4 (s.extract 3 s.size).data.toList).1, (rd4 (s.extract 0 1).data.toList).1⟩ : On)) = ((onRS s.data.toList).1) from by rw [rs_ok (by first | exact raw_1 (by assumption) (by assumption) | exact raw_2 (by rintro ⟨q1, q2⟩; first | exact absurd q1 (by assumption) | exact absurd q2 (by assumption)) (by assumption) (by assumption) | exact raw_3 (by rintro ⟨q1, q2⟩; first | exact absurd q1 (by assumption) | exact absurd q2 (by assumption)) (by rintro ⟨q1, q2⟩; first | exact absurd q1 (by assumption) | exact absurd q2 (by assumption))) (by simp only [*]; first | done | rfl | decide) (by assumption)]) (show (true) = ((onRS s.data.toList).2) from by rw [rs_ok (by first | exact raw_1 (by assumption) (by assumption) | exact raw_2 (by rintro ⟨q1, q2⟩; first | exact absurd q1 (by assumption) | exact absurd q2 (by assumption)) (by assumption) (by assumption) | exact raw_3 (by rintro ⟨q1, q2⟩; first | exact absurd q1 (by assumption) | exact absurd q2 (by assumption)) (by rintro ⟨q1, q2⟩; first | exact absurd q1 (by assumption) | exact absurd q2 (by assumption))) (by simp only [*]; first | done | rfl | decide) (by assumption)]) (KF.n [])))
       refine At.sB 63 (!((rd4 (s.extract 3 s.size).data.toList).2)) true (sayNT (sayB (Bool.eq_false_iff.2 h17))) ?_
       replace h17 := Bool.eq_false_iff.2 h17
       refine At.z 4 ?_
       refine AW.cond true (by kernel_rfl) (fun _ => ?_) (fun h => by cases h)
       refine AW.q 3 ?_
       exact AW.ret (rf (k2 (K_spec_OnRead _ s) (show ((⟨0, 0, 0⟩ : On)) = ((onRS s.data.toList).1) from by rw [rs_bad (by first | exact raw_1 (by assumption) (by assumption) | exact raw_2 (by rintro ⟨q1, q2⟩; first | exact absurd q1 (by assumption) | exact absurd q2 (by assumption)) (by assumption) (by assumption) | exact raw_3 (by rintro ⟨q1, q2⟩; first | exact absurd q1 (by assumption) | exact absurd q2 (by assumption)) (by rintro ⟨q1, q2⟩; first | exact absurd q1 (by assumption) | exact absurd q2 (by assumption))) (by simp only [*]; first | done | rfl | decide)]; first | done | rfl) (show (false) = ((onRS s.data.toList).2) from by rw [rs_bad (by first | exact raw_1 (by assumption) (by assumption) | exact raw_2 (by rintro ⟨q1, q2⟩; first | exact absurd q1 (by assumption) | exact absurd q2 (by assumption)) (by assumption) (by assumption) | exact raw_3 (by rintro ⟨q1, q2⟩; first | exact absurd q1 (by assumption) | exact absurd q2 (by assumption)) (by rintro ⟨q1, q2⟩; first | exact absurd q1 (by assumption) | exact absurd q2 (by assumption))) (by simp only [*]; first | done | rfl | decide)]; first | done | rfl) (KF.n [])))
     refine At.sB 58 ((rd4 (s.extract 0 1).data.toList).2) false (sayB (Bool.eq_false_iff.2 h16)) ?_
     replace h16 := Bool.eq_false_iff.2 h16
     refine At.z 3 ?_
     refine AW.seq ?_
     refine AW.q 7 ?_
     refine AW.cond true (by kernel_rfl) (fun _ => ?_) (fun h => by cases h)
     refine AW.q 3 ?_
     exact AW.ret (rf (k2 (K_spec_OnRead _ s) (show ((⟨0, 0, 0⟩ : On)) = ((onRS s.data.toList).1) from by rw [rs_bad (by first | exact raw_1 (by assumption) (by assumption) | exact raw_2 (by rintro ⟨q1, q2⟩; first | exact absurd q1 (by assumption) | exact absurd q2 (by assumption)) (by assumption) (by assumption) | exact raw_3 (by rintro ⟨q1, q2⟩; first | exact absurd q1 (by assumption) | exact absurd q2 (by assumption)) (by rintro ⟨q1, q2⟩; first | exact absurd q1 (by assumption) | exact absurd q2 (by assumption))) (by simp only [*]; first | done | rfl | decide)]; first | done | rfl) (show (false) = ((onRS s.data.toList).2) from by rw [rs_bad (by first | exact raw_1 (by assumption) (by assumption) | exact raw_2 (by rintro ⟨q1, q2⟩; first | exact absurd q1 (by assumption) | exact absurd q2 (by assumption)) (by assumption) (by assumption) | exact raw_3 (by rintro ⟨q1, q2⟩; first | exact absurd q1 (by assumption) | exact absurd q2 (by assumption)) (by rintro ⟨q1, q2⟩; first | exact absurd q1 (by assumption) | exact absurd q2 (by assumption))) (by simp only [*]; first | done | rfl | decide)]; first | done | rfl) (KF.n [])))
   refine AW.g ?_
   refine At.a 1 ?_
   refine At.c (spec_l12Read_spec  s (by assumption)) Tryd.call14 true [] [] [] trivial ?_
   refine At.z 6 ?_
   refine AW.seq ?_
   refine AW.r ?_
   refine At.a 3 ?_
   by_cases h19 : ((rd4 s.data.toList).2) = true
   · refine At.sB 63 (!((rd4 s.data.toList).2)) false (sayNF (sayB h19)) ?_
     refine At.a 1 ?_
     refine At.c (spec_OnOk_spec  (⟨1, (rd4 s.data.toList).1, 0⟩ : On) ) Tryd.call11 true [] [] [] trivial ?_
     refine At.z 2 ?_
     refine AW.cNB (onOk (⟨1, (rd4 s.data.toList).1, 0⟩ : On)) (fun h20 => ?_) (fun h20 => ?_)
     · refine AW.q 3 ?_
       exact AW.ret (rf (k2 (K_spec_OnRead _ s) (show ((⟨0, 0, 0⟩ : On)) = ((onRS s.data.toList).1) from by rw [rs_no (by first | exact raw_1 (by assumption) (by assumption) | exact raw_2 (by rintro ⟨q1, q2⟩; first | exact absurd q1 (by assumption) | exact absurd q2 (by assumption)) (by assumption) (by assumption) | exact raw_3 (by rintro ⟨q1, q2⟩; first | exact absurd q1 (by assumption) | exact absurd q2 (by assumption)) (by rintro ⟨q1, q2⟩; first | exact absurd q1 (by assumption) | exact absurd q2 (by assumption))) (by assumption)]; first | done | rfl) (show (false) = ((onRS s.data.toList).2) from by rw [rs_no (by first | exact raw_1 (by assumption) (by assumption) | exact raw_2 (by rintro ⟨q1, q2⟩; first | exact absurd q1 (by assumption) | exact absurd q2 (by assumption)) (by assumption) (by assumption) | exact raw_3 (by rintro ⟨q1, q2⟩; first | exact absurd q1 (by assumption) | exact absurd q2 (by assumption)) (by rintro ⟨q1, q2⟩; first | exact absurd q1 (by assumption) | exact absurd q2 (by assumption))) (by assumption)]; first | done | rfl) (KF.n [])))
     refine AW.skip ?_
     refine AW.q 3 ?_
     exact AW.ret (rf (k2 (K_spec_OnRead _ s) (show ((⟨1, (rd4 s.data.toList).1, 0⟩ : On)) = ((onRS s.data.toList).1) from by rw [rs_ok (by first | exact raw_1 (by assumption) (by assumption) | exact raw_2 (by rintro ⟨q1, q2⟩; first | exact absurd q1 (by assumption) | exact absurd q2 (by assumption)) (by assumption) (by assumption) | exact raw_3 (by rintro ⟨q1, q2⟩; first | exact absurd q1 (by assumption) | exact absurd q2 (by assumption)) (by rintro ⟨q1, q2⟩; first | exact absurd q1 (by assumption) | exact absurd q2 (by assumption))) (by simp only [*]; first | done | rfl | decide) (by assumption)]) (show (true) = ((onRS s.data.toList).2) from by rw [rs_ok (by first | exact raw_1 (by assumption) (by assumption) | exact raw_2 (by rintro ⟨q1, q2⟩; first | exact absurd q1 (by assumption) | exact absurd q2 (by assumption)) (by assumption) (by assumption) | exact raw_3 (by rintro ⟨q1, q2⟩; first | exact absurd q1 (by assumption) | exact absurd q2 (by assumption)) (by rintro ⟨q1, q2⟩; first | exact absurd q1 (by assumption) | exact absurd q2 (by assumption))) (by simp only [*]; first | done | rfl | decide) (by assumption)]) (KF.n [])))
   refine At.sB 63 (!((rd4 s.data.toList).2)) true (sayNT (sayB (Bool.eq_false_iff.2 h19))) ?_
   replace h19 := Bool.eq_false_iff.2 h19
   refine At.z 4 ?_
   refine AW.cond true (by kernel_rfl) (fun _ => ?_) (fun h => by cases h)
   refine AW.q 3 ?_
   exact AW.ret (rf (k2 (K_spec_OnRead _ s) (show ((⟨0, 0, 0⟩ : On)) = ((onRS s.data.toList).1) from by rw [rs_bad (by first | exact raw_1 (by assumption) (by assumption) | exact raw_2 (by rintro ⟨q1, q2⟩; first | exact absurd q1 (by assumption) | exact absurd q2 (by assumption)) (by assumption) (by assumption) | exact raw_3 (by rintro ⟨q1, q2⟩; first | exact absurd q1 (by assumption) | exact absurd q2 (by assumption)) (by rintro ⟨q1, q2⟩; first | exact absurd q1 (by assumption) | exact absurd q2 (by assumption))) (by simp only [*]; first | done | rfl | decide)]; first | done | rfl) (show (false) = ((onRS s.data.toList).2) from by rw [rs_bad (by first | exact raw_1 (by assumption) (by assumption) | exact raw_2 (by rintro ⟨q1, q2⟩; first | exact absurd q1 (by assumption) | exact absurd q2 (by assumption)) (by assumption) (by assumption) | exact raw_3 (by rintro ⟨q1, q2⟩; first | exact absurd q1 (by assumption) | exact absurd q2 (by assumption)) (by rintro ⟨q1, q2⟩; first | exact absurd q1 (by assumption) | exact absurd q2 (by assumption))) (by simp only [*]; first | done | rfl | decide)]; first | done | rfl) (KF.n [])))
 refine At.sB 36 _ _ (sayF h14) ?_
 refine At.z 5 ?_
 refine AW.cond false (by kernel_rfl) (fun h => by cases h) (fun _ => ?_)
 refine AW.g ?_
 refine At.a 1 ?_
 refine At.c (spec_l12Read_spec  s (by assumption)) Tryd.call14 true [] [] [] trivial ?_
 refine At.z 6 ?_
 refine AW.seq ?_
 refine AW.r ?_
 refine At.a 3 ?_
 by_cases h21 : ((rd4 s.data.toList).2) = true
 · refine At.sB 63 (!((rd4 s.data.toList).2)) false (sayNF (sayB h21)) ?_
   refine At.a 1 ?_
   refine At.c (spec_OnOk_spec  (⟨1, (rd4 s.data.toList).1, 0⟩ : On) ) Tryd.call11 true [] [] [] trivial ?_
   refine At.z 2 ?_
   refine AW.cNB (onOk (⟨1, (rd4 s.data.toList).1, 0⟩ : On)) (fun h22 => ?_) (fun h22 => ?_)
   · refine AW.q 3 ?_
     exact AW.ret (rf (k2 (K_spec_OnRead _ s) (show ((⟨0, 0, 0⟩ : On)) = ((onRS s.data.toList).1) from by rw [rs_no (by first | exact raw_1 (by assumption) (by assumption) | exact raw_2 (by rintro ⟨q1, q2⟩; first | exact absurd q1 (by assumption) | exact absurd q2 (by assumption)) (by assumption) (by assumption) | exact raw_3 (by rintro ⟨q1, q2⟩; first | exact absurd q1 (by assumption) | exact absurd q2 (by assumption)) (by rintro ⟨q1, q2⟩; first | exact absurd q1 (by assumption) | exact absurd q2 (by assumption))) (by assumption)]; first | done | rfl) (show (false) = ((onRS s.data.toList).2) from by rw [rs_no (by first | exact raw_1 (by assumption) (by assumption) | exact raw_2 (by rintro ⟨q1, q2⟩; first | exact absurd q1 (by assumption) | exact absurd q2 (by assumption)) (by assumption) (by assumption) | exact raw_3 (by rintro ⟨q1, q2⟩; first | exact absurd q1 (by assumption) | exact absurd q2 (by assumption)) (by rintro ⟨q1, q2⟩; first | exact absurd q1 (by assumption) | exact absurd q2 (by assumption))) (by assumption)]; first | done | rfl) (KF.n [])))
   refine AW.skip ?_
   refine AW.q 3 ?_
   exact AW.ret (rf (k2 (K_spec_OnRead _ s) (show ((⟨1, (rd4 s.data.toList).1, 0⟩ : On)) = ((onRS s.data.toList).1) from by rw [rs_ok (by first | exact raw_1 (by assumption) (by assumption) | exact raw_2 (by rintro ⟨q1, q2⟩; first | exact absurd q1 (by assumption) | exact absurd q2 (by assumption)) (by assumption) (by assumption) | exact raw_3 (by rintro ⟨q1, q2⟩; first | exact absurd q1 (by assumption) | exact absurd q2 (by assumption)) (by rintro ⟨q1, q2⟩; first | exact absurd q1 (by assumption) | exact absurd q2 (by assumption))) (by simp only [*]; first | done | rfl | decide) (by assumption)]) (show (true) = ((onRS s.data.toList).2) from by rw [rs_ok (by first | exact raw_1 (by assumption) (by assumption) | exact raw_2 (by rintro ⟨q1, q2⟩; first | exact absurd q1 (by assumption) | exact absurd q2 (by assumption)) (by assumption) (by assumption) | exact raw_3 (by rintro ⟨q1, q2⟩; first | exact absurd q1 (by assumption) | exact absurd q2 (by assumption)) (by rintro ⟨q1, q2⟩; first | exact absurd q1 (by assumption) | exact absurd q2 (by assumption))) (by simp only [*]; first | done | rfl | decide) (by assumption)]) (KF.n [])))
 refine At.sB 63 (!((rd4 s.data.toList).2)) true (sayNT (sayB (Bool.eq_false_iff.2 h21))) ?_
 replace h21 := Bool.eq_false_iff.2 h21
 refine At.z 4 ?_
 refine AW.cond true (by kernel_rfl) (fun _ => ?_) (fun h => by cases h)
 refine AW.q 3 ?_
 exact AW.ret (rf (k2 (K_spec_OnRead _ s) (show ((⟨0, 0, 0⟩ : On)) = ((onRS s.data.toList).1) from by rw [rs_bad (by first | exact raw_1 (by assumption) (by assumption) | exact raw_2 (by rintro ⟨q1, q2⟩; first | exact absurd q1 (by assumption) | exact absurd q2 (by assumption)) (by assumption) (by assumption) | exact raw_3 (by rintro ⟨q1, q2⟩; first | exact absurd q1 (by assumption) | exact absurd q2 (by assumption)) (by rintro ⟨q1, q2⟩; first | exact absurd q1 (by assumption) | exact absurd q2 (by assumption))) (by simp only [*]; first | done | rfl | decide)]; first | done | rfl) (show (false) = ((onRS s.data.toList).2) from by rw [rs_bad (by first | exact raw_1 (by assumption) (by assumption) | exact raw_2 (by rintro ⟨q1, q2⟩; first | exact absurd q1 (by assumption) | exact absurd q2 (by assumption)) (by assumption) (by assumption) | exact raw_3 (by rintro ⟨q1, q2⟩; first | exact absurd q1 (by assumption) | exact absurd q2 (by assumption)) (by rintro ⟨q1, q2⟩; first | exact absurd q1 (by assumption) | exact absurd q2 (by assumption))) (by simp only [*]; first | done | rfl | decide)]; first | done | rfl) (KF.n [])))
end Go.Proofs.YthklhfcjglimiaaDoor
