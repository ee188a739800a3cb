/- The contracts of the functions that FnMsg reaches (each: what it answers, said over values), printed by a program of this session (wip/sy/g/gen.py). -/
import Derived.Test.YthjmbojkpkbedaaSMsgMi
import Derived.Test.YthjmbojkpkbedaaProg
set_option linter.unusedVariables false
set_option linter.unusedSimpArgs false
set_option maxRecDepth 100000
set_option maxHeartbeats 4000000
namespace Go.Proofs.Ythjmbojkpkbedaa
open Go Go.Sy Go.Proofs
def encOut (o : Out) : V := encOutWith (.own 56 6 (o.msg.entries.map encEnt)) o
theorem frzOut (l : List Out) : FrzIs (l.map encOut) (l.map encOutV) := frzOf _ (fun _ => ⟨rfl, frz17 _⟩)
theorem frzOutT (l : List Out) : FrzT (l.map encOut) (l.map encOutT) := frzTOf _ (fun o => ⟨rfl, frzT17 o⟩)
theorem Try_mix : Try.prog.follows .mixedOrders = true := by kernel_rfl
theorem laws_big_spec  (code : List UInt8) (hc : code.length ≤ 9223372036854775807) : FnSpec Try.prog 19 [.sl false 1 (code.map encU8)] [] (.bool (decide ((code.length : Int) > 1048576))) [] := by
 refine FnSpec.of 6 Try.func19 rfl Try.ntmps19 (by simp) (AW.weakK ?_)
 refine AW.q 1 ?_
 refine AW.r ?_
 refine At.a 2 ?_
 refine At.sL 4 encU8 code ?_
 refine At.z 2 ?_
 exact AW.ret (rf (KF.n []))
theorem spec_l1New_spec  (data : List UInt8) (hd : data.length ≤ 1048576) : ∃ rho_ : Int, (True) ∧ FnSpec Try.prog 51 [.sl false 1 (data.map encU8)] [] (.ptr 0 0 0) [.box 110 [.sl false 1 (data.map encU8), .int .i64 0, .int .i64 rho_]] := by
 refine dv (fun h_ => FnSpec.of 32 Try.func51 rfl Try.ntmps51 (by simp) (AW.weakK h_)) ?_
 refine dv (AW.q 1 ·) ?_
 refine dv (AW.r ·) ?_
 refine dv (At.a 2 ·) ?_
 refine dv (At.sL 6 encU8 data ·) ?_
 refine dv (At.a 1 ·) ?_
 refine dv (At.sI 7 (10677 + (data.length : Int)) (by omega) ·) ?_
 refine dv (At.z 1 ·) ?_
 refine dv (AW.seq ·) ?_
 refine dv (AW.q 1 ·) ?_
 refine dv (AW.block ·) ?_
 refine DW.loopQ (fun (x : Nat × Int) => match x with | (k, s) => Go.Sy.mk [.sl false 1 (data.map encU8), .un, .un, .int .i64 s, .int .i64 (k : Int)] []) (fun (x : Nat × Int) => match x with | (k, s) => k ≤ data.length) (fun (x : Nat × Int) => match x with | (k, s) => data.length - k) (0, (10677 + (data.length : Int))) (by simp) (Sub.o [] [true, false, false, true, true]) ?_
 rintro ⟨k, s⟩ hk ih1
 refine dv (AW.seq ·) ?_
 refine dv (AW.r ·) ?_
 refine dv (At.a 3 ·) ?_
 refine dv (At.sL 10 encU8 data ·) ?_
 refine dv (At.a 2 ·) ?_
 by_cases h1 : (k : Int) < (data.length : Int)
 · refine dv (At.sB 12 _ _ (sayT h1) ·) ?_
   refine dv (At.z 3 ·) ?_
   by_cases h2 : (k : Int) < 4000
   · refine dv (AW.condT (decide ((k : Int) < 4000)) (by kernel_rfl) (decide_eq_true h2) ·) ?_
     refine dv (AW.skip ·) ?_
     refine dv (AW.seq ·) ?_
     refine dv (AW.block ·) ?_
     refine dv (AW.g ·) ?_
     refine dv (At.a 4 ·) ?_
     refine dv (At.iSl 28 22 (.tmp 20) (.tmp 21) false 1 (data.map encU8) .i64 (k : Int) 5 (by omega) (by simp only [List.length_map]; omega) ·) ?_
     refine Exists.elim (gE data k (by omega)) fun e1 he1 => ?_
     refine dv (At.lVp 5 23 (.tmp 22) false 1 (data.map encU8) k 0 false 1 (encU8 e1) (.int .u8 (e1.toNat : Int)) (mapGet he1) ·) ?_
     refine dv (At.conv (s := 5) (t := 3) (d := 24) (x := .tmp 23) (kd := .u8) (kd' := .i64) (a := (e1.toNat : Int)) (.int .i64 (e1.toNat : Int)) (by kernel_rfl) (by kernel_rfl) (by kernel_rfl) (by kernel_rfl) (sayI _ (by have := UInt8.toNat_lt e1; omega)) ·) ?_
     refine dv (At.a 2 ·) ?_
     refine dv (At.bits (t := 3) (u := 3) (d := 27) (op := .and) (x := .tmp 26) (y := .const (.int .i64 1073741823)) (kd := .i64) (a := IntKind.i64.wrap ((IntKind.i64.wrap ((IntKind.i64.wrap (s * 131)) + (e1.toNat : Int))) + 7)) (b := 1073741823) ((IntKind.i64.wrap ((IntKind.i64.wrap ((IntKind.i64.wrap (s * 131)) + (e1.toNat : Int))) + 7)) % 1073741824) (by kernel_rfl) (by kernel_rfl) (by kernel_rfl) (by kernel_rfl) (andM 30 1073741824 _ _ (by decide) (by decide) (by decide)) ·) ?_
     refine dv (At.z 1 ·) ?_
     refine dv (AW.g ·) ?_
     refine dv (At.a 2 ·) ?_
     refine dv (At.sI 17 ((k : Int) + 1) (by omega) ·) ?_
     refine dv (At.z 1 ·) ?_
     exact dw (fun _ h_ => AWL.weak (Sub.o [] [true, false, false, true, true]) h_) (ih1 (k + 1, ((IntKind.i64.wrap ((IntKind.i64.wrap ((IntKind.i64.wrap (s * 131)) + (e1.toNat : Int))) + 7)) % 1073741824)) (by simp only; omega) (by simp only; omega))
   refine dv (AW.condF (decide ((k : Int) < 4000)) (by kernel_rfl) (decide_eq_false h2) ·) ?_
   refine dv (AW.exit ·) ?_
   refine dv (AW.q 5 ·) ?_
   refine dv (AW.ret ·) ?_
   refine dv (⟨_, Sub.refl _ _, ·⟩) ?_
   exact ⟨(s), trivial, KF.mk (.inr rfl) [(131, 0)] [.ptr 131 0 0] (by kernel_rfl) (by kernel_rfl) (by kernel_rfl) (by kernel_rfl) (by kernel_rfl)⟩
 refine dv (At.sB 12 _ _ (sayF h1) ·) ?_
 refine dv (At.z 3 ·) ?_
 refine dv (fun h_ => AW.cond false (by kernel_rfl) (fun h => by cases h) (fun _ => h_)) ?_
 refine dv (AW.exit ·) ?_
 refine dv (AW.q 5 ·) ?_
 refine dv (AW.ret ·) ?_
 refine dv (⟨_, Sub.refl _ _, ·⟩) ?_
 exact ⟨(s), trivial, KF.mk (.inr rfl) [(131, 0)] [.ptr 131 0 0] (by kernel_rfl) (by kernel_rfl) (by kernel_rfl) (by kernel_rfl) (by kernel_rfl)⟩
theorem spec_l1Byte_spec  (c : Cur) (hp : 0 ≤ c.pos ∧ c.pos ≤ c.data.length ∧ c.data.length ≤ 1048576) : ∃ rho_ : Int × Int × Int, (0 ≤ rho_.1 ∧ rho_.1 ≤ c.data.length ∧ 0 ≤ rho_.2.2 ∧ rho_.2.2 ≤ 255) ∧ FnSpec Try.prog 59 [.ptr 0 0 0] [.box 110 [.sl false 1 (c.data.map encU8), .int .i64 c.pos, .int .i64 c.seed]] (.int .i64 rho_.2.2) [.box 110 [.sl false 1 (c.data.map encU8), .int .i64 rho_.1, .int .i64 rho_.2.1]] := by
 refine dv (fun h_ => FnSpec.of 58 Try.func59 rfl Try.ntmps59 (by simp) (AW.weakK h_)) ?_
 refine dv (AW.q 1 ·) ?_
 refine dv (AW.q 10 ·) ?_
 refine dv (AW.seq ·) ?_
 refine dv (AW.gD Try_mix ·) ?_
 refine dv (At.a 4 ·) ?_
 refine dv (At.shift (t := 3) (u := 93) (d := 17) (op := .shr) (x := .tmp 16) (y := .const (.int .u64 33)) (kd := .i64) (kd' := .u64) (a := IntKind.i64.wrap ((IntKind.i64.wrap (c.seed * 6364136223846793005)) + 1442695040888963407)) (b := 33) (shV .shr .i64 (IntKind.i64.wrap ((IntKind.i64.wrap (c.seed * 6364136223846793005)) + 1442695040888963407)) 33) (by kernel_rfl) (by kernel_rfl) (by kernel_rfl) (by kernel_rfl) (by omega) (shS_shr _ _ _) ·) ?_
 refine dv (At.a 4 ·) ?_
 refine dv (At.shift (t := 3) (u := 93) (d := 22) (op := .shr) (x := .tmp 21) (y := .const (.int .u64 45)) (kd := .i64) (kd' := .u64) (a := IntKind.i64.wrap ((IntKind.i64.wrap (c.seed * 6364136223846793005)) + 1442695040888963407)) (b := 45) (shV .shr .i64 (IntKind.i64.wrap ((IntKind.i64.wrap (c.seed * 6364136223846793005)) + 1442695040888963407)) 45) (by kernel_rfl) (by kernel_rfl) (by kernel_rfl) (by kernel_rfl) (by omega) (shS_shr _ _ _) ·) ?_
 refine dv (At.bits (t := 3) (u := 3) (d := 23) (op := .xor) (x := .tmp 17) (y := .tmp 22) (kd := .i64) (a := shV .shr .i64 (IntKind.i64.wrap ((IntKind.i64.wrap (c.seed * 6364136223846793005)) + 1442695040888963407)) 33) (b := shV .shr .i64 (IntKind.i64.wrap ((IntKind.i64.wrap (c.seed * 6364136223846793005)) + 1442695040888963407)) 45) (bitV .xor .i64 (shV .shr .i64 (IntKind.i64.wrap ((IntKind.i64.wrap (c.seed * 6364136223846793005)) + 1442695040888963407)) 33) (shV .shr .i64 (IntKind.i64.wrap ((IntKind.i64.wrap (c.seed * 6364136223846793005)) + 1442695040888963407)) 45)) (by kernel_rfl) (by kernel_rfl) (by kernel_rfl) (by kernel_rfl) (bitS_xor _ _ _) ·) ?_
 refine dv (At.bits (t := 3) (u := 3) (d := 24) (op := .and) (x := .tmp 23) (y := .const (.int .i64 255)) (kd := .i64) (a := bitV .xor .i64 (shV .shr .i64 (IntKind.i64.wrap ((IntKind.i64.wrap (c.seed * 6364136223846793005)) + 1442695040888963407)) 33) (shV .shr .i64 (IntKind.i64.wrap ((IntKind.i64.wrap (c.seed * 6364136223846793005)) + 1442695040888963407)) 45)) (b := 255) ((bitV .xor .i64 (shV .shr .i64 (IntKind.i64.wrap ((IntKind.i64.wrap (c.seed * 6364136223846793005)) + 1442695040888963407)) 33) (shV .shr .i64 (IntKind.i64.wrap ((IntKind.i64.wrap (c.seed * 6364136223846793005)) + 1442695040888963407)) 45)) % 256) (by kernel_rfl) (by kernel_rfl) (by kernel_rfl) (by kernel_rfl) (andM 8 256 _ _ (by decide) (by decide) (by decide)) ·) ?_
 refine dv (At.zD 1 ·) ?_
 refine dv (AW.seq ·) ?_
 refine dv (AW.seq ·) ?_
 refine dv (AW.gD Try_mix ·) ?_
 refine dv (At.a 9 ·) ?_
 refine dv (At.sL 33 encU8 c.data ·) ?_
 refine dv (At.zD 1 ·) ?_
 by_cases h1 : c.pos < (c.data.length : Int)
 · refine dv (AW.condT (decide (c.pos < (c.data.length : Int))) (by kernel_rfl) (decide_eq_true h1) ·) ?_
   refine dv (AW.seq ·) ?_
   refine dv (AW.gD Try_mix ·) ?_
   refine dv (At.a 9 ·) ?_
   refine dv (At.iSl 28 44 (.tmp 39) (.tmp 43) false 1 (c.data.map encU8) .i64 c.pos 5 (by omega) (by simp only [List.length_map]; omega) ·) ?_
   refine Exists.elim (gE c.data ((c.pos).toNat) (by omega)) fun e1 he1 => ?_
   have hbe1 := UInt8.toNat_lt e1
   refine dv (At.lVp 5 45 (.tmp 44) false 1 (c.data.map encU8) ((c.pos).toNat) 0 false 1 (encU8 e1) (.int .u8 (e1.toNat : Int)) (mapGet he1) ·) ?_
   refine dv (At.conv (s := 5) (t := 3) (d := 46) (x := .tmp 45) (kd := .u8) (kd' := .i64) (a := (e1.toNat : Int)) (.int .i64 (e1.toNat : Int)) (by kernel_rfl) (by kernel_rfl) (by kernel_rfl) (by kernel_rfl) (sayI _ (by have := UInt8.toNat_lt e1; omega)) ·) ?_
   refine dv (At.a 1 ·) ?_
   refine dv (At.sI 47 (((bitV .xor .i64 (shV .shr .i64 (IntKind.i64.wrap ((IntKind.i64.wrap (c.seed * 6364136223846793005)) + 1442695040888963407)) 33) (shV .shr .i64 (IntKind.i64.wrap ((IntKind.i64.wrap (c.seed * 6364136223846793005)) + 1442695040888963407)) 45)) % 256) + (e1.toNat : Int)) (by omega) ·) ?_
   refine dv (At.bits (t := 3) (u := 3) (d := 48) (op := .and) (x := .tmp 47) (y := .const (.int .i64 255)) (kd := .i64) (a := ((bitV .xor .i64 (shV .shr .i64 (IntKind.i64.wrap ((IntKind.i64.wrap (c.seed * 6364136223846793005)) + 1442695040888963407)) 33) (shV .shr .i64 (IntKind.i64.wrap ((IntKind.i64.wrap (c.seed * 6364136223846793005)) + 1442695040888963407)) 45)) % 256) + (e1.toNat : Int)) (b := 255) ((((bitV .xor .i64 (shV .shr .i64 (IntKind.i64.wrap ((IntKind.i64.wrap (c.seed * 6364136223846793005)) + 1442695040888963407)) 33) (shV .shr .i64 (IntKind.i64.wrap ((IntKind.i64.wrap (c.seed * 6364136223846793005)) + 1442695040888963407)) 45)) % 256) + (e1.toNat : Int)) % 256) (by kernel_rfl) (by kernel_rfl) (by kernel_rfl) (by kernel_rfl) (andM 8 256 _ _ (by decide) (by decide) (by decide)) ·) ?_
   refine dv (At.zD 1 ·) ?_
   refine dv (AW.g ·) ?_
   refine dv (At.a 6 ·) ?_
   refine dv (At.sI 54 (c.pos + 1) (by omega) ·) ?_
   refine dv (At.z 3 ·) ?_
   refine dv (AW.q 2 ·) ?_
   refine dv (AW.ret ·) ?_
   refine dv (⟨_, Sub.refl _ _, ·⟩) ?_
   exact ⟨(c.pos + 1, IntKind.i64.wrap ((IntKind.i64.wrap (c.seed * 6364136223846793005)) + 1442695040888963407), (((bitV .xor .i64 (shV .shr .i64 (IntKind.i64.wrap ((IntKind.i64.wrap (c.seed * 6364136223846793005)) + 1442695040888963407)) 33) (shV .shr .i64 (IntKind.i64.wrap ((IntKind.i64.wrap (c.seed * 6364136223846793005)) + 1442695040888963407)) 45)) % 256) + (e1.toNat : Int)) % 256), (by dsimp only; omega), KF.mk (.inr rfl) [(0, 0)] [.int .i64 ((((bitV .xor .i64 (shV .shr .i64 (IntKind.i64.wrap ((IntKind.i64.wrap (c.seed * 6364136223846793005)) + 1442695040888963407)) 33) (shV .shr .i64 (IntKind.i64.wrap ((IntKind.i64.wrap (c.seed * 6364136223846793005)) + 1442695040888963407)) 45)) % 256) + (e1.toNat : Int)) % 256)] (by kernel_rfl) (by kernel_rfl) (by kernel_rfl) (by kernel_rfl) (by kernel_rfl)⟩
 refine dv (AW.condF (decide (c.pos < (c.data.length : Int))) (by kernel_rfl) (decide_eq_false h1) ·) ?_
 refine dv (AW.skip ·) ?_
 refine dv (AW.q 2 ·) ?_
 refine dv (AW.ret ·) ?_
 refine dv (⟨_, Sub.refl _ _, ·⟩) ?_
 exact ⟨(c.pos, IntKind.i64.wrap ((IntKind.i64.wrap (c.seed * 6364136223846793005)) + 1442695040888963407), (bitV .xor .i64 (shV .shr .i64 (IntKind.i64.wrap ((IntKind.i64.wrap (c.seed * 6364136223846793005)) + 1442695040888963407)) 33) (shV .shr .i64 (IntKind.i64.wrap ((IntKind.i64.wrap (c.seed * 6364136223846793005)) + 1442695040888963407)) 45)) % 256), (by dsimp only; omega), KF.mk (.inr rfl) [(0, 0)] [.int .i64 ((bitV .xor .i64 (shV .shr .i64 (IntKind.i64.wrap ((IntKind.i64.wrap (c.seed * 6364136223846793005)) + 1442695040888963407)) 33) (shV .shr .i64 (IntKind.i64.wrap ((IntKind.i64.wrap (c.seed * 6364136223846793005)) + 1442695040888963407)) 45)) % 256)] (by kernel_rfl) (by kernel_rfl) (by kernel_rfl) (by kernel_rfl) (by kernel_rfl)⟩
theorem spec_l1Below_spec  (c : Cur) (n : Int) (hp : 0 ≤ c.pos ∧ c.pos ≤ c.data.length ∧ c.data.length ≤ 1048576) : ∃ rho_ : Int × Int × Int, (0 ≤ rho_.1 ∧ rho_.1 ≤ c.data.length ∧ 0 ≤ rho_.2.2 ∧ (0 < n → rho_.2.2 < n) ∧ (n ≤ 0 → rho_.2.2 = 0)) ∧ FnSpec Try.prog 58 [.ptr 0 0 0, .int .i64 n] [.box 110 [.sl false 1 (c.data.map encU8), .int .i64 c.pos, .int .i64 c.seed]] (.int .i64 rho_.2.2) [.box 110 [.sl false 1 (c.data.map encU8), .int .i64 rho_.1, .int .i64 rho_.2.1]] := by
 refine dv (fun h_ => FnSpec.of 37 Try.func58 rfl Try.ntmps58 (by simp) (AW.weakK h_)) ?_
 refine dv (AW.q 1 ·) ?_
 refine dv (AW.seq ·) ?_
 refine dv (AW.q 2 ·) ?_
 by_cases h1 : n ≤ 0
 · refine dv (AW.condT (decide (n ≤ 0)) (by kernel_rfl) (decide_eq_true h1) ·) ?_
   refine dv (AW.q 1 ·) ?_
   refine dv (AW.ret ·) ?_
   refine dv (⟨_, Sub.refl _ _, ·⟩) ?_
   exact ⟨(c.pos, c.seed, 0), (by refine ⟨by dsimp only; omega, by dsimp only; omega, ?_⟩; dsimp only; first | omega | exact ⟨Int.emod_nonneg _ (by omega), fun _ => Int.emod_lt_of_pos _ (by omega), fun _ => by omega⟩), KF.mk (.inr rfl) [(0, 0)] [.int .i64 0] (by kernel_rfl) (by kernel_rfl) (by kernel_rfl) (by kernel_rfl) (by kernel_rfl)⟩
 refine dv (AW.condF (decide (n ≤ 0)) (by kernel_rfl) (decide_eq_false h1) ·) ?_
 refine dv (AW.skip ·) ?_
 refine dv (AW.seq ·) ?_
 refine dv (AW.q 2 ·) ?_
 by_cases h2 : n ≤ 256
 · refine dv (AW.condT (decide (n ≤ 256)) (by kernel_rfl) (decide_eq_true h2) ·) ?_
   refine dv (AW.r ·) ?_
   refine dv (At.a 1 ·) ?_
   refine Exists.elim (spec_l1Byte_spec  c (by omega)) fun r1_ hr1_ => ?_
   have qr1_ := hr1_.1
   try dsimp only at qr1_
   refine dv (At.c (hr1_.2) Try.call59 true [(0, 0)] [] [] trivial ·) ?_
   refine dv (At.a 1 ·) ?_
   refine dv (At.div (t := 3) (u := 3) (d := 16) (op := .rem) (x := .tmp 14) (y := .tmp 15) (kd := .i64) (a := r1_.2.2) (b := n) (by kernel_rfl) (by kernel_rfl) (by kernel_rfl) (by kernel_rfl) (by omega) (.int .i64 (r1_.2.2.tmod n)) (.inr ⟨rfl, rfl⟩) ·) ?_
   refine dv (At.say 16 (.int .i64 (r1_.2.2.tmod n)) (.int .i64 (r1_.2.2 % n)) (by kernel_rfl) (sayRem (by omega)) ·) ?_
   refine dv (At.z 1 ·) ?_
   refine dv (AW.ret ·) ?_
   refine dv (⟨_, Sub.refl _ _, ·⟩) ?_
   exact ⟨(r1_.1, r1_.2.1, r1_.2.2 % n), (by refine ⟨by dsimp only; omega, by dsimp only; omega, ?_⟩; dsimp only; first | omega | exact ⟨Int.emod_nonneg _ (by omega), fun _ => Int.emod_lt_of_pos _ (by omega), fun _ => by omega⟩), KF.mk (.inr rfl) [(0, 0)] [.int .i64 (r1_.2.2 % n)] (by kernel_rfl) (by kernel_rfl) (by kernel_rfl) (by kernel_rfl) (by kernel_rfl)⟩
 refine dv (AW.condF (decide (n ≤ 256)) (by kernel_rfl) (decide_eq_false h2) ·) ?_
 refine dv (AW.skip ·) ?_
 refine dv (AW.r ·) ?_
 refine dv (At.a 1 ·) ?_
 refine Exists.elim (spec_l1Byte_spec  c (by omega)) fun r1_ hr1_ => ?_
 have qr1_ := hr1_.1
 try dsimp only at qr1_
 refine dv (At.c (hr1_.2) Try.call59 true [(0, 0)] [] [] trivial ·) ?_
 refine dv (At.z 1 ·) ?_
 refine dv (AW.r ·) ?_
 refine dv (At.a 1 ·) ?_
 refine Exists.elim (spec_l1Byte_spec  (⟨c.data, r1_.1, r1_.2.1⟩ : Cur) (by dsimp only; omega)) fun r2_ hr2_ => ?_
 have qr2_ := hr2_.1
 try dsimp only at qr2_
 refine dv (At.c (hr2_.2) Try.call59 true [(0, 0)] [] [] trivial ·) ?_
 refine dv (At.z 1 ·) ?_
 refine dv (AW.r ·) ?_
 refine dv (At.a 1 ·) ?_
 refine Exists.elim (spec_l1Byte_spec  (⟨c.data, r2_.1, r2_.2.1⟩ : Cur) (by dsimp only; omega)) fun r3_ hr3_ => ?_
 have qr3_ := hr3_.1
 try dsimp only at qr3_
 refine dv (At.c (hr3_.2) Try.call59 true [(0, 0)] [] [] trivial ·) ?_
 refine dv (At.z 1 ·) ?_
 refine dv (AW.r ·) ?_
 refine dv (At.a 1 ·) ?_
 refine Exists.elim (spec_l1Byte_spec  (⟨c.data, r3_.1, r3_.2.1⟩ : Cur) (by dsimp only; omega)) fun r4_ hr4_ => ?_
 have qr4_ := hr4_.1
 try dsimp only at qr4_
 refine dv (At.c (hr4_.2) Try.call59 true [(0, 0)] [] [] trivial ·) ?_
 refine dv (At.z 1 ·) ?_
 refine dv (AW.r ·) ?_
 refine dv (At.a 2 ·) ?_
 refine dv (At.sI 26 (r1_.2.2 * 16777216) (by omega) ·) ?_
 refine dv (At.a 2 ·) ?_
 refine dv (At.sI 28 (r2_.2.2 * 65536) (by omega) ·) ?_
 refine dv (At.a 1 ·) ?_
 refine dv (At.sI 29 ((r1_.2.2 * 16777216) + (r2_.2.2 * 65536)) (by omega) ·) ?_
 refine dv (At.a 2 ·) ?_
 refine dv (At.sI 31 (r3_.2.2 * 256) (by omega) ·) ?_
 refine dv (At.a 1 ·) ?_
 refine dv (At.sI 32 (((r1_.2.2 * 16777216) + (r2_.2.2 * 65536)) + (r3_.2.2 * 256)) (by omega) ·) ?_
 refine dv (At.a 2 ·) ?_
 refine dv (At.sI 34 ((((r1_.2.2 * 16777216) + (r2_.2.2 * 65536)) + (r3_.2.2 * 256)) + r4_.2.2) (by omega) ·) ?_
 refine dv (At.a 1 ·) ?_
 refine dv (At.div (t := 3) (u := 3) (d := 36) (op := .rem) (x := .tmp 34) (y := .tmp 35) (kd := .i64) (a := (((r1_.2.2 * 16777216) + (r2_.2.2 * 65536)) + (r3_.2.2 * 256)) + r4_.2.2) (b := n) (by kernel_rfl) (by kernel_rfl) (by kernel_rfl) (by kernel_rfl) (by omega) (.int .i64 (((((r1_.2.2 * 16777216) + (r2_.2.2 * 65536)) + (r3_.2.2 * 256)) + r4_.2.2).tmod n)) (.inr ⟨rfl, rfl⟩) ·) ?_
 refine dv (At.say 36 (.int .i64 (((((r1_.2.2 * 16777216) + (r2_.2.2 * 65536)) + (r3_.2.2 * 256)) + r4_.2.2).tmod n)) (.int .i64 (((((r1_.2.2 * 16777216) + (r2_.2.2 * 65536)) + (r3_.2.2 * 256)) + r4_.2.2) % n)) (by kernel_rfl) (sayRem (by omega)) ·) ?_
 refine dv (At.z 1 ·) ?_
 refine dv (AW.ret ·) ?_
 refine dv (⟨_, Sub.refl _ _, ·⟩) ?_
 exact ⟨(r4_.1, r4_.2.1, ((((r1_.2.2 * 16777216) + (r2_.2.2 * 65536)) + (r3_.2.2 * 256)) + r4_.2.2) % n), (by refine ⟨by dsimp only; omega, by dsimp only; omega, ?_⟩; dsimp only; first | omega | exact ⟨Int.emod_nonneg _ (by omega), fun _ => Int.emod_lt_of_pos _ (by omega), fun _ => by omega⟩), KF.mk (.inr rfl) [(0, 0)] [.int .i64 (((((r1_.2.2 * 16777216) + (r2_.2.2 * 65536)) + (r3_.2.2 * 256)) + r4_.2.2) % n)] (by kernel_rfl) (by kernel_rfl) (by kernel_rfl) (by kernel_rfl) (by kernel_rfl)⟩
theorem spec_l1In_spec  (x : Int) (lo : Int) (hi : Int) : FnSpec Try.prog 63 [.int .i64 x, .int .i64 lo, .int .i64 hi] [] (.bool (inR x lo hi)) [] := by
 refine FnSpec.of 15 Try.func63 rfl Try.ntmps63 (by simp) (AW.weakK ?_)
 refine AW.q 1 ?_
 refine AW.r ?_
 refine At.a 4 ?_
 by_cases h1 : x ≥ lo
 · refine At.sB 10 _ _ (sayT h1) ?_
   refine At.z 5 ?_
   refine AW.ret ?_
   refine ⟨_, Sub.refl _ _, ?_⟩
   refine KF.conv (fun w => .bool w) (fun w => []) (show (decide (x ≤ hi)) = (inR x lo hi) from by simp [inR, *]) ?_
   exact KF.n []
 refine At.sB 10 _ _ (sayF h1) ?_
 refine At.z 5 ?_
 refine AW.ret ?_
 refine ⟨_, Sub.refl _ _, ?_⟩
 refine KF.conv (fun w => .bool w) (fun w => []) (show (false) = (inR x lo hi) from by simp [inR, *]) ?_
 exact KF.n []
theorem spec_l8Has_spec  (kind : Int) : FnSpec Try.prog 28 [.int .i64 kind] [] (.str (l8F kind)) [] := by
 refine FnSpec.of 10 Try.func28 rfl Try.ntmps28 (by simp) (AW.weakK ?_)
 refine AW.q 1 ?_
 refine AW.seq ?_
 refine AW.r ?_
 refine At.a 1 ?_
 refine At.c (spec_l1In_spec  kind 1 7 ) Try.call63 true [] [] [] trivial ?_
 refine At.z 1 ?_
 refine AW.cNB (inR kind 1 7) (fun h1 => ?_) (fun h1 => ?_)
 · refine AW.q 1 ?_
   refine AW.ret ?_
   refine ⟨_, Sub.refl _ _, ?_⟩
   refine KF.conv (fun w => .str w) (fun w => []) (show ((⟨#[]⟩ : ByteArray)) = (l8F kind) from by simp [l8F, h1]; done) ?_
   exact KF.n []
 have h1i := inR_iff.1 h1
 refine AW.skip ?_
 refine AW.r ?_
 refine At.ll 6 9 1 106 (56, 6) (([(⟨#[]⟩ : ByteArray), (⟨#[102, 116, 97, 115]⟩ : ByteArray), (⟨#[102, 116, 121]⟩ : ByteArray), (⟨#[102, 116, 97, 115, 99, 101]⟩ : ByteArray), (⟨#[102, 116, 121, 97]⟩ : ByteArray), (⟨#[102, 114, 112]⟩ : ByteArray), (⟨#[102, 114, 112, 98]⟩ : ByteArray), (⟨#[102, 100]⟩ : ByteArray)]).map encS) ?_
 refine At.a 1 ?_
 refine At.iRf 91 8 (.tmp 6) (.tmp 7) 106 (([(⟨#[]⟩ : ByteArray), (⟨#[102, 116, 97, 115]⟩ : ByteArray), (⟨#[102, 116, 121]⟩ : ByteArray), (⟨#[102, 116, 97, 115, 99, 101]⟩ : ByteArray), (⟨#[102, 116, 121, 97]⟩ : ByteArray), (⟨#[102, 114, 112]⟩ : ByteArray), (⟨#[102, 114, 112, 98]⟩ : ByteArray), (⟨#[102, 100]⟩ : ByteArray)]).map encS) .i64 kind 9 1 (by omega) (by simp only [List.length_map, List.length_append, List.length_take, List.length_drop, List.length_replicate, List.length_set, List.length_cons, List.length_nil]; omega) ?_
 refine Exists.elim (gE ([(⟨#[]⟩ : ByteArray), (⟨#[102, 116, 97, 115]⟩ : ByteArray), (⟨#[102, 116, 121]⟩ : ByteArray), (⟨#[102, 116, 97, 115, 99, 101]⟩ : ByteArray), (⟨#[102, 116, 121, 97]⟩ : ByteArray), (⟨#[102, 114, 112]⟩ : ByteArray), (⟨#[102, 114, 112, 98]⟩ : ByteArray), (⟨#[102, 100]⟩ : ByteArray)]) ((kind).toNat) (by simp only [List.length_map, List.length_append, List.length_take, List.length_drop, List.length_replicate, List.length_set, List.length_cons, List.length_nil]; omega)) fun e1 he1 => ?_
 refine At.lEl 9 9 (.tmp 8) 106 9 1 (([(⟨#[]⟩ : ByteArray), (⟨#[102, 116, 97, 115]⟩ : ByteArray), (⟨#[102, 116, 121]⟩ : ByteArray), (⟨#[102, 116, 97, 115, 99, 101]⟩ : ByteArray), (⟨#[102, 116, 121, 97]⟩ : ByteArray), (⟨#[102, 114, 112]⟩ : ByteArray), (⟨#[102, 114, 112, 98]⟩ : ByteArray), (⟨#[102, 100]⟩ : ByteArray)]).map encS) ((kind).toNat) 0 false 1 (encS e1) (.str e1) (mapGet he1) ?_
 refine At.z 1 ?_
 refine AW.ret ?_
 refine ⟨_, Sub.refl _ _, ?_⟩
 refine KF.conv (fun w => .str w) (fun w => []) (show (e1) = (l8F kind) from by rw [l8F, if_pos (by assumption)]; simp only [l8L, he1, Option.getD_some]) ?_
 exact KF.n []
theorem spec_l1Once_spec  (c : Cur) (n : Int) (hp : 0 ≤ c.pos ∧ c.pos ≤ c.data.length ∧ c.data.length ≤ 1048576) : ∃ rho_ : Int × Int × Bool, (0 ≤ rho_.1 ∧ rho_.1 ≤ c.data.length) ∧ FnSpec Try.prog 61 [.ptr 0 0 0, .int .i64 n] [.box 110 [.sl false 1 (c.data.map encU8), .int .i64 c.pos, .int .i64 c.seed]] (.bool rho_.2.2) [.box 110 [.sl false 1 (c.data.map encU8), .int .i64 rho_.1, .int .i64 rho_.2.1]] := by
 refine dv (fun h_ => FnSpec.of 9 Try.func61 rfl Try.ntmps61 (by simp) (AW.weakK h_)) ?_
 refine dv (AW.q 1 ·) ?_
 refine dv (AW.r ·) ?_
 refine dv (At.a 2 ·) ?_
 refine Exists.elim (spec_l1Below_spec  c n (by omega)) fun r1_ hr1_ => ?_
 have qr1_ := hr1_.1
 try dsimp only at qr1_
 refine dv (At.c (hr1_.2) Try.call58 true [(0, 0)] [] [] trivial ·) ?_
 refine dv (At.z 2 ·) ?_
 refine dv (AW.ret ·) ?_
 refine dv (⟨_, Sub.refl _ _, ·⟩) ?_
 exact ⟨(r1_.1, r1_.2.1, r1_.2.2 == 0), (by dsimp only; omega), KF.mk (.inr rfl) [(0, 0)] [.bool (r1_.2.2 == 0)] (by kernel_rfl) (by kernel_rfl) (by kernel_rfl) (by kernel_rfl) (by kernel_rfl)⟩
theorem spec_l1DrawBytes_spec  (c : Cur) (most : Int) (hp : 0 ≤ c.pos ∧ c.pos ≤ c.data.length ∧ c.data.length ≤ 1048576) (hm : 0 ≤ most ∧ most ≤ 100000) : ∃ rho_ : Int × Int × List UInt8, (0 ≤ rho_.1 ∧ rho_.1 ≤ c.data.length ∧ (rho_.2.2.length : Int) ≤ max most 0) ∧ FnSpec Try.prog 93 [.ptr 0 0 0, .int .i64 most] [.box 110 [.sl false 1 (c.data.map encU8), .int .i64 c.pos, .int .i64 c.seed]] (.ref 1) [.box 110 [.sl false 1 (c.data.map encU8), .int .i64 rho_.1, .int .i64 rho_.2.1], .arr 5 1 (rho_.2.2.map encU8)] := by
 refine dv (fun h_ => FnSpec.of 25 Try.func93 rfl Try.ntmps93 (by simp) (AW.weakK h_)) ?_
 refine dv (AW.q 1 ·) ?_
 refine dv (AW.r ·) ?_
 refine dv (At.lit0 (t := 28) (d := 8) (e := 5) (es := 1) (bytes := 1) 108 (by kernel_rfl) (by kernel_rfl) (by kernel_rfl) (by kernel_rfl) ·) ?_
 refine dv (At.z 1 ·) ?_
 refine dv (AW.r ·) ?_
 refine dv (At.a 3 ·) ?_
 refine dv (At.sI 11 (most + 1) (by omega) ·) ?_
 refine Exists.elim (spec_l1Below_spec  c (most + 1) (by omega)) fun r1_ hr1_ => ?_
 have qr1_ := hr1_.1
 try dsimp only at qr1_
 refine dv (At.c (hr1_.2) Try.call58 true [(0, 0)] [] [] trivial ·) ?_
 refine dv (At.z 1 ·) ?_
 refine dv (AW.seq ·) ?_
 refine dv (AW.q 1 ·) ?_
 refine dv (AW.block ·) ?_
 refine DW.loopQ (fun (x : Nat × List UInt8 × Int × Int) => match x with | (k, o, p, s) => Go.Sy.mk [.ptr 0 0 0, .un, .un, .un, .un, .ref 108, .int .i64 r1_.2.2, .int .i64 (k : Int)] [(0, .box 110 [.sl false 1 (c.data.map encU8), .int .i64 p, .int .i64 s]), (108, .arr 5 1 (o.map encU8))]) (fun (x : Nat × List UInt8 × Int × Int) => match x with | (k, o, p, s) => (k : Int) ≤ r1_.2.2 ∧ o.length = k ∧ (0 ≤ p ∧ p ≤ c.data.length)) (fun (x : Nat × List UInt8 × Int × Int) => match x with | (k, o, p, s) => r1_.2.2.toNat - k) (0, [], r1_.1, r1_.2.1) ⟨by omega, rfl, by omega⟩ (Sub.o [(0, 0), (108, 108)] [true, false, false, false, false, true, true, true]) ?_
 rintro ⟨k, o, p, s⟩ hk ih1
 refine dv (AW.seq ·) ?_
 refine dv (AW.q 3 ·) ?_
 by_cases h1 : (k : Int) < r1_.2.2
 · refine dv (AW.condT (decide ((k : Int) < r1_.2.2)) (by kernel_rfl) (decide_eq_true h1) ·) ?_
   refine dv (AW.skip ·) ?_
   refine dv (AW.seq ·) ?_
   refine dv (AW.block ·) ?_
   refine dv (AW.g ·) ?_
   refine dv (At.a 2 ·) ?_
   refine Exists.elim (spec_l1Byte_spec  (⟨c.data, p, s⟩ : Cur) (by dsimp only; omega)) fun r2_ hr2_ => ?_
   have qr2_ := hr2_.1
   try dsimp only at qr2_
   refine dv (At.c (hr2_.2) Try.call59 true [(0, 0)] [] [] trivial ·) ?_
   refine dv (At.conv (s := 3) (t := 5) (d := 21) (x := .tmp 20) (kd := .i64) (kd' := .u8) (a := r2_.2.2) (.int .u8 ((u8Of r2_.2.2).toNat : Int)) (by kernel_rfl) (by kernel_rfl) (by kernel_rfl) (by kernel_rfl) (sayByte _) ·) ?_
   refine dv (At.ll 22 5 1 122 (56, 6) (([(u8Of r2_.2.2)]).map encU8) ·) ?_
   refine dv (At.apK 23 5 1 1 123 108 122 encU8 o ([(u8Of r2_.2.2)]) (by simp only [List.length_map, List.length_append, List.length_take, List.length_drop, List.length_replicate, List.length_set, List.length_cons, List.length_nil]; omega) ·) ?_
   refine dv (At.z 1 ·) ?_
   refine dv (AW.g ·) ?_
   refine dv (At.a 2 ·) ?_
   refine dv (At.sI 17 ((k : Int) + 1) (by omega) ·) ?_
   refine dv (At.z 1 ·) ?_
   exact dw (fun _ h_ => AWL.weak (Sub.o [(0, 0), (123, 108)] [true, false, false, false, false, true, true, true]) h_) (ih1 (k + 1, (o ++ ([(u8Of r2_.2.2)])), r2_.1, r2_.2.1) (by simp only [List.length_append, List.length_cons, List.length_nil]; omega) (by simp only; omega))
 refine dv (AW.condF (decide ((k : Int) < r1_.2.2)) (by kernel_rfl) (decide_eq_false h1) ·) ?_
 refine dv (AW.exit ·) ?_
 refine dv (AW.q 2 ·) ?_
 refine dv (AW.ret ·) ?_
 refine dv (⟨_, Sub.refl _ _, ·⟩) ?_
 exact ⟨(p, s, o), (by dsimp only; omega), KF.mk (.inr rfl) [(0, 0), (108, 1)] [.ref 108] (by kernel_rfl) (by kernel_rfl) (by kernel_rfl) (by kernel_rfl) (by kernel_rfl)⟩
theorem spec_l3DrawText_spec  (c : Cur) (most : Int) (hp : 0 ≤ c.pos ∧ c.pos ≤ c.data.length ∧ c.data.length ≤ 1048576) (hm : 0 ≤ most ∧ most ≤ 100000) : ∃ rho_ : Int × Int × ByteArray, (0 ≤ rho_.1 ∧ rho_.1 ≤ c.data.length ∧ (rho_.2.2.size : Int) ≤ max most 0) ∧ FnSpec Try.prog 80 [.ptr 0 0 0, .int .i64 most] [.box 110 [.sl false 1 (c.data.map encU8), .int .i64 c.pos, .int .i64 c.seed]] (.str rho_.2.2) [.box 110 [.sl false 1 (c.data.map encU8), .int .i64 rho_.1, .int .i64 rho_.2.1]] := by
 refine dv (fun h_ => FnSpec.of 9 Try.func80 rfl Try.ntmps80 (by simp) (AW.weakK h_)) ?_
 refine dv (AW.q 1 ·) ?_
 refine dv (AW.r ·) ?_
 refine dv (At.a 2 ·) ?_
 refine Exists.elim (spec_l1DrawBytes_spec  c most (by omega) hm) fun r1_ hr1_ => ?_
 have qr1_ := hr1_.1
 try dsimp only at qr1_
 refine dv (At.c (hr1_.2) Try.call93 true [(0, 0)] [(1140, 1)] [] trivial ·) ?_
 refine dv (At.b2s (s := 28) (t := 9) (e := 5) (d := 8) (x := .tmp 7) (T := .ref 1140) (r1_.2.2) [] (by kernel_rfl) (by kernel_rfl) (by kernel_rfl) (by kernel_rfl) ⟨by kernel_rfl, .inl ⟨rfl, (allP_encU8 _)⟩⟩ ·) ?_
 refine dv (At.z 1 ·) ?_
 refine dv (AW.ret ·) ?_
 refine dv (⟨_, Sub.refl _ _, ·⟩) ?_
 exact ⟨(r1_.1, r1_.2.1, strOf r1_.2.2), (by dsimp only; rw [strOf_size]; omega), KF.mk (.inr rfl) [(0, 0)] [.str (strOf r1_.2.2)] (by kernel_rfl) (by kernel_rfl) (by kernel_rfl) (by kernel_rfl) (by kernel_rfl)⟩
theorem spec_l2Low_spec  (x : Int) : FnSpec Try.prog 99 [.int .i64 x] [] (.int .i64 (x % 4294967296)) [] := by
 refine FnSpec.of 5 Try.func99 rfl Try.ntmps99 (by simp) (AW.weakK ?_)
 refine AW.q 1 ?_
 refine AW.r ?_
 refine At.a 1 ?_
 refine At.bits (t := 3) (u := 3) (d := 4) (op := .and) (x := .tmp 3) (y := .const (.int .i64 4294967295)) (kd := .i64) (a := x) (b := 4294967295) (x % 4294967296) (by kernel_rfl) (by kernel_rfl) (by kernel_rfl) (by kernel_rfl) (andM 32 4294967296 _ _ (by decide) (by decide) (by decide)) ?_
 refine At.z 1 ?_
 exact AW.ret (rf (KF.n []))
theorem spec_l2Low_D_spec  (x : Int) : ∃ rho_ : Int, (True) ∧ FnSpec Try.prog 99 [.int .i64 x] [] (.int .i64 rho_) [] := ⟨_, trivial, spec_l2Low_spec x⟩
theorem spec_l2Turn_spec  (x : Int) (n : Int) (hn : 0 ≤ n ∧ n ≤ 32) : FnSpec Try.prog 98 [.int .i64 x, .int .i64 n] [] (.int .i64 (bitV .or .i64 (shV .shr .i64 x n) (shV .shl .i64 x (32 - n)) % 4294967296)) [] := by
 refine FnSpec.of 14 Try.func98 rfl Try.ntmps98 (by simp) (AW.weakK ?_)
 refine AW.q 1 ?_
 refine AW.seq ?_
 refine AW.gD Try_mix ?_
 refine At.a 2 ?_
 refine At.shift (t := 3) (u := 3) (d := 7) (op := .shr) (x := .tmp 5) (y := .tmp 6) (kd := .i64) (kd' := .i64) (a := x) (b := n) (shV .shr .i64 x n) (by kernel_rfl) (by kernel_rfl) (by kernel_rfl) (by kernel_rfl) (by omega) (shS_shr _ _ _) ?_
 refine At.a 3 ?_
 refine At.sI 10 (32 - n) (by omega) ?_
 refine At.shift (t := 3) (u := 3) (d := 11) (op := .shl) (x := .tmp 8) (y := .tmp 10) (kd := .i64) (kd' := .i64) (a := x) (b := 32 - n) (shV .shl .i64 x (32 - n)) (by kernel_rfl) (by kernel_rfl) (by kernel_rfl) (by kernel_rfl) (by omega) (shS_shl _ _ _) ?_
 refine At.bits (t := 3) (u := 3) (d := 12) (op := .or) (x := .tmp 7) (y := .tmp 11) (kd := .i64) (a := shV .shr .i64 x n) (b := shV .shl .i64 x (32 - n)) (bitV .or .i64 (shV .shr .i64 x n) (shV .shl .i64 x (32 - n))) (by kernel_rfl) (by kernel_rfl) (by kernel_rfl) (by kernel_rfl) (bitS_or _ _ _) ?_
 refine At.c (spec_l2Low_spec  (bitV .or .i64 (shV .shr .i64 x n) (shV .shl .i64 x (32 - n))) ) Try.call99 true [] [] [] trivial ?_
 refine At.zD 1 ?_
 refine AW.ret ?_
 refine ⟨_, Sub.refl _ _, ?_⟩
 refine KF.conv (fun w => .int .i64 w) (fun w => []) (show ((bitV .or .i64 (shV .shr .i64 x n) (shV .shl .i64 x (32 - n))) % 4294967296) = (bitV .or .i64 (shV .shr .i64 x n) (shV .shl .i64 x (32 - n)) % 4294967296) from by simp_all) ?_
 exact KF.n []
theorem spec_l2Turn_D_spec  (x : Int) (n : Int) (hn : 0 ≤ n ∧ n ≤ 32) : ∃ rho_ : Int, (True) ∧ FnSpec Try.prog 98 [.int .i64 x, .int .i64 n] [] (.int .i64 rho_) [] := ⟨_, trivial, spec_l2Turn_spec x n hn⟩
theorem spec_l2Keys_spec   : FnSpec Try.prog 100 [] [] (.ref 0) [.arr 3 1 (keysL.map encI)] := by
 refine FnSpec.of 2 Try.func100 rfl Try.ntmps100 (by simp) (AW.weakK ?_)
 refine AW.q 1 ?_
 refine AW.r ?_
 refine At.ll 1 3 1 101 (56, 6) (([1116352408, 1899447441, 3049323471, 3921009573, 961987163, 1508970993, 2453635748, 2870763221, 3624381080, 310598401, 607225278, 1426881987, 1925078388, 2162078206, 2614888103, 3248222580, 3835390401, 4022224774, 264347078, 604807628, 770255983, 1249150122, 1555081692, 1996064986, 2554220882, 2821834349, 2952996808, 3210313671, 3336571891, 3584528711, 113926993, 338241895, 666307205, 773529912, 1294757372, 1396182291, 1695183700, 1986661051, 2177026350, 2456956037, 2730485921, 2820302411, 3259730800, 3345764771, 3516065817, 3600352804, 4094571909, 275423344, 430227734, 506948616, 659060556, 883997877, 958139571, 1322822218, 1537002063, 1747873779, 1955562222, 2024104815, 2227730452, 2361852424, 2428436474, 2756734187, 3204031479, 3329325298]).map encI) ?_
 refine At.z 1 ?_
 refine AW.ret ?_
 refine ⟨_, Sub.refl _ _, ?_⟩
 refine KF.conv (fun w => .ref 0) (fun w => [.arr 3 1 (w.map encI)]) (show ([1116352408, 1899447441, 3049323471, 3921009573, 961987163, 1508970993, 2453635748, 2870763221, 3624381080, 310598401, 607225278, 1426881987, 1925078388, 2162078206, 2614888103, 3248222580, 3835390401, 4022224774, 264347078, 604807628, 770255983, 1249150122, 1555081692, 1996064986, 2554220882, 2821834349, 2952996808, 3210313671, 3336571891, 3584528711, 113926993, 338241895, 666307205, 773529912, 1294757372, 1396182291, 1695183700, 1986661051, 2177026350, 2456956037, 2730485921, 2820302411, 3259730800, 3345764771, 3516065817, 3600352804, 4094571909, 275423344, 430227734, 506948616, 659060556, 883997877, 958139571, 1322822218, 1537002063, 1747873779, 1955562222, 2024104815, 2227730452, 2361852424, 2428436474, 2756734187, 3204031479, 3329325298]) = (keysL) from rfl) ?_
 exact KF.n [(101, 0)]
theorem spec_l2Block_spec  (h : List Int) (b : List UInt8) (hh : h.length = 8) (hb : b.length = 64) : ∃ rho_ : List Int, (rho_.length = 8) ∧ FnSpec Try.prog 97 [.sl false 1 (h.map encI), .sl false 1 (b.map encU8)] [] (.ref 0) [.arr 3 1 (rho_.map encI)] := by
 have hkl : keysL.length = 64 := rfl
 refine dv (fun h_ => FnSpec.of 250 Try.func97 rfl Try.ntmps97 (by simp) (AW.weakK h_)) ?_
 refine dv (AW.q 1 ·) ?_
 refine dv (AW.r ·) ?_
 refine dv (At.lit0 (t := 85) (d := 21) (e := 3) (es := 1) (bytes := 8) 121 (by kernel_rfl) (by kernel_rfl) (by kernel_rfl) (by kernel_rfl) ·) ?_
 refine dv (At.z 1 ·) ?_
 refine dv (AW.seq ·) ?_
 refine dv (AW.q 1 ·) ?_
 refine dv (AW.block ·) ?_
 refine DW.loopQ (fun (x : Nat × List Int) => match x with | (k, w) => Go.Sy.mk [.sl false 1 (h.map encI), .sl false 1 (b.map encU8), .un, .un, .un, .ref 121, .int .i64 (k : Int)] [(121, .arr 3 1 (w.map encI))]) (fun (x : Nat × List Int) => match x with | (k, w) => 0 ≤ k ∧ k ≤ 16 ∧ w.length = k) (fun (x : Nat × List Int) => match x with | (k, w) => 16 - k) (0, []) (by simp) (Sub.o [(121, 121)] [true, true, false, false, false, true, true]) ?_
 rintro ⟨k, w⟩ hw ih1
 refine dv (AW.seq ·) ?_
 refine dv (AW.q 2 ·) ?_
 by_cases h1 : (k : Int) < 16
 · refine dv (AW.condT (decide ((k : Int) < 16)) (by kernel_rfl) (decide_eq_true h1) ·) ?_
   refine dv (AW.skip ·) ?_
   refine dv (AW.seq ·) ?_
   refine dv (AW.block ·) ?_
   refine dv (AW.gD Try_mix ·) ?_
   refine dv (At.a 4 ·) ?_
   refine dv (At.sI 29 (4 * (k : Int)) (by omega) ·) ?_
   refine dv (At.iSl 28 30 (.tmp 27) (.tmp 29) false 1 (b.map encU8) .i64 (4 * (k : Int)) 5 (by omega) (by simp only [List.length_map]; omega) ·) ?_
   refine Exists.elim (gE b ((4 * (k : Int)).toNat) (by omega)) fun e1 he1 => ?_
   refine dv (At.lVp 5 31 (.tmp 30) false 1 (b.map encU8) ((4 * (k : Int)).toNat) 0 false 1 (encU8 e1) (.int .u8 (e1.toNat : Int)) (mapGet he1) ·) ?_
   refine dv (At.conv (s := 5) (t := 3) (d := 32) (x := .tmp 31) (kd := .u8) (kd' := .i64) (a := (e1.toNat : Int)) (.int .i64 (e1.toNat : Int)) (by kernel_rfl) (by kernel_rfl) (by kernel_rfl) (by kernel_rfl) (sayI _ (by have := UInt8.toNat_lt e1; omega)) ·) ?_
   refine dv (At.shift (t := 3) (u := 93) (d := 33) (op := .shl) (x := .tmp 32) (y := .const (.int .u64 24)) (kd := .i64) (kd' := .u64) (a := (e1.toNat : Int)) (b := 24) (shV .shl .i64 (e1.toNat : Int) 24) (by kernel_rfl) (by kernel_rfl) (by kernel_rfl) (by kernel_rfl) (by omega) (shS_shl _ _ _) ·) ?_
   refine dv (At.a 3 ·) ?_
   refine dv (At.sI 36 (4 * (k : Int)) (by omega) ·) ?_
   refine dv (At.a 1 ·) ?_
   refine dv (At.sI 37 ((4 * (k : Int)) + 1) (by omega) ·) ?_
   refine dv (At.iSl 28 38 (.tmp 34) (.tmp 37) false 1 (b.map encU8) .i64 ((4 * (k : Int)) + 1) 5 (by omega) (by simp only [List.length_map]; omega) ·) ?_
   refine Exists.elim (gE b (((4 * (k : Int)) + 1).toNat) (by omega)) fun e2 he2 => ?_
   refine dv (At.lVp 5 39 (.tmp 38) false 1 (b.map encU8) (((4 * (k : Int)) + 1).toNat) 0 false 1 (encU8 e2) (.int .u8 (e2.toNat : Int)) (mapGet he2) ·) ?_
   refine dv (At.conv (s := 5) (t := 3) (d := 40) (x := .tmp 39) (kd := .u8) (kd' := .i64) (a := (e2.toNat : Int)) (.int .i64 (e2.toNat : Int)) (by kernel_rfl) (by kernel_rfl) (by kernel_rfl) (by kernel_rfl) (sayI _ (by have := UInt8.toNat_lt e2; omega)) ·) ?_
   refine dv (At.shift (t := 3) (u := 93) (d := 41) (op := .shl) (x := .tmp 40) (y := .const (.int .u64 16)) (kd := .i64) (kd' := .u64) (a := (e2.toNat : Int)) (b := 16) (shV .shl .i64 (e2.toNat : Int) 16) (by kernel_rfl) (by kernel_rfl) (by kernel_rfl) (by kernel_rfl) (by omega) (shS_shl _ _ _) ·) ?_
   refine dv (At.bits (t := 3) (u := 3) (d := 42) (op := .or) (x := .tmp 33) (y := .tmp 41) (kd := .i64) (a := shV .shl .i64 (e1.toNat : Int) 24) (b := shV .shl .i64 (e2.toNat : Int) 16) (bitV .or .i64 (shV .shl .i64 (e1.toNat : Int) 24) (shV .shl .i64 (e2.toNat : Int) 16)) (by kernel_rfl) (by kernel_rfl) (by kernel_rfl) (by kernel_rfl) (bitS_or _ _ _) ·) ?_
   refine dv (At.a 3 ·) ?_
   refine dv (At.sI 45 (4 * (k : Int)) (by omega) ·) ?_
   refine dv (At.a 1 ·) ?_
   refine dv (At.sI 46 ((4 * (k : Int)) + 2) (by omega) ·) ?_
   refine dv (At.iSl 28 47 (.tmp 43) (.tmp 46) false 1 (b.map encU8) .i64 ((4 * (k : Int)) + 2) 5 (by omega) (by simp only [List.length_map]; omega) ·) ?_
   refine Exists.elim (gE b (((4 * (k : Int)) + 2).toNat) (by omega)) fun e3 he3 => ?_
   refine dv (At.lVp 5 48 (.tmp 47) false 1 (b.map encU8) (((4 * (k : Int)) + 2).toNat) 0 false 1 (encU8 e3) (.int .u8 (e3.toNat : Int)) (mapGet he3) ·) ?_
   refine dv (At.conv (s := 5) (t := 3) (d := 49) (x := .tmp 48) (kd := .u8) (kd' := .i64) (a := (e3.toNat : Int)) (.int .i64 (e3.toNat : Int)) (by kernel_rfl) (by kernel_rfl) (by kernel_rfl) (by kernel_rfl) (sayI _ (by have := UInt8.toNat_lt e3; omega)) ·) ?_
   refine dv (At.shift (t := 3) (u := 93) (d := 50) (op := .shl) (x := .tmp 49) (y := .const (.int .u64 8)) (kd := .i64) (kd' := .u64) (a := (e3.toNat : Int)) (b := 8) (shV .shl .i64 (e3.toNat : Int) 8) (by kernel_rfl) (by kernel_rfl) (by kernel_rfl) (by kernel_rfl) (by omega) (shS_shl _ _ _) ·) ?_
   refine dv (At.bits (t := 3) (u := 3) (d := 51) (op := .or) (x := .tmp 42) (y := .tmp 50) (kd := .i64) (a := bitV .or .i64 (shV .shl .i64 (e1.toNat : Int) 24) (shV .shl .i64 (e2.toNat : Int) 16)) (b := shV .shl .i64 (e3.toNat : Int) 8) (bitV .or .i64 (bitV .or .i64 (shV .shl .i64 (e1.toNat : Int) 24) (shV .shl .i64 (e2.toNat : Int) 16)) (shV .shl .i64 (e3.toNat : Int) 8)) (by kernel_rfl) (by kernel_rfl) (by kernel_rfl) (by kernel_rfl) (bitS_or _ _ _) ·) ?_
   refine dv (At.a 3 ·) ?_
   refine dv (At.sI 54 (4 * (k : Int)) (by omega) ·) ?_
   refine dv (At.a 1 ·) ?_
   refine dv (At.sI 55 ((4 * (k : Int)) + 3) (by omega) ·) ?_
   refine dv (At.iSl 28 56 (.tmp 52) (.tmp 55) false 1 (b.map encU8) .i64 ((4 * (k : Int)) + 3) 5 (by omega) (by simp only [List.length_map]; omega) ·) ?_
   refine Exists.elim (gE b (((4 * (k : Int)) + 3).toNat) (by omega)) fun e4 he4 => ?_
   refine dv (At.lVp 5 57 (.tmp 56) false 1 (b.map encU8) (((4 * (k : Int)) + 3).toNat) 0 false 1 (encU8 e4) (.int .u8 (e4.toNat : Int)) (mapGet he4) ·) ?_
   refine dv (At.conv (s := 5) (t := 3) (d := 58) (x := .tmp 57) (kd := .u8) (kd' := .i64) (a := (e4.toNat : Int)) (.int .i64 (e4.toNat : Int)) (by kernel_rfl) (by kernel_rfl) (by kernel_rfl) (by kernel_rfl) (sayI _ (by have := UInt8.toNat_lt e4; omega)) ·) ?_
   refine dv (At.bits (t := 3) (u := 3) (d := 59) (op := .or) (x := .tmp 51) (y := .tmp 58) (kd := .i64) (a := bitV .or .i64 (bitV .or .i64 (shV .shl .i64 (e1.toNat : Int) 24) (shV .shl .i64 (e2.toNat : Int) 16)) (shV .shl .i64 (e3.toNat : Int) 8)) (b := (e4.toNat : Int)) (bitV .or .i64 (bitV .or .i64 (bitV .or .i64 (shV .shl .i64 (e1.toNat : Int) 24) (shV .shl .i64 (e2.toNat : Int) 16)) (shV .shl .i64 (e3.toNat : Int) 8)) (e4.toNat : Int)) (by kernel_rfl) (by kernel_rfl) (by kernel_rfl) (by kernel_rfl) (bitS_or _ _ _) ·) ?_
   refine dv (At.ll 60 3 1 160 (56, 6) (([bitV .or .i64 (bitV .or .i64 (bitV .or .i64 (shV .shl .i64 (e1.toNat : Int) 24) (shV .shl .i64 (e2.toNat : Int) 16)) (shV .shl .i64 (e3.toNat : Int) 8)) (e4.toNat : Int)]).map encI) ·) ?_
   refine dv (At.apK 61 3 1 8 161 121 160 encI w ([bitV .or .i64 (bitV .or .i64 (bitV .or .i64 (shV .shl .i64 (e1.toNat : Int) 24) (shV .shl .i64 (e2.toNat : Int) 16)) (shV .shl .i64 (e3.toNat : Int) 8)) (e4.toNat : Int)]) (by simp only [List.length_map, List.length_append, List.length_take, List.length_drop, List.length_replicate, List.length_set, List.length_cons, List.length_nil]; omega) ·) ?_
   refine dv (At.zD 1 ·) ?_
   refine dv (AW.g ·) ?_
   refine dv (At.a 2 ·) ?_
   refine dv (At.sI 25 ((k : Int) + 1) (by omega) ·) ?_
   refine dv (At.z 1 ·) ?_
   exact dw (fun _ h_ => AWL.weak (Sub.o [(161, 121)] [true, true, false, false, false, true, true]) h_) (ih1 (k + 1, (w ++ ([bitV .or .i64 (bitV .or .i64 (bitV .or .i64 (shV .shl .i64 (e1.toNat : Int) 24) (shV .shl .i64 (e2.toNat : Int) 16)) (shV .shl .i64 (e3.toNat : Int) 8)) (e4.toNat : Int)]))) (by simp only [List.length_append, List.length_cons, List.length_nil]; omega) (by simp only; omega))
 refine dv (AW.condF (decide ((k : Int) < 16)) (by kernel_rfl) (decide_eq_false h1) ·) ?_
 refine dv (AW.exit ·) ?_
 refine dv (AW.seq ·) ?_
 refine dv (AW.q 1 ·) ?_
 refine dv (AW.block ·) ?_
 refine DW.loopQ (fun (x : Nat × List Int) => match x with | (k, w) => Go.Sy.mk [.sl false 1 (h.map encI), .un, .un, .un, .un, .ref 121, .un, .int .i64 (k : Int)] [(121, .arr 3 1 (w.map encI))]) (fun (x : Nat × List Int) => match x with | (k, w) => 16 ≤ k ∧ k ≤ 64 ∧ w.length = k) (fun (x : Nat × List Int) => match x with | (k, w) => 64 - k) (16, w) (by simp only; omega) (Sub.o [(121, 121)] [true, false, false, false, false, true, false, true]) ?_
 rintro ⟨k, w⟩ hw ih2
 refine dv (AW.seq ·) ?_
 refine dv (AW.q 2 ·) ?_
 by_cases h2 : (k : Int) < 64
 · refine dv (AW.condT (decide ((k : Int) < 64)) (by kernel_rfl) (decide_eq_true h2) ·) ?_
   refine dv (AW.skip ·) ?_
   refine dv (AW.seq ·) ?_
   refine dv (AW.block ·) ?_
   refine dv (AW.seq ·) ?_
   refine dv (AW.gD Try_mix ·) ?_
   refine dv (At.a 3 ·) ?_
   refine dv (At.sI 68 ((k : Int) - 15) (by omega) ·) ?_
   refine dv (At.iRf 85 69 (.tmp 66) (.tmp 68) 121 (w.map encI) .i64 ((k : Int) - 15) 3 1 (by omega) (by simp only [List.length_map]; omega) ·) ?_
   refine Exists.elim (gE w (((k : Int) - 15).toNat) (by omega)) fun e5 he5 => ?_
   refine dv (At.lEl 3 70 (.tmp 69) 121 3 1 (w.map encI) (((k : Int) - 15).toNat) 0 false 1 (encI e5) (.int .i64 e5) (mapGet he5) ·) ?_
   refine Exists.elim (spec_l2Turn_D_spec  e5 7 (by omega)) fun r1_ hr1_ => ?_
   have qr1_ := hr1_.1
   try dsimp only at qr1_
   refine dv (At.c (hr1_.2) Try.call98 true [] [] [] trivial ·) ?_
   refine dv (At.a 3 ·) ?_
   refine dv (At.sI 74 ((k : Int) - 15) (by omega) ·) ?_
   refine dv (At.iRf 85 75 (.tmp 72) (.tmp 74) 121 (w.map encI) .i64 ((k : Int) - 15) 3 1 (by omega) (by simp only [List.length_map]; omega) ·) ?_
   refine dv (At.lEl 3 76 (.tmp 75) 121 3 1 (w.map encI) (((k : Int) - 15).toNat) 0 false 1 (encI e5) (.int .i64 e5) (mapGet he5) ·) ?_
   refine Exists.elim (spec_l2Turn_D_spec  e5 18 (by omega)) fun r2_ hr2_ => ?_
   have qr2_ := hr2_.1
   try dsimp only at qr2_
   refine dv (At.c (hr2_.2) Try.call98 true [] [] [] trivial ·) ?_
   refine dv (At.bits (t := 3) (u := 3) (d := 78) (op := .xor) (x := .tmp 71) (y := .tmp 77) (kd := .i64) (a := r1_) (b := r2_) (bitV .xor .i64 r1_ r2_) (by kernel_rfl) (by kernel_rfl) (by kernel_rfl) (by kernel_rfl) (bitS_xor _ _ _) ·) ?_
   refine dv (At.a 3 ·) ?_
   refine dv (At.sI 81 ((k : Int) - 15) (by omega) ·) ?_
   refine dv (At.iRf 85 82 (.tmp 79) (.tmp 81) 121 (w.map encI) .i64 ((k : Int) - 15) 3 1 (by omega) (by simp only [List.length_map]; omega) ·) ?_
   refine dv (At.lEl 3 83 (.tmp 82) 121 3 1 (w.map encI) (((k : Int) - 15).toNat) 0 false 1 (encI e5) (.int .i64 e5) (mapGet he5) ·) ?_
   refine dv (At.shift (t := 3) (u := 93) (d := 84) (op := .shr) (x := .tmp 83) (y := .const (.int .u64 3)) (kd := .i64) (kd' := .u64) (a := e5) (b := 3) (shV .shr .i64 e5 3) (by kernel_rfl) (by kernel_rfl) (by kernel_rfl) (by kernel_rfl) (by omega) (shS_shr _ _ _) ·) ?_
   refine dv (At.bits (t := 3) (u := 3) (d := 85) (op := .xor) (x := .tmp 78) (y := .tmp 84) (kd := .i64) (a := bitV .xor .i64 r1_ r2_) (b := shV .shr .i64 e5 3) (bitV .xor .i64 (bitV .xor .i64 r1_ r2_) (shV .shr .i64 e5 3)) (by kernel_rfl) (by kernel_rfl) (by kernel_rfl) (by kernel_rfl) (bitS_xor _ _ _) ·) ?_
   refine dv (At.zD 1 ·) ?_
   refine dv (AW.seq ·) ?_
   refine dv (AW.gD Try_mix ·) ?_
   refine dv (At.a 3 ·) ?_
   refine dv (At.sI 88 ((k : Int) - 2) (by omega) ·) ?_
   refine dv (At.iRf 85 89 (.tmp 86) (.tmp 88) 121 (w.map encI) .i64 ((k : Int) - 2) 3 1 (by omega) (by simp only [List.length_map]; omega) ·) ?_
   refine Exists.elim (gE w (((k : Int) - 2).toNat) (by omega)) fun e6 he6 => ?_
   refine dv (At.lEl 3 90 (.tmp 89) 121 3 1 (w.map encI) (((k : Int) - 2).toNat) 0 false 1 (encI e6) (.int .i64 e6) (mapGet he6) ·) ?_
   refine Exists.elim (spec_l2Turn_D_spec  e6 17 (by omega)) fun r3_ hr3_ => ?_
   have qr3_ := hr3_.1
   try dsimp only at qr3_
   refine dv (At.c (hr3_.2) Try.call98 true [] [] [] trivial ·) ?_
   refine dv (At.a 3 ·) ?_
   refine dv (At.sI 94 ((k : Int) - 2) (by omega) ·) ?_
   refine dv (At.iRf 85 95 (.tmp 92) (.tmp 94) 121 (w.map encI) .i64 ((k : Int) - 2) 3 1 (by omega) (by simp only [List.length_map]; omega) ·) ?_
   refine dv (At.lEl 3 96 (.tmp 95) 121 3 1 (w.map encI) (((k : Int) - 2).toNat) 0 false 1 (encI e6) (.int .i64 e6) (mapGet he6) ·) ?_
   refine Exists.elim (spec_l2Turn_D_spec  e6 19 (by omega)) fun r4_ hr4_ => ?_
   have qr4_ := hr4_.1
   try dsimp only at qr4_
   refine dv (At.c (hr4_.2) Try.call98 true [] [] [] trivial ·) ?_
   refine dv (At.bits (t := 3) (u := 3) (d := 98) (op := .xor) (x := .tmp 91) (y := .tmp 97) (kd := .i64) (a := r3_) (b := r4_) (bitV .xor .i64 r3_ r4_) (by kernel_rfl) (by kernel_rfl) (by kernel_rfl) (by kernel_rfl) (bitS_xor _ _ _) ·) ?_
   refine dv (At.a 3 ·) ?_
   refine dv (At.sI 101 ((k : Int) - 2) (by omega) ·) ?_
   refine dv (At.iRf 85 102 (.tmp 99) (.tmp 101) 121 (w.map encI) .i64 ((k : Int) - 2) 3 1 (by omega) (by simp only [List.length_map]; omega) ·) ?_
   refine dv (At.lEl 3 103 (.tmp 102) 121 3 1 (w.map encI) (((k : Int) - 2).toNat) 0 false 1 (encI e6) (.int .i64 e6) (mapGet he6) ·) ?_
   refine dv (At.shift (t := 3) (u := 93) (d := 104) (op := .shr) (x := .tmp 103) (y := .const (.int .u64 10)) (kd := .i64) (kd' := .u64) (a := e6) (b := 10) (shV .shr .i64 e6 10) (by kernel_rfl) (by kernel_rfl) (by kernel_rfl) (by kernel_rfl) (by omega) (shS_shr _ _ _) ·) ?_
   refine dv (At.bits (t := 3) (u := 3) (d := 105) (op := .xor) (x := .tmp 98) (y := .tmp 104) (kd := .i64) (a := bitV .xor .i64 r3_ r4_) (b := shV .shr .i64 e6 10) (bitV .xor .i64 (bitV .xor .i64 r3_ r4_) (shV .shr .i64 e6 10)) (by kernel_rfl) (by kernel_rfl) (by kernel_rfl) (by kernel_rfl) (bitS_xor _ _ _) ·) ?_
   refine dv (At.zD 1 ·) ?_
   refine dv (AW.gD Try_mix ·) ?_
   refine dv (At.a 5 ·) ?_
   refine dv (At.sI 110 ((k : Int) - 7) (by omega) ·) ?_
   refine dv (At.iRf 85 111 (.tmp 108) (.tmp 110) 121 (w.map encI) .i64 ((k : Int) - 7) 3 1 (by omega) (by simp only [List.length_map]; omega) ·) ?_
   refine Exists.elim (gE w (((k : Int) - 7).toNat) (by omega)) fun e7 he7 => ?_
   refine dv (At.lEl 3 112 (.tmp 111) 121 3 1 (w.map encI) (((k : Int) - 7).toNat) 0 false 1 (encI e7) (.int .i64 e7) (mapGet he7) ·) ?_
   refine dv (At.a 6 ·) ?_
   refine dv (At.sI 118 ((k : Int) - 16) (by omega) ·) ?_
   refine dv (At.iRf 85 119 (.tmp 116) (.tmp 118) 121 (w.map encI) .i64 ((k : Int) - 16) 3 1 (by omega) (by simp only [List.length_map]; omega) ·) ?_
   refine Exists.elim (gE w (((k : Int) - 16).toNat) (by omega)) fun e8 he8 => ?_
   refine dv (At.lEl 3 120 (.tmp 119) 121 3 1 (w.map encI) (((k : Int) - 16).toNat) 0 false 1 (encI e8) (.int .i64 e8) (mapGet he8) ·) ?_
   refine dv (At.a 1 ·) ?_
   refine Exists.elim (spec_l2Low_D_spec  (IntKind.i64.wrap ((IntKind.i64.wrap ((IntKind.i64.wrap ((bitV .xor .i64 (bitV .xor .i64 r3_ r4_) (shV .shr .i64 e6 10)) + e7)) + (bitV .xor .i64 (bitV .xor .i64 r1_ r2_) (shV .shr .i64 e5 3)))) + e8)) ) fun r5_ hr5_ => ?_
   have qr5_ := hr5_.1
   try dsimp only at qr5_
   refine dv (At.c (hr5_.2) Try.call99 true [] [] [] trivial ·) ?_
   refine dv (At.ll 123 3 1 223 (56, 6) (([r5_]).map encI) ·) ?_
   refine dv (At.apK 124 3 1 8 224 121 223 encI w ([r5_]) (by simp only [List.length_map, List.length_append, List.length_take, List.length_drop, List.length_replicate, List.length_set, List.length_cons, List.length_nil]; omega) ·) ?_
   refine dv (At.zD 1 ·) ?_
   refine dv (AW.g ·) ?_
   refine dv (At.a 2 ·) ?_
   refine dv (At.sI 65 ((k : Int) + 1) (by omega) ·) ?_
   refine dv (At.z 1 ·) ?_
   exact dw (fun _ h_ => AWL.weak (Sub.o [(224, 121)] [true, false, false, false, false, true, false, true]) h_) (ih2 (k + 1, (w ++ ([r5_]))) (by simp only [List.length_append, List.length_cons, List.length_nil]; omega) (by simp only; omega))
 refine dv (AW.condF (decide ((k : Int) < 64)) (by kernel_rfl) (decide_eq_false h2) ·) ?_
 refine dv (AW.exit ·) ?_
 refine dv (AW.r ·) ?_
 refine dv (At.c (spec_l2Keys_spec   ) Try.call100 true [] [(3500, 0)] [] trivial ·) ?_
 refine dv (At.z 1 ·) ?_
 refine dv (AW.r ·) ?_
 refine dv (At.lit0 (t := 85) (d := 126) (e := 3) (es := 1) (bytes := 8) 226 (by kernel_rfl) (by kernel_rfl) (by kernel_rfl) (by kernel_rfl) ·) ?_
 refine dv (At.a 1 ·) ?_
 refine dv (At.append (t := 85) (d := 128) (e := 3) (es := 1) (bytes := 8) (s := .tmp 126) (x := .tmp 127) (S := .ref 226) (T := .sl false 1 (h.map encI)) (xs := []) (ys := (h.map encI)) 228 [226] [] (h.map encI) (by kernel_rfl) (by kernel_rfl) (by kernel_rfl) (by kernel_rfl) ⟨by kernel_rfl, rfl⟩ ⟨rfl, rfl, (allP_encI _), rfl⟩ (by kernel_rfl) (by kernel_rfl) (by simp) (by simp only [List.length_map, List.length_append, List.length_take, List.length_drop, List.length_replicate, List.length_set, List.length_cons, List.length_nil]; omega) (by simp only [List.length_map, List.length_append, List.length_take, List.length_drop, List.length_replicate, List.length_set, List.length_cons, List.length_nil]; omega) ·) ?_
 refine dv (At.z 1 ·) ?_
 refine dv (AW.seq ·) ?_
 refine dv (AW.q 1 ·) ?_
 refine dv (AW.block ·) ?_
 refine DW.loopQ (fun (x : Nat × List Int) => match x with | (k, v) => Go.Sy.mk [.sl false 1 (h.map encI), .un, .un, .un, .un, .ref 121, .un, .un, .un, .un, .ref 3500, .ref 228, .int .i64 (k : Int)] [(121, .arr 3 1 (w.map encI)), (228, .arr 3 1 (v.map encI)), (3500, .arr 3 1 (keysL.map encI))]) (fun (x : Nat × List Int) => match x with | (k, v) => k ≤ 64 ∧ v.length = 8) (fun (x : Nat × List Int) => match x with | (k, v) => 64 - k) (0, h) (by simp only; omega) (Sub.o [(121, 121), (228, 228), (3500, 3500)] [true, false, false, false, false, true, false, false, false, false, true, true, true]) ?_
 rintro ⟨k, v⟩ hw ih3
 refine dv (AW.seq ·) ?_
 refine dv (AW.q 2 ·) ?_
 by_cases h3 : (k : Int) < 64
 · refine dv (AW.condT (decide ((k : Int) < 64)) (by kernel_rfl) (decide_eq_true h3) ·) ?_
   refine dv (AW.skip ·) ?_
   refine dv (AW.seq ·) ?_
   refine dv (AW.block ·) ?_
   refine dv (AW.seq ·) ?_
   refine dv (AW.gD Try_mix ·) ?_
   refine dv (At.a 1 ·) ?_
   refine dv (At.iRf 85 134 (.tmp 133) (.const (.int .i64 4)) 228 (v.map encI) .i64 4 3 1 (by omega) (by simp only [List.length_map]; omega) ·) ?_
   refine Exists.elim (gE v 4 (by omega)) fun e9 he9 => ?_
   refine dv (At.lEl 3 135 (.tmp 134) 228 3 1 (v.map encI) 4 0 false 1 (encI e9) (.int .i64 e9) (mapGet he9) ·) ?_
   refine dv (At.a 1 ·) ?_
   refine dv (At.iRf 85 137 (.tmp 136) (.const (.int .i64 0)) 228 (v.map encI) .i64 0 3 1 (by omega) (by simp only [List.length_map]; omega) ·) ?_
   refine Exists.elim (gE v 0 (by omega)) fun e10 he10 => ?_
   refine dv (At.lEl 3 138 (.tmp 137) 228 3 1 (v.map encI) 0 0 false 1 (encI e10) (.int .i64 e10) (mapGet he10) ·) ?_
   refine dv (At.zD 2 ·) ?_
   refine dv (AW.seq ·) ?_
   refine dv (AW.gD Try_mix ·) ?_
   refine dv (At.a 2 ·) ?_
   refine dv (At.iRf 85 141 (.tmp 140) (.const (.int .i64 5)) 228 (v.map encI) .i64 5 3 1 (by omega) (by simp only [List.length_map]; omega) ·) ?_
   refine Exists.elim (gE v 5 (by omega)) fun e11 he11 => ?_
   refine dv (At.lEl 3 142 (.tmp 141) 228 3 1 (v.map encI) 5 0 false 1 (encI e11) (.int .i64 e11) (mapGet he11) ·) ?_
   refine dv (At.bits (t := 3) (u := 3) (d := 143) (op := .and) (x := .tmp 139) (y := .tmp 142) (kd := .i64) (a := e9) (b := e11) (bitV .and .i64 e9 e11) (by kernel_rfl) (by kernel_rfl) (by kernel_rfl) (by kernel_rfl) (bitS_and _ _ _) ·) ?_
   refine dv (At.a 1 ·) ?_
   refine dv (At.bits (t := 3) (u := 3) (d := 145) (op := .xor) (x := .const (.int .i64 4294967295)) (y := .tmp 144) (kd := .i64) (a := 4294967295) (b := e9) (bitV .xor .i64 4294967295 e9) (by kernel_rfl) (by kernel_rfl) (by kernel_rfl) (by kernel_rfl) (bitS_xor _ _ _) ·) ?_
   refine dv (At.a 1 ·) ?_
   refine dv (At.iRf 85 147 (.tmp 146) (.const (.int .i64 6)) 228 (v.map encI) .i64 6 3 1 (by omega) (by simp only [List.length_map]; omega) ·) ?_
   refine Exists.elim (gE v 6 (by omega)) fun e12 he12 => ?_
   refine dv (At.lEl 3 148 (.tmp 147) 228 3 1 (v.map encI) 6 0 false 1 (encI e12) (.int .i64 e12) (mapGet he12) ·) ?_
   refine dv (At.bits (t := 3) (u := 3) (d := 149) (op := .and) (x := .tmp 145) (y := .tmp 148) (kd := .i64) (a := bitV .xor .i64 4294967295 e9) (b := e12) (bitV .and .i64 (bitV .xor .i64 4294967295 e9) e12) (by kernel_rfl) (by kernel_rfl) (by kernel_rfl) (by kernel_rfl) (bitS_and _ _ _) ·) ?_
   refine dv (At.bits (t := 3) (u := 3) (d := 150) (op := .xor) (x := .tmp 143) (y := .tmp 149) (kd := .i64) (a := bitV .and .i64 e9 e11) (b := bitV .and .i64 (bitV .xor .i64 4294967295 e9) e12) (bitV .xor .i64 (bitV .and .i64 e9 e11) (bitV .and .i64 (bitV .xor .i64 4294967295 e9) e12)) (by kernel_rfl) (by kernel_rfl) (by kernel_rfl) (by kernel_rfl) (bitS_xor _ _ _) ·) ?_
   refine dv (At.zD 1 ·) ?_
   refine dv (AW.seq ·) ?_
   refine dv (AW.gD Try_mix ·) ?_
   refine dv (At.a 1 ·) ?_
   refine dv (At.iRf 85 152 (.tmp 151) (.const (.int .i64 7)) 228 (v.map encI) .i64 7 3 1 (by omega) (by simp only [List.length_map]; omega) ·) ?_
   refine Exists.elim (gE v 7 (by omega)) fun e13 he13 => ?_
   refine dv (At.lEl 3 153 (.tmp 152) 228 3 1 (v.map encI) 7 0 false 1 (encI e13) (.int .i64 e13) (mapGet he13) ·) ?_
   refine dv (At.a 1 ·) ?_
   refine Exists.elim (spec_l2Turn_D_spec  e9 6 (by omega)) fun r1_ hr1_ => ?_
   have qr1_ := hr1_.1
   try dsimp only at qr1_
   refine dv (At.c (hr1_.2) Try.call98 true [] [] [] trivial ·) ?_
   refine dv (At.a 1 ·) ?_
   refine Exists.elim (spec_l2Turn_D_spec  e9 11 (by omega)) fun r2_ hr2_ => ?_
   have qr2_ := hr2_.1
   try dsimp only at qr2_
   refine dv (At.c (hr2_.2) Try.call98 true [] [] [] trivial ·) ?_
   refine dv (At.bits (t := 3) (u := 3) (d := 158) (op := .xor) (x := .tmp 155) (y := .tmp 157) (kd := .i64) (a := r1_) (b := r2_) (bitV .xor .i64 r1_ r2_) (by kernel_rfl) (by kernel_rfl) (by kernel_rfl) (by kernel_rfl) (bitS_xor _ _ _) ·) ?_
   refine dv (At.a 1 ·) ?_
   refine Exists.elim (spec_l2Turn_D_spec  e9 25 (by omega)) fun r3_ hr3_ => ?_
   have qr3_ := hr3_.1
   try dsimp only at qr3_
   refine dv (At.c (hr3_.2) Try.call98 true [] [] [] trivial ·) ?_
   refine dv (At.bits (t := 3) (u := 3) (d := 161) (op := .xor) (x := .tmp 158) (y := .tmp 160) (kd := .i64) (a := bitV .xor .i64 r1_ r2_) (b := r3_) (bitV .xor .i64 (bitV .xor .i64 r1_ r2_) r3_) (by kernel_rfl) (by kernel_rfl) (by kernel_rfl) (by kernel_rfl) (bitS_xor _ _ _) ·) ?_
   refine dv (At.a 5 ·) ?_
   refine dv (At.iRf 85 167 (.tmp 165) (.tmp 166) 3500 (keysL.map encI) .i64 (k : Int) 3 1 (by omega) (by simp only [List.length_map]; omega) ·) ?_
   refine Exists.elim (gE keysL k (by omega)) fun e14 he14 => ?_
   refine dv (At.lEl 3 168 (.tmp 167) 3500 3 1 (keysL.map encI) k 0 false 1 (encI e14) (.int .i64 e14) (mapGet he14) ·) ?_
   refine dv (At.a 3 ·) ?_
   refine dv (At.iRf 85 172 (.tmp 170) (.tmp 171) 121 (w.map encI) .i64 (k : Int) 3 1 (by omega) (by simp only [List.length_map]; omega) ·) ?_
   refine Exists.elim (gE w k (by omega)) fun e15 he15 => ?_
   refine dv (At.lEl 3 173 (.tmp 172) 121 3 1 (w.map encI) k 0 false 1 (encI e15) (.int .i64 e15) (mapGet he15) ·) ?_
   refine dv (At.a 1 ·) ?_
   refine Exists.elim (spec_l2Low_D_spec  (IntKind.i64.wrap ((IntKind.i64.wrap ((IntKind.i64.wrap ((IntKind.i64.wrap (e13 + (bitV .xor .i64 (bitV .xor .i64 r1_ r2_) r3_))) + (bitV .xor .i64 (bitV .and .i64 e9 e11) (bitV .and .i64 (bitV .xor .i64 4294967295 e9) e12)))) + e14)) + e15)) ) fun r4_ hr4_ => ?_
   have qr4_ := hr4_.1
   try dsimp only at qr4_
   refine dv (At.c (hr4_.2) Try.call99 true [] [] [] trivial ·) ?_
   refine dv (At.zD 1 ·) ?_
   refine dv (AW.seq ·) ?_
   refine dv (AW.gD Try_mix ·) ?_
   refine dv (At.a 2 ·) ?_
   refine dv (At.iRf 85 178 (.tmp 177) (.const (.int .i64 1)) 228 (v.map encI) .i64 1 3 1 (by omega) (by simp only [List.length_map]; omega) ·) ?_
   refine Exists.elim (gE v 1 (by omega)) fun e16 he16 => ?_
   refine dv (At.lEl 3 179 (.tmp 178) 228 3 1 (v.map encI) 1 0 false 1 (encI e16) (.int .i64 e16) (mapGet he16) ·) ?_
   refine dv (At.bits (t := 3) (u := 3) (d := 180) (op := .and) (x := .tmp 176) (y := .tmp 179) (kd := .i64) (a := e10) (b := e16) (bitV .and .i64 e10 e16) (by kernel_rfl) (by kernel_rfl) (by kernel_rfl) (by kernel_rfl) (bitS_and _ _ _) ·) ?_
   refine dv (At.a 2 ·) ?_
   refine dv (At.iRf 85 183 (.tmp 182) (.const (.int .i64 2)) 228 (v.map encI) .i64 2 3 1 (by omega) (by simp only [List.length_map]; omega) ·) ?_
   refine Exists.elim (gE v 2 (by omega)) fun e17 he17 => ?_
   refine dv (At.lEl 3 184 (.tmp 183) 228 3 1 (v.map encI) 2 0 false 1 (encI e17) (.int .i64 e17) (mapGet he17) ·) ?_
   refine dv (At.bits (t := 3) (u := 3) (d := 185) (op := .and) (x := .tmp 181) (y := .tmp 184) (kd := .i64) (a := e10) (b := e17) (bitV .and .i64 e10 e17) (by kernel_rfl) (by kernel_rfl) (by kernel_rfl) (by kernel_rfl) (bitS_and _ _ _) ·) ?_
   refine dv (At.bits (t := 3) (u := 3) (d := 186) (op := .xor) (x := .tmp 180) (y := .tmp 185) (kd := .i64) (a := bitV .and .i64 e10 e16) (b := bitV .and .i64 e10 e17) (bitV .xor .i64 (bitV .and .i64 e10 e16) (bitV .and .i64 e10 e17)) (by kernel_rfl) (by kernel_rfl) (by kernel_rfl) (by kernel_rfl) (bitS_xor _ _ _) ·) ?_
   refine dv (At.a 1 ·) ?_
   refine dv (At.iRf 85 188 (.tmp 187) (.const (.int .i64 1)) 228 (v.map encI) .i64 1 3 1 (by omega) (by simp only [List.length_map]; omega) ·) ?_
   refine dv (At.lEl 3 189 (.tmp 188) 228 3 1 (v.map encI) 1 0 false 1 (encI e16) (.int .i64 e16) (mapGet he16) ·) ?_
   refine dv (At.a 1 ·) ?_
   refine dv (At.iRf 85 191 (.tmp 190) (.const (.int .i64 2)) 228 (v.map encI) .i64 2 3 1 (by omega) (by simp only [List.length_map]; omega) ·) ?_
   refine dv (At.lEl 3 192 (.tmp 191) 228 3 1 (v.map encI) 2 0 false 1 (encI e17) (.int .i64 e17) (mapGet he17) ·) ?_
   refine dv (At.bits (t := 3) (u := 3) (d := 193) (op := .and) (x := .tmp 189) (y := .tmp 192) (kd := .i64) (a := e16) (b := e17) (bitV .and .i64 e16 e17) (by kernel_rfl) (by kernel_rfl) (by kernel_rfl) (by kernel_rfl) (bitS_and _ _ _) ·) ?_
   refine dv (At.bits (t := 3) (u := 3) (d := 194) (op := .xor) (x := .tmp 186) (y := .tmp 193) (kd := .i64) (a := bitV .xor .i64 (bitV .and .i64 e10 e16) (bitV .and .i64 e10 e17)) (b := bitV .and .i64 e16 e17) (bitV .xor .i64 (bitV .xor .i64 (bitV .and .i64 e10 e16) (bitV .and .i64 e10 e17)) (bitV .and .i64 e16 e17)) (by kernel_rfl) (by kernel_rfl) (by kernel_rfl) (by kernel_rfl) (bitS_xor _ _ _) ·) ?_
   refine dv (At.zD 1 ·) ?_
   refine dv (AW.r ·) ?_
   refine dv (At.a 1 ·) ?_
   refine Exists.elim (spec_l2Turn_D_spec  e10 2 (by omega)) fun r5_ hr5_ => ?_
   have qr5_ := hr5_.1
   try dsimp only at qr5_
   refine dv (At.c (hr5_.2) Try.call98 true [] [] [] trivial ·) ?_
   refine dv (At.a 1 ·) ?_
   refine Exists.elim (spec_l2Turn_D_spec  e10 13 (by omega)) fun r6_ hr6_ => ?_
   have qr6_ := hr6_.1
   try dsimp only at qr6_
   refine dv (At.c (hr6_.2) Try.call98 true [] [] [] trivial ·) ?_
   refine dv (At.bits (t := 3) (u := 3) (d := 199) (op := .xor) (x := .tmp 196) (y := .tmp 198) (kd := .i64) (a := r5_) (b := r6_) (bitV .xor .i64 r5_ r6_) (by kernel_rfl) (by kernel_rfl) (by kernel_rfl) (by kernel_rfl) (bitS_xor _ _ _) ·) ?_
   refine dv (At.a 1 ·) ?_
   refine Exists.elim (spec_l2Turn_D_spec  e10 22 (by omega)) fun r7_ hr7_ => ?_
   have qr7_ := hr7_.1
   try dsimp only at qr7_
   refine dv (At.c (hr7_.2) Try.call98 true [] [] [] trivial ·) ?_
   refine dv (At.bits (t := 3) (u := 3) (d := 202) (op := .xor) (x := .tmp 199) (y := .tmp 201) (kd := .i64) (a := bitV .xor .i64 r5_ r6_) (b := r7_) (bitV .xor .i64 (bitV .xor .i64 r5_ r6_) r7_) (by kernel_rfl) (by kernel_rfl) (by kernel_rfl) (by kernel_rfl) (bitS_xor _ _ _) ·) ?_
   refine dv (At.a 2 ·) ?_
   refine Exists.elim (spec_l2Low_D_spec  (IntKind.i64.wrap ((bitV .xor .i64 (bitV .xor .i64 r5_ r6_) r7_) + (bitV .xor .i64 (bitV .xor .i64 (bitV .and .i64 e10 e16) (bitV .and .i64 e10 e17)) (bitV .and .i64 e16 e17)))) ) fun r8_ hr8_ => ?_
   have qr8_ := hr8_.1
   try dsimp only at qr8_
   refine dv (At.c (hr8_.2) Try.call99 true [] [] [] trivial ·) ?_
   refine dv (At.z 1 ·) ?_
   refine dv (AW.gD Try_mix ·) ?_
   refine dv (At.a 3 ·) ?_
   refine Exists.elim (spec_l2Low_D_spec  (IntKind.i64.wrap (r4_ + r8_)) ) fun r9_ hr9_ => ?_
   have qr9_ := hr9_.1
   try dsimp only at qr9_
   refine dv (At.c (hr9_.2) Try.call99 true [] [] [] trivial ·) ?_
   refine dv (At.a 2 ·) ?_
   refine dv (At.iRf 85 212 (.tmp 211) (.const (.int .i64 1)) 228 (v.map encI) .i64 1 3 1 (by omega) (by simp only [List.length_map]; omega) ·) ?_
   refine dv (At.lEl 3 213 (.tmp 212) 228 3 1 (v.map encI) 1 0 false 1 (encI e16) (.int .i64 e16) (mapGet he16) ·) ?_
   refine dv (At.a 1 ·) ?_
   refine dv (At.iRf 85 215 (.tmp 214) (.const (.int .i64 2)) 228 (v.map encI) .i64 2 3 1 (by omega) (by simp only [List.length_map]; omega) ·) ?_
   refine dv (At.lEl 3 216 (.tmp 215) 228 3 1 (v.map encI) 2 0 false 1 (encI e17) (.int .i64 e17) (mapGet he17) ·) ?_
   refine dv (At.a 1 ·) ?_
   refine dv (At.iRf 85 218 (.tmp 217) (.const (.int .i64 3)) 228 (v.map encI) .i64 3 3 1 (by omega) (by simp only [List.length_map]; omega) ·) ?_
   refine Exists.elim (gE v 3 (by omega)) fun e18 he18 => ?_
   refine dv (At.lEl 3 219 (.tmp 218) 228 3 1 (v.map encI) 3 0 false 1 (encI e18) (.int .i64 e18) (mapGet he18) ·) ?_
   refine dv (At.a 2 ·) ?_
   refine Exists.elim (spec_l2Low_D_spec  (IntKind.i64.wrap (e18 + r4_)) ) fun r10_ hr10_ => ?_
   have qr10_ := hr10_.1
   try dsimp only at qr10_
   refine dv (At.c (hr10_.2) Try.call99 true [] [] [] trivial ·) ?_
   refine dv (At.a 2 ·) ?_
   refine dv (At.iRf 85 225 (.tmp 224) (.const (.int .i64 5)) 228 (v.map encI) .i64 5 3 1 (by omega) (by simp only [List.length_map]; omega) ·) ?_
   refine dv (At.lEl 3 226 (.tmp 225) 228 3 1 (v.map encI) 5 0 false 1 (encI e11) (.int .i64 e11) (mapGet he11) ·) ?_
   refine dv (At.a 1 ·) ?_
   refine dv (At.iRf 85 228 (.tmp 227) (.const (.int .i64 6)) 228 (v.map encI) .i64 6 3 1 (by omega) (by simp only [List.length_map]; omega) ·) ?_
   refine dv (At.lEl 3 229 (.tmp 228) 228 3 1 (v.map encI) 6 0 false 1 (encI e12) (.int .i64 e12) (mapGet he12) ·) ?_
   refine dv (At.ll 230 3 1 330 (56, 6) (([r9_, e10, e16, e17, r10_, e9, e11, e12]).map encI) ·) ?_
   refine dv (At.zD 1 ·) ?_
   refine dv (AW.g ·) ?_
   refine dv (At.a 2 ·) ?_
   refine dv (At.sI 132 ((k : Int) + 1) (by omega) ·) ?_
   refine dv (At.z 1 ·) ?_
   exact dw (fun _ h_ => AWL.weak (Sub.o [(121, 121), (330, 228), (3500, 3500)] [true, false, false, false, false, true, false, false, false, false, true, true, true]) h_) (ih3 (k + 1, ([r9_, e10, e16, e17, r10_, e9, e11, e12])) (⟨by omega, rfl⟩) (by simp only; omega))
 refine dv (AW.condF (decide ((k : Int) < 64)) (by kernel_rfl) (decide_eq_false h3) ·) ?_
 refine dv (AW.exit ·) ?_
 refine dv (AW.r ·) ?_
 refine dv (At.lit0 (t := 85) (d := 231) (e := 3) (es := 1) (bytes := 8) 331 (by kernel_rfl) (by kernel_rfl) (by kernel_rfl) (by kernel_rfl) ·) ?_
 refine dv (At.z 1 ·) ?_
 refine dv (AW.seq ·) ?_
 refine dv (AW.q 1 ·) ?_
 refine dv (AW.block ·) ?_
 refine DW.loopQ (fun (x : Nat × List Int) => match x with | (k, o) => Go.Sy.mk [.sl false 1 (h.map encI), .un, .un, .un, .un, .un, .un, .un, .un, .un, .un, .ref 228, .un, .un, .un, .un, .un, .un, .un, .ref 331, .int .i64 (k : Int)] [(228, .arr 3 1 (v.map encI)), (331, .arr 3 1 (o.map encI))]) (fun (x : Nat × List Int) => match x with | (k, o) => 0 ≤ k ∧ k ≤ 8 ∧ o.length = k) (fun (x : Nat × List Int) => match x with | (k, o) => 8 - k) (0, []) (by simp) (Sub.o [(228, 228), (331, 331)] [true, false, false, false, false, false, false, false, false, false, false, true, false, false, false, false, false, false, false, true, true]) ?_
 rintro ⟨k, o⟩ hw ih4
 refine dv (AW.seq ·) ?_
 refine dv (AW.q 2 ·) ?_
 by_cases h4 : (k : Int) < 8
 · refine dv (AW.condT (decide ((k : Int) < 8)) (by kernel_rfl) (decide_eq_true h4) ·) ?_
   refine dv (AW.skip ·) ?_
   refine dv (AW.seq ·) ?_
   refine dv (AW.block ·) ?_
   refine dv (AW.gD Try_mix ·) ?_
   refine dv (At.a 3 ·) ?_
   refine dv (At.iSl 85 239 (.tmp 237) (.tmp 238) false 1 (h.map encI) .i64 (k : Int) 3 (by omega) (by simp only [List.length_map]; omega) ·) ?_
   refine Exists.elim (gE h k (by omega)) fun e19 he19 => ?_
   refine dv (At.lVp 3 240 (.tmp 239) false 1 (h.map encI) k 0 false 1 (encI e19) (.int .i64 e19) (mapGet he19) ·) ?_
   refine dv (At.a 2 ·) ?_
   refine dv (At.iRf 85 243 (.tmp 241) (.tmp 242) 228 (v.map encI) .i64 (k : Int) 3 1 (by omega) (by simp only [List.length_map]; omega) ·) ?_
   refine Exists.elim (gE v k (by omega)) fun e20 he20 => ?_
   refine dv (At.lEl 3 244 (.tmp 243) 228 3 1 (v.map encI) k 0 false 1 (encI e20) (.int .i64 e20) (mapGet he20) ·) ?_
   refine dv (At.a 1 ·) ?_
   refine Exists.elim (spec_l2Low_D_spec  (IntKind.i64.wrap (e19 + e20)) ) fun r1_ hr1_ => ?_
   have qr1_ := hr1_.1
   try dsimp only at qr1_
   refine dv (At.c (hr1_.2) Try.call99 true [] [] [] trivial ·) ?_
   refine dv (At.ll 247 3 1 347 (56, 6) (([r1_]).map encI) ·) ?_
   refine dv (At.apK 248 3 1 8 348 331 347 encI o ([r1_]) (by simp only [List.length_map, List.length_append, List.length_take, List.length_drop, List.length_replicate, List.length_set, List.length_cons, List.length_nil]; omega) ·) ?_
   refine dv (At.zD 1 ·) ?_
   refine dv (AW.g ·) ?_
   refine dv (At.a 2 ·) ?_
   refine dv (At.sI 235 ((k : Int) + 1) (by omega) ·) ?_
   refine dv (At.z 1 ·) ?_
   exact dw (fun _ h_ => AWL.weak (Sub.o [(228, 228), (348, 331)] [true, false, false, false, false, false, false, false, false, false, false, true, false, false, false, false, false, false, false, true, true]) h_) (ih4 (k + 1, (o ++ ([r1_]))) (by simp only [List.length_append, List.length_cons, List.length_nil]; omega) (by simp only; omega))
 refine dv (AW.condF (decide ((k : Int) < 8)) (by kernel_rfl) (decide_eq_false h4) ·) ?_
 refine dv (AW.exit ·) ?_
 refine dv (AW.q 2 ·) ?_
 refine dv (AW.ret ·) ?_
 refine dv (⟨_, Sub.refl _ _, ·⟩) ?_
 exact ⟨(o), (by omega), KF.mk (.inr rfl) [(331, 0)] [.ref 331] (by kernel_rfl) (by kernel_rfl) (by kernel_rfl) (by kernel_rfl) (by kernel_rfl)⟩
theorem spec_Sha_spec  (b : List UInt8) (hb : b.length ≤ 1048576) : ∃ rho_ : List UInt8, ((b.length ≤ 4000 → rho_.length = 32) ∧ rho_.length ≤ 32) ∧ FnSpec Try.prog 96 [.sl false 1 (b.map encU8)] [] (.ref 0) [.arr 5 1 (rho_.map encU8)] := by
 refine dv (fun h_ => FnSpec.of 85 Try.func96 rfl Try.ntmps96 (by simp) (AW.weakK h_)) ?_
 refine dv (AW.q 1 ·) ?_
 refine dv (AW.r ·) ?_
 refine dv (At.lit0 (t := 28) (d := 9) (e := 5) (es := 1) (bytes := 1) 109 (by kernel_rfl) (by kernel_rfl) (by kernel_rfl) (by kernel_rfl) ·) ?_
 refine dv (At.z 1 ·) ?_
 refine dv (AW.seq ·) ?_
 refine dv (AW.r ·) ?_
 refine dv (At.a 2 ·) ?_
 refine dv (At.sL 11 encU8 b ·) ?_
 refine dv (At.z 1 ·) ?_
 by_cases h1 : (b.length : Int) > 4000
 · refine dv (AW.condT (decide ((b.length : Int) > 4000)) (by kernel_rfl) (decide_eq_true h1) ·) ?_
   refine dv (AW.q 2 ·) ?_
   refine dv (AW.ret ·) ?_
   refine dv (⟨_, Sub.refl _ _, ·⟩) ?_
   exact ⟨([]), (by (try dsimp only); (try simp only [List.length_nil]); omega), KF.mk (.inr rfl) [(109, 0)] [.ref 109] (by kernel_rfl) (by kernel_rfl) (by kernel_rfl) (by kernel_rfl) (by kernel_rfl)⟩
 refine dv (AW.condF (decide ((b.length : Int) > 4000)) (by kernel_rfl) (decide_eq_false h1) ·) ?_
 refine dv (AW.skip ·) ?_
 refine dv (AW.r ·) ?_
 refine dv (At.lit0 (t := 28) (d := 14) (e := 5) (es := 1) (bytes := 1) 114 (by kernel_rfl) (by kernel_rfl) (by kernel_rfl) (by kernel_rfl) ·) ?_
 refine dv (At.a 1 ·) ?_
 refine dv (At.append (t := 28) (d := 16) (e := 5) (es := 1) (bytes := 1) (s := .tmp 14) (x := .tmp 15) (S := .ref 114) (T := .sl false 1 (b.map encU8)) (xs := []) (ys := (b.map encU8)) 116 [114] [] (b.map encU8) (by kernel_rfl) (by kernel_rfl) (by kernel_rfl) (by kernel_rfl) ⟨by kernel_rfl, rfl⟩ ⟨rfl, rfl, (allP_encU8 _), rfl⟩ (by kernel_rfl) (by kernel_rfl) (by simp) (by simp only [List.length_map, List.length_append, List.length_take, List.length_drop, List.length_replicate, List.length_set, List.length_cons, List.length_nil]; omega) (by simp only [List.length_map, List.length_append, List.length_take, List.length_drop, List.length_replicate, List.length_set, List.length_cons, List.length_nil]; omega) ·) ?_
 refine dv (At.ll 17 5 1 117 (56, 6) (([(128 : UInt8)]).map encU8) ·) ?_
 refine dv (At.apK 18 5 1 1 118 116 117 encU8 b ([(128 : UInt8)]) (by simp only [List.length_map, List.length_append, List.length_take, List.length_drop, List.length_replicate, List.length_set, List.length_cons, List.length_nil]; omega) ·) ?_
 refine dv (At.z 1 ·) ?_
 refine dv (AW.seq ·) ?_
 refine dv (AW.block ·) ?_
 refine DW.loopQ (fun (mm : List UInt8) => Go.Sy.mk [.sl false 1 (b.map encU8), .un, .un, .ref 109, .ref 118] [(109, .arr 5 1 []), (118, .arr 5 1 (mm.map encU8))]) (fun (mm : List UInt8) => mm.length + (120 - mm.length % 64) % 64 ≤ b.length + 64 ∧ b.length < mm.length) (fun (mm : List UInt8) => (120 - mm.length % 64) % 64) (b ++ [(128 : UInt8)]) (by simp only [List.length_append, List.length_cons, List.length_nil]; omega) (Sub.o [(109, 109), (118, 118)] [true, false, false, true, true]) ?_
 rintro mm hm ih1
 refine dv (AW.seq ·) ?_
 refine dv (AW.r ·) ?_
 refine dv (At.a 2 ·) ?_
 refine dv (At.sL 20 encU8 mm ·) ?_
 refine dv (At.div (t := 3) (u := 3) (d := 21) (op := .rem) (x := .tmp 20) (y := .const (.int .i64 64)) (kd := .i64) (a := (mm.length : Int)) (b := 64) (by kernel_rfl) (by kernel_rfl) (by kernel_rfl) (by kernel_rfl) (by omega) (.int .i64 ((mm.length : Int).tmod 64)) (.inr ⟨rfl, rfl⟩) ·) ?_
 refine dv (At.say 21 (.int .i64 ((mm.length : Int).tmod 64)) (.int .i64 ((mm.length : Int) % 64)) (by kernel_rfl) (sayRem (by omega)) ·) ?_
 refine dv (At.z 1 ·) ?_
 by_cases h2 : (mm.length : Int) % 64 = 56
 · refine dv (AW.condF (((mm.length : Int) % 64) != 56) (by kernel_rfl) (by rw [bne_eq_false_iff_eq]; exact h2) ·) ?_
   refine dv (AW.exit ·) ?_
   refine dv (AW.seq ·) ?_
   refine dv (AW.q 1 ·) ?_
   refine dv (AW.block ·) ?_
   refine DW.loopQ (fun (x : Int × List UInt8) => match x with | (i, mm) => Go.Sy.mk [.sl false 1 (b.map encU8), .un, .un, .ref 109, .ref 118, .int .i64 i] [(109, .arr 5 1 []), (118, .arr 5 1 (mm.map encU8))]) (fun (x : Int × List UInt8) => match x with | (i, mm) => (-1 ≤ i ∧ i ≤ 7) ∧ ((mm.length : Int) + i + 1) % 64 = 0 ∧ (mm.length : Int) + i ≤ 4500) (fun (x : Int × List UInt8) => match x with | (i, mm) => (i + 1).toNat) (7, mm) (by simp only; omega) (Sub.o [(109, 109), (118, 118)] [true, false, false, true, true, true]) ?_
   rintro ⟨i, mm⟩ hm ih2
   refine dv (AW.seq ·) ?_
   refine dv (AW.q 2 ·) ?_
   by_cases h3 : i ≥ 0
   · refine dv (AW.condT (decide (i ≥ 0)) (by kernel_rfl) (decide_eq_true h3) ·) ?_
     refine dv (AW.skip ·) ?_
     refine dv (AW.seq ·) ?_
     refine dv (AW.block ·) ?_
     refine dv (AW.g ·) ?_
     refine dv (At.a 3 ·) ?_
     refine dv (At.sL 32 encU8 b ·) ?_
     refine dv (At.a 1 ·) ?_
     refine dv (At.sI 33 (8 * (b.length : Int)) (by omega) ·) ?_
     refine dv (At.a 2 ·) ?_
     refine dv (At.sI 35 (8 * i) (by omega) ·) ?_
     refine dv (At.shift (t := 3) (u := 3) (d := 36) (op := .shr) (x := .tmp 33) (y := .tmp 35) (kd := .i64) (kd' := .i64) (a := 8 * (b.length : Int)) (b := 8 * i) (shV .shr .i64 (8 * (b.length : Int)) (8 * i)) (by kernel_rfl) (by kernel_rfl) (by kernel_rfl) (by kernel_rfl) (by omega) (shS_shr _ _ _) ·) ?_
     refine dv (At.conv (s := 3) (t := 5) (d := 37) (x := .tmp 36) (kd := .i64) (kd' := .u8) (a := shV .shr .i64 (8 * (b.length : Int)) (8 * i)) (.int .u8 ((u8Of (shV .shr .i64 (8 * (b.length : Int)) (8 * i))).toNat : Int)) (by kernel_rfl) (by kernel_rfl) (by kernel_rfl) (by kernel_rfl) (sayByte _) ·) ?_
     refine dv (At.ll 38 5 1 138 (56, 6) (([(u8Of (shV .shr .i64 (8 * (b.length : Int)) (8 * i)))]).map encU8) ·) ?_
     refine dv (At.apK 39 5 1 1 139 118 138 encU8 mm ([(u8Of (shV .shr .i64 (8 * (b.length : Int)) (8 * i)))]) (by simp only [List.length_map, List.length_append, List.length_take, List.length_drop, List.length_replicate, List.length_set, List.length_cons, List.length_nil]; omega) ·) ?_
     refine dv (At.z 1 ·) ?_
     refine dv (AW.g ·) ?_
     refine dv (At.a 2 ·) ?_
     refine dv (At.sI 29 (i - 1) (by omega) ·) ?_
     refine dv (At.z 1 ·) ?_
     exact dw (fun _ h_ => AWL.weak (Sub.o [(109, 109), (139, 118)] [true, false, false, true, true, true]) h_) (ih2 (i - 1, (mm ++ ([(u8Of (shV .shr .i64 (8 * (b.length : Int)) (8 * i)))]))) (by simp only [List.length_append, List.length_cons, List.length_nil]; omega) (by simp only; omega))
   refine dv (AW.condF (decide (i ≥ 0)) (by kernel_rfl) (decide_eq_false h3) ·) ?_
   refine dv (AW.exit ·) ?_
   refine dv (AW.r ·) ?_
   refine dv (At.ll 40 3 1 140 (56, 6) (([1779033703, 3144134277, 1013904242, 2773480762, 1359893119, 2600822924, 528734635, 1541459225]).map encI) ·) ?_
   refine dv (At.z 1 ·) ?_
   refine dv (AW.seq ·) ?_
   refine dv (AW.q 1 ·) ?_
   refine dv (AW.block ·) ?_
   refine DW.loopQ (fun (x : Nat × List Int) => match x with | (i, h) => Go.Sy.mk [.un, .un, .un, .ref 109, .ref 118, .un, .ref 140, .int .i64 (i : Int)] [(109, .arr 5 1 []), (118, .arr 5 1 (mm.map encU8)), (140, .arr 3 1 (h.map encI))]) (fun (x : Nat × List Int) => match x with | (i, h) => i % 64 = 0 ∧ i ≤ mm.length ∧ h.length = 8) (fun (x : Nat × List Int) => match x with | (i, h) => mm.length - i) (0, [1779033703, 3144134277, 1013904242, 2773480762, 1359893119, 2600822924, 528734635, 1541459225]) ⟨by omega, by omega, rfl⟩ (Sub.o [(109, 109), (118, 118), (140, 140)] [false, false, false, true, true, false, true, true]) ?_
   rintro ⟨i, h⟩ hi ih3
   refine dv (AW.seq ·) ?_
   refine dv (AW.r ·) ?_
   refine dv (At.a 3 ·) ?_
   refine dv (At.sL 43 encU8 mm ·) ?_
   refine dv (At.z 1 ·) ?_
   by_cases h4 : (i : Int) < (mm.length : Int)
   · refine dv (AW.condT (decide ((i : Int) < (mm.length : Int))) (by kernel_rfl) (decide_eq_true h4) ·) ?_
     refine dv (AW.skip ·) ?_
     refine dv (AW.seq ·) ?_
     refine dv (AW.block ·) ?_
     refine dv (AW.g ·) ?_
     refine dv (At.a 5 ·) ?_
     refine dv (At.sI 51 ((i : Int) + 64) (by omega) ·) ?_
     refine dv (At.sliceRef (t := 28) (d := 52) (e := 5) (es := 1) (i := 118) (x := .tmp 48) (lx := some (.tmp 49)) (hx := some (.tmp 51)) (xs := (mm.map encU8)) (vl := .int .i64 (i : Int)) (vh := .int .i64 ((i : Int) + 64)) i (((i : Int) + 64).toNat) (by kernel_rfl) (by kernel_rfl) (by kernel_rfl) (by kernel_rfl) (by kernel_rfl) (.inr ⟨_, _, rfl, rfl⟩) (.inr ⟨_, _, rfl, sayNat (by omega)⟩) (by omega) (by simp only [List.length_map]; omega) ·) ?_
     refine Exists.elim (spec_l2Block_spec  h ((mm.drop i).take ((((i : Int) + 64).toNat) - i)) (by omega) (by simp only [List.length_map, List.length_append, List.length_take, List.length_drop, List.length_replicate, List.length_set, List.length_cons, List.length_nil]; omega)) fun r1_ hr1_ => ?_
     have qr1_ := hr1_.1
     try dsimp only at qr1_
     refine dv (At.call (hr1_.2) Try.call97 false [] [(2060, 0)] [(140, 1, (h.map encI)), (118, 1, (mm.map encU8))] (by kernel_rfl) (by kernel_rfl) (Eq.trans (b := [.sl false 1 (h.map encI), .sl false 1 (((mm.map encU8).drop i).take ((((i : Int) + 64).toNat) - i))]) (by kernel_rfl) (by simp only [List.map_take, List.map_drop])) (by kernel_rfl) (by kernel_rfl) ⟨rfl, ⟨3, (h.map encI), by kernel_rfl, FrzIs.same (allP_encI _)⟩, rfl, ⟨5, (mm.map encU8), by kernel_rfl, FrzIs.same (allP_encU8 _)⟩, trivial⟩ ·) ?_
     refine dv (At.z 1 ·) ?_
     refine dv (AW.g ·) ?_
     refine dv (At.a 2 ·) ?_
     refine dv (At.sI 46 ((i : Int) + 64) (by omega) ·) ?_
     refine dv (At.z 1 ·) ?_
     exact dw (fun _ h_ => AWL.weak (Sub.o [(109, 109), (118, 118), (2060, 140)] [false, false, false, true, true, false, true, true]) h_) (ih3 (i + 64, r1_) (by simp only; omega) (by simp only; omega))
   refine dv (AW.condF (decide ((i : Int) < (mm.length : Int))) (by kernel_rfl) (decide_eq_false h4) ·) ?_
   refine dv (AW.exit ·) ?_
   refine dv (AW.seq ·) ?_
   refine dv (AW.q 1 ·) ?_
   refine dv (AW.block ·) ?_
   refine DW.loopQ (fun (x : Nat × List UInt8) => match x with | (k, o) => Go.Sy.mk [.un, .un, .un, .ref 109, .un, .un, .ref 140, .un, .int .i64 (k : Int)] [(109, .arr 5 1 (o.map encU8)), (140, .arr 3 1 (h.map encI))]) (fun (x : Nat × List UInt8) => match x with | (k, o) => k ≤ 8 ∧ o.length = 4 * k) (fun (x : Nat × List UInt8) => match x with | (k, o) => 8 - k) (0, []) (by simp) (Sub.o [(109, 109), (140, 140)] [false, false, false, true, false, false, true, false, true]) ?_
   rintro ⟨k, o⟩ ho ih4
   refine dv (AW.seq ·) ?_
   refine dv (AW.q 2 ·) ?_
   by_cases h5 : (k : Int) < 8
   · refine dv (AW.condT (decide ((k : Int) < 8)) (by kernel_rfl) (decide_eq_true h5) ·) ?_
     refine dv (AW.skip ·) ?_
     refine dv (AW.seq ·) ?_
     refine dv (AW.block ·) ?_
     refine dv (AW.gD Try_mix ·) ?_
     refine dv (At.a 3 ·) ?_
     refine dv (At.iRf 85 61 (.tmp 59) (.tmp 60) 140 (h.map encI) .i64 (k : Int) 3 1 (by omega) (by simp only [List.length_map]; omega) ·) ?_
     refine Exists.elim (gE h k (by omega)) fun e1 he1 => ?_
     refine dv (At.lEl 3 62 (.tmp 61) 140 3 1 (h.map encI) k 0 false 1 (encI e1) (.int .i64 e1) (mapGet he1) ·) ?_
     refine dv (At.shift (t := 3) (u := 93) (d := 63) (op := .shr) (x := .tmp 62) (y := .const (.int .u64 24)) (kd := .i64) (kd' := .u64) (a := e1) (b := 24) (shV .shr .i64 e1 24) (by kernel_rfl) (by kernel_rfl) (by kernel_rfl) (by kernel_rfl) (by omega) (shS_shr _ _ _) ·) ?_
     refine dv (At.conv (s := 3) (t := 5) (d := 64) (x := .tmp 63) (kd := .i64) (kd' := .u8) (a := shV .shr .i64 e1 24) (.int .u8 ((u8Of (shV .shr .i64 e1 24)).toNat : Int)) (by kernel_rfl) (by kernel_rfl) (by kernel_rfl) (by kernel_rfl) (sayByte _) ·) ?_
     refine dv (At.a 2 ·) ?_
     refine dv (At.iRf 85 67 (.tmp 65) (.tmp 66) 140 (h.map encI) .i64 (k : Int) 3 1 (by omega) (by simp only [List.length_map]; omega) ·) ?_
     refine dv (At.lEl 3 68 (.tmp 67) 140 3 1 (h.map encI) k 0 false 1 (encI e1) (.int .i64 e1) (mapGet he1) ·) ?_
     refine dv (At.shift (t := 3) (u := 93) (d := 69) (op := .shr) (x := .tmp 68) (y := .const (.int .u64 16)) (kd := .i64) (kd' := .u64) (a := e1) (b := 16) (shV .shr .i64 e1 16) (by kernel_rfl) (by kernel_rfl) (by kernel_rfl) (by kernel_rfl) (by omega) (shS_shr _ _ _) ·) ?_
     refine dv (At.conv (s := 3) (t := 5) (d := 70) (x := .tmp 69) (kd := .i64) (kd' := .u8) (a := shV .shr .i64 e1 16) (.int .u8 ((u8Of (shV .shr .i64 e1 16)).toNat : Int)) (by kernel_rfl) (by kernel_rfl) (by kernel_rfl) (by kernel_rfl) (sayByte _) ·) ?_
     refine dv (At.a 2 ·) ?_
     refine dv (At.iRf 85 73 (.tmp 71) (.tmp 72) 140 (h.map encI) .i64 (k : Int) 3 1 (by omega) (by simp only [List.length_map]; omega) ·) ?_
     refine dv (At.lEl 3 74 (.tmp 73) 140 3 1 (h.map encI) k 0 false 1 (encI e1) (.int .i64 e1) (mapGet he1) ·) ?_
     refine dv (At.shift (t := 3) (u := 93) (d := 75) (op := .shr) (x := .tmp 74) (y := .const (.int .u64 8)) (kd := .i64) (kd' := .u64) (a := e1) (b := 8) (shV .shr .i64 e1 8) (by kernel_rfl) (by kernel_rfl) (by kernel_rfl) (by kernel_rfl) (by omega) (shS_shr _ _ _) ·) ?_
     refine dv (At.conv (s := 3) (t := 5) (d := 76) (x := .tmp 75) (kd := .i64) (kd' := .u8) (a := shV .shr .i64 e1 8) (.int .u8 ((u8Of (shV .shr .i64 e1 8)).toNat : Int)) (by kernel_rfl) (by kernel_rfl) (by kernel_rfl) (by kernel_rfl) (sayByte _) ·) ?_
     refine dv (At.a 2 ·) ?_
     refine dv (At.iRf 85 79 (.tmp 77) (.tmp 78) 140 (h.map encI) .i64 (k : Int) 3 1 (by omega) (by simp only [List.length_map]; omega) ·) ?_
     refine dv (At.lEl 3 80 (.tmp 79) 140 3 1 (h.map encI) k 0 false 1 (encI e1) (.int .i64 e1) (mapGet he1) ·) ?_
     refine dv (At.conv (s := 3) (t := 5) (d := 81) (x := .tmp 80) (kd := .i64) (kd' := .u8) (a := e1) (.int .u8 ((u8Of e1).toNat : Int)) (by kernel_rfl) (by kernel_rfl) (by kernel_rfl) (by kernel_rfl) (sayByte _) ·) ?_
     refine dv (At.ll 82 5 1 182 (56, 6) (([(u8Of (shV .shr .i64 e1 24)), (u8Of (shV .shr .i64 e1 16)), (u8Of (shV .shr .i64 e1 8)), (u8Of e1)]).map encU8) ·) ?_
     refine dv (At.apK 83 5 1 1 183 109 182 encU8 o ([(u8Of (shV .shr .i64 e1 24)), (u8Of (shV .shr .i64 e1 16)), (u8Of (shV .shr .i64 e1 8)), (u8Of e1)]) (by simp only [List.length_map, List.length_append, List.length_take, List.length_drop, List.length_replicate, List.length_set, List.length_cons, List.length_nil]; omega) ·) ?_
     refine dv (At.zD 1 ·) ?_
     refine dv (AW.g ·) ?_
     refine dv (At.a 2 ·) ?_
     refine dv (At.sI 57 ((k : Int) + 1) (by omega) ·) ?_
     refine dv (At.z 1 ·) ?_
     exact dw (fun _ h_ => AWL.weak (Sub.o [(183, 109), (140, 140)] [false, false, false, true, false, false, true, false, true]) h_) (ih4 (k + 1, (o ++ ([(u8Of (shV .shr .i64 e1 24)), (u8Of (shV .shr .i64 e1 16)), (u8Of (shV .shr .i64 e1 8)), (u8Of e1)]))) (by simp only [List.length_append, List.length_cons, List.length_nil]; omega) (by simp only; omega))
   refine dv (AW.condF (decide ((k : Int) < 8)) (by kernel_rfl) (decide_eq_false h5) ·) ?_
   refine dv (AW.exit ·) ?_
   refine dv (AW.q 2 ·) ?_
   refine dv (AW.ret ·) ?_
   refine dv (⟨_, Sub.refl _ _, ·⟩) ?_
   exact ⟨(o), (by (try dsimp only); (try simp only [List.length_nil]); omega), KF.mk (.inr rfl) [(109, 0)] [.ref 109] (by kernel_rfl) (by kernel_rfl) (by kernel_rfl) (by kernel_rfl) (by kernel_rfl)⟩
 refine dv (AW.condT (((mm.length : Int) % 64) != 56) (by kernel_rfl) (bne_iff_ne.2 h2) ·) ?_
 refine dv (AW.skip ·) ?_
 refine dv (AW.block ·) ?_
 refine dv (AW.g ·) ?_
 refine dv (At.a 1 ·) ?_
 refine dv (At.ll 24 5 1 124 (56, 6) (([(0 : UInt8)]).map encU8) ·) ?_
 refine dv (At.apK 25 5 1 1 125 118 124 encU8 mm ([(0 : UInt8)]) (by simp only [List.length_map, List.length_append, List.length_take, List.length_drop, List.length_replicate, List.length_set, List.length_cons, List.length_nil]; omega) ·) ?_
 refine dv (At.z 1 ·) ?_
 exact dw (fun _ h_ => AWL.weak (Sub.o [(109, 109), (125, 118)] [true, false, false, true, true]) h_) (ih1 (mm ++ ([(0 : UInt8)])) (by simp only [List.length_append, List.length_cons, List.length_nil]; omega) (by simp only [List.length_append, List.length_cons, List.length_nil]; omega))
theorem spec_l5DrawDigest_spec  (c : Cur) (hp : 0 ≤ c.pos ∧ c.pos ≤ c.data.length ∧ c.data.length ≤ 1048576) : ∃ rho_ : Int × Int × ByteArray, (0 ≤ rho_.1 ∧ rho_.1 ≤ c.data.length ∧ rho_.2.2.size = 32) ∧ FnSpec Try.prog 94 [.ptr 0 0 0] [.box 110 [.sl false 1 (c.data.map encU8), .int .i64 c.pos, .int .i64 c.seed]] (.str rho_.2.2) [.box 110 [.sl false 1 (c.data.map encU8), .int .i64 rho_.1, .int .i64 rho_.2.1]] := by
 refine dv (fun h_ => FnSpec.of 9 Try.func94 rfl Try.ntmps94 (by simp) (AW.weakK h_)) ?_
 refine dv (AW.q 1 ·) ?_
 refine dv (AW.r ·) ?_
 refine dv (At.a 1 ·) ?_
 refine Exists.elim (spec_l1Below_spec  c 4 (by omega)) fun r1_ hr1_ => ?_
 have qr1_ := hr1_.1
 try dsimp only at qr1_
 refine dv (At.c (hr1_.2) Try.call58 true [(0, 0)] [] [] trivial ·) ?_
 refine dv (At.conv (s := 3) (t := 5) (d := 5) (x := .tmp 4) (kd := .i64) (kd' := .u8) (a := r1_.2.2) (.int .u8 ((u8Of r1_.2.2).toNat : Int)) (by kernel_rfl) (by kernel_rfl) (by kernel_rfl) (by kernel_rfl) (sayByte _) ·) ?_
 refine dv (At.ll 6 5 1 106 (56, 6) (([(u8Of r1_.2.2)]).map encU8) ·) ?_
 refine Exists.elim (spec_Sha_spec  ([(u8Of r1_.2.2)]) (by simp only [List.length_map, List.length_append, List.length_take, List.length_drop, List.length_replicate, List.length_set, List.length_cons, List.length_nil]; omega)) fun r2_ hr2_ => ?_
 have qr2_ := hr2_.1
 try dsimp only at qr2_
 refine dv (At.c (hr2_.2) Try.call96 false [] [(1140, 0)] [(106, 1, (([(u8Of r1_.2.2)]).map encU8))] ⟨rfl, ⟨5, (([(u8Of r1_.2.2)]).map encU8), by kernel_rfl, FrzIs.same (allP_encU8 _)⟩, trivial⟩ ·) ?_
 refine dv (At.b2s (s := 28) (t := 9) (e := 5) (d := 8) (x := .tmp 7) (T := .ref 1140) (r2_) [] (by kernel_rfl) (by kernel_rfl) (by kernel_rfl) (by kernel_rfl) ⟨by kernel_rfl, .inl ⟨rfl, (allP_encU8 _)⟩⟩ ·) ?_
 refine dv (At.z 1 ·) ?_
 refine dv (AW.ret ·) ?_
 refine dv (⟨_, Sub.refl _ _, ·⟩) ?_
 exact ⟨(r1_.1, r1_.2.1, strOf r2_), (by dsimp only; rw [strOf_size]; simp only [List.length_cons, List.length_nil] at *; omega), KF.mk (.inr rfl) [(0, 0)] [.str (strOf r2_)] (by kernel_rfl) (by kernel_rfl) (by kernel_rfl) (by kernel_rfl) (by kernel_rfl)⟩
theorem spec_l5DrawRight_spec  (c : Cur) (hp : 0 ≤ c.pos ∧ c.pos ≤ c.data.length ∧ c.data.length ≤ 1048576) : ∃ rho_ : Int × Int × Cmd, (0 ≤ rho_.1 ∧ rho_.1 ≤ c.data.length ∧ rho_.2.2.digest.size ≤ 32) ∧ FnSpec Try.prog 82 [.ptr 0 0 0] [.box 110 [.sl false 1 (c.data.map encU8), .int .i64 c.pos, .int .i64 c.seed]] (.agg [.int .i64 rho_.2.2.kind, .int .i64 rho_.2.2.release, .int .i64 rho_.2.2.node, .int .i64 rho_.2.2.size, .str rho_.2.2.digest]) [.box 110 [.sl false 1 (c.data.map encU8), .int .i64 rho_.1, .int .i64 rho_.2.1]] := by
 refine dv (fun h_ => FnSpec.of 31 Try.func82 rfl Try.ntmps82 (by simp) (AW.weakK h_)) ?_
 refine dv (AW.q 1 ·) ?_
 refine dv (AW.r ·) ?_
 refine dv (At.a 1 ·) ?_
 refine Exists.elim (spec_l1Below_spec  c 5 (by omega)) fun r1_ hr1_ => ?_
 have qr1_ := hr1_.1
 try dsimp only at qr1_
 refine dv (At.c (hr1_.2) Try.call58 true [(0, 0)] [] [] trivial ·) ?_
 refine dv (At.a 1 ·) ?_
 refine dv (At.sI 6 (1 + r1_.2.2) (by omega) ·) ?_
 refine dv (At.z 3 ·) ?_
 refine dv (AW.seq ·) ?_
 refine dv (AW.q 3 ·) ?_
 by_cases h1 : 1 + r1_.2.2 = 1
 · refine dv (AW.condF ((1 + r1_.2.2) != 1) (by kernel_rfl) (by rw [bne_eq_false_iff_eq]; exact h1) ·) ?_
   refine dv (AW.skip ·) ?_
   refine dv (AW.seq ·) ?_
   refine dv (AW.q 2 ·) ?_
   refine dv (AW.block ·) ?_
   refine dv (AW.q 2 ·) ?_
   by_cases h2 : 1 + r1_.2.2 = 3
   · refine dv (AW.condT ((1 + r1_.2.2) == 3) (by kernel_rfl) (beq_iff_eq.2 h2) ·) ?_
     refine dv (AW.g ·) ?_
     refine dv (At.a 1 ·) ?_
     refine Exists.elim (spec_l1Below_spec  (⟨c.data, r1_.1, r1_.2.1⟩ : Cur) 3 (by omega)) fun r2_ hr2_ => ?_
     have qr2_ := hr2_.1
     try dsimp only at qr2_
     refine dv (At.c (hr2_.2) Try.call58 true [(0, 0)] [] [] trivial ·) ?_
     refine dv (At.z 2 ·) ?_
     refine dv (AW.q 2 ·) ?_
     refine dv (AW.ret ·) ?_
     refine dv (⟨_, Sub.refl _ _, ·⟩) ?_
     exact ⟨(r2_.1, r2_.2.1, (⟨1 + r1_.2.2, 0, r2_.2.2, 0, (⟨#[]⟩ : ByteArray)⟩ : Cmd)), (by dsimp only; first | omega | (refine ⟨by omega, by omega, ?_⟩; first | omega | exact (show (0 : Nat) ≤ 32 by omega))), KF.mk (.inr rfl) [(0, 0)] [.agg [.int .i64 (1 + r1_.2.2), .int .i64 0, .int .i64 r2_.2.2, .int .i64 0, .str (⟨#[]⟩ : ByteArray)]] (by kernel_rfl) (by kernel_rfl) (by kernel_rfl) (by kernel_rfl) (by kernel_rfl)⟩
   refine dv (AW.condF ((1 + r1_.2.2) == 3) (by kernel_rfl) (beq_eq_false_iff_ne.2 h2) ·) ?_
   refine dv (AW.q 2 ·) ?_
   by_cases h3 : 1 + r1_.2.2 = 2
   · refine dv (AW.condT ((1 + r1_.2.2) == 2) (by kernel_rfl) (beq_iff_eq.2 h3) ·) ?_
     refine dv (AW.r ·) ?_
     refine dv (At.a 1 ·) ?_
     refine Exists.elim (spec_l1Below_spec  (⟨c.data, r1_.1, r1_.2.1⟩ : Cur) 40 (by omega)) fun r2_ hr2_ => ?_
     have qr2_ := hr2_.1
     try dsimp only at qr2_
     refine dv (At.c (hr2_.2) Try.call58 true [(0, 0)] [] [] trivial ·) ?_
     refine dv (At.z 2 ·) ?_
     refine dv (AW.g ·) ?_
     refine dv (At.a 1 ·) ?_
     refine Exists.elim (spec_l5DrawDigest_spec  (⟨c.data, r2_.1, r2_.2.1⟩ : Cur) (by omega)) fun r3_ hr3_ => ?_
     have qr3_ := hr3_.1
     try dsimp only at qr3_
     refine dv (At.c (hr3_.2) Try.call94 true [(0, 0)] [] [] trivial ·) ?_
     refine dv (At.z 2 ·) ?_
     refine dv (AW.q 2 ·) ?_
     refine dv (AW.ret ·) ?_
     refine dv (⟨_, Sub.refl _ _, ·⟩) ?_
     exact ⟨(r3_.1, r3_.2.1, (⟨1 + r1_.2.2, 0, 0, r2_.2.2, r3_.2.2⟩ : Cmd)), (by dsimp only; first | omega | (refine ⟨by omega, by omega, ?_⟩; first | omega | exact (show (0 : Nat) ≤ 32 by omega))), KF.mk (.inr rfl) [(0, 0)] [.agg [.int .i64 (1 + r1_.2.2), .int .i64 0, .int .i64 0, .int .i64 r2_.2.2, .str r3_.2.2]] (by kernel_rfl) (by kernel_rfl) (by kernel_rfl) (by kernel_rfl) (by kernel_rfl)⟩
   refine dv (AW.condF ((1 + r1_.2.2) == 2) (by kernel_rfl) (beq_eq_false_iff_ne.2 h3) ·) ?_
   refine dv (AW.skip ·) ?_
   refine dv (AW.q 2 ·) ?_
   refine dv (AW.ret ·) ?_
   refine dv (⟨_, Sub.refl _ _, ·⟩) ?_
   exact ⟨(r1_.1, r1_.2.1, (⟨1 + r1_.2.2, 0, 0, 0, (⟨#[]⟩ : ByteArray)⟩ : Cmd)), (by dsimp only; first | omega | (refine ⟨by omega, by omega, ?_⟩; first | omega | exact (show (0 : Nat) ≤ 32 by omega))), KF.mk (.inr rfl) [(0, 0)] [.agg [.int .i64 (1 + r1_.2.2), .int .i64 0, .int .i64 0, .int .i64 0, .str (⟨#[]⟩ : ByteArray)]] (by kernel_rfl) (by kernel_rfl) (by kernel_rfl) (by kernel_rfl) (by kernel_rfl)⟩
 refine dv (AW.condT ((1 + r1_.2.2) != 1) (by kernel_rfl) (bne_iff_ne.2 h1) ·) ?_
 refine dv (AW.g ·) ?_
 refine dv (At.a 1 ·) ?_
 refine Exists.elim (spec_l1Below_spec  (⟨c.data, r1_.1, r1_.2.1⟩ : Cur) 4 (by dsimp only; omega)) fun r2_ hr2_ => ?_
 have qr2_ := hr2_.1
 try dsimp only at qr2_
 refine dv (At.c (hr2_.2) Try.call58 true [(0, 0)] [] [] trivial ·) ?_
 refine dv (At.a 1 ·) ?_
 refine dv (At.sI 13 (1 + r2_.2.2) (by omega) ·) ?_
 refine dv (At.z 2 ·) ?_
 refine dv (AW.seq ·) ?_
 refine dv (AW.q 2 ·) ?_
 refine dv (AW.block ·) ?_
 refine dv (AW.q 2 ·) ?_
 by_cases h4 : 1 + r1_.2.2 = 3
 · refine dv (AW.condT ((1 + r1_.2.2) == 3) (by kernel_rfl) (beq_iff_eq.2 h4) ·) ?_
   refine dv (AW.g ·) ?_
   refine dv (At.a 1 ·) ?_
   refine Exists.elim (spec_l1Below_spec  (⟨c.data, r2_.1, r2_.2.1⟩ : Cur) 3 (by dsimp only; omega)) fun r3_ hr3_ => ?_
   have qr3_ := hr3_.1
   try dsimp only at qr3_
   refine dv (At.c (hr3_.2) Try.call58 true [(0, 0)] [] [] trivial ·) ?_
   refine dv (At.z 2 ·) ?_
   refine dv (AW.q 2 ·) ?_
   refine dv (AW.ret ·) ?_
   refine dv (⟨_, Sub.refl _ _, ·⟩) ?_
   exact ⟨(r3_.1, r3_.2.1, (⟨1 + r1_.2.2, 1 + r2_.2.2, r3_.2.2, 0, (⟨#[]⟩ : ByteArray)⟩ : Cmd)), (by dsimp only; first | omega | (refine ⟨by omega, by omega, ?_⟩; first | omega | exact (show (0 : Nat) ≤ 32 by omega))), KF.mk (.inr rfl) [(0, 0)] [.agg [.int .i64 (1 + r1_.2.2), .int .i64 (1 + r2_.2.2), .int .i64 r3_.2.2, .int .i64 0, .str (⟨#[]⟩ : ByteArray)]] (by kernel_rfl) (by kernel_rfl) (by kernel_rfl) (by kernel_rfl) (by kernel_rfl)⟩
 refine dv (AW.condF ((1 + r1_.2.2) == 3) (by kernel_rfl) (beq_eq_false_iff_ne.2 h4) ·) ?_
 refine dv (AW.q 2 ·) ?_
 by_cases h5 : 1 + r1_.2.2 = 2
 · refine dv (AW.condT ((1 + r1_.2.2) == 2) (by kernel_rfl) (beq_iff_eq.2 h5) ·) ?_
   refine dv (AW.r ·) ?_
   refine dv (At.a 1 ·) ?_
   refine Exists.elim (spec_l1Below_spec  (⟨c.data, r2_.1, r2_.2.1⟩ : Cur) 40 (by dsimp only; omega)) fun r3_ hr3_ => ?_
   have qr3_ := hr3_.1
   try dsimp only at qr3_
   refine dv (At.c (hr3_.2) Try.call58 true [(0, 0)] [] [] trivial ·) ?_
   refine dv (At.z 2 ·) ?_
   refine dv (AW.g ·) ?_
   refine dv (At.a 1 ·) ?_
   refine Exists.elim (spec_l5DrawDigest_spec  (⟨c.data, r3_.1, r3_.2.1⟩ : Cur) (by dsimp only; omega)) fun r4_ hr4_ => ?_
   have qr4_ := hr4_.1
   try dsimp only at qr4_
   refine dv (At.c (hr4_.2) Try.call94 true [(0, 0)] [] [] trivial ·) ?_
   refine dv (At.z 2 ·) ?_
   refine dv (AW.q 2 ·) ?_
   refine dv (AW.ret ·) ?_
   refine dv (⟨_, Sub.refl _ _, ·⟩) ?_
   exact ⟨(r4_.1, r4_.2.1, (⟨1 + r1_.2.2, 1 + r2_.2.2, 0, r3_.2.2, r4_.2.2⟩ : Cmd)), (by dsimp only; first | omega | (refine ⟨by omega, by omega, ?_⟩; first | omega | exact (show (0 : Nat) ≤ 32 by omega))), KF.mk (.inr rfl) [(0, 0)] [.agg [.int .i64 (1 + r1_.2.2), .int .i64 (1 + r2_.2.2), .int .i64 0, .int .i64 r3_.2.2, .str r4_.2.2]] (by kernel_rfl) (by kernel_rfl) (by kernel_rfl) (by kernel_rfl) (by kernel_rfl)⟩
 refine dv (AW.condF ((1 + r1_.2.2) == 2) (by kernel_rfl) (beq_eq_false_iff_ne.2 h5) ·) ?_
 refine dv (AW.skip ·) ?_
 refine dv (AW.q 2 ·) ?_
 refine dv (AW.ret ·) ?_
 refine dv (⟨_, Sub.refl _ _, ·⟩) ?_
 exact ⟨(r2_.1, r2_.2.1, (⟨1 + r1_.2.2, 1 + r2_.2.2, 0, 0, (⟨#[]⟩ : ByteArray)⟩ : Cmd)), (by dsimp only; first | omega | (refine ⟨by omega, by omega, ?_⟩; first | omega | exact (show (0 : Nat) ≤ 32 by omega))), KF.mk (.inr rfl) [(0, 0)] [.agg [.int .i64 (1 + r1_.2.2), .int .i64 (1 + r2_.2.2), .int .i64 0, .int .i64 0, .str (⟨#[]⟩ : ByteArray)]] (by kernel_rfl) (by kernel_rfl) (by kernel_rfl) (by kernel_rfl) (by kernel_rfl)⟩
theorem spec_l8DrawRight_spec  (c : Cur) (hp : 0 ≤ c.pos ∧ c.pos ≤ c.data.length ∧ c.data.length ≤ 1048576) : ∃ rho_ : Int × Int × Msg, (0 ≤ rho_.1 ∧ rho_.1 ≤ c.data.length ∧ rho_.2.2.entries.length ≤ 100) ∧ FnSpec Try.prog 57 [.ptr 0 0 0] [.box 110 [.sl false 1 (c.data.map encU8), .int .i64 c.pos, .int .i64 c.seed]] (.agg [.int .i64 rho_.2.2.kind, .int .i64 rho_.2.2.from_, .int .i64 rho_.2.2.term, .int .i64 rho_.2.2.at_, .int .i64 rho_.2.2.atTerm, .int .i64 rho_.2.2.commit, .bool rho_.2.2.yes, .int .i64 rho_.2.2.release, .int .i64 rho_.2.2.part, .str rho_.2.2.bytes, .int .i64 rho_.2.2.cmd.kind, .int .i64 rho_.2.2.cmd.release, .int .i64 rho_.2.2.cmd.node, .int .i64 rho_.2.2.cmd.size, .str rho_.2.2.cmd.digest, .ref 1]) [.box 110 [.sl false 1 (c.data.map encU8), .int .i64 rho_.1, .int .i64 rho_.2.1], .arr 56 6 (rho_.2.2.entries.map encEnt)] := by
 refine dv (fun h_ => FnSpec.of 95 Try.func57 rfl Try.ntmps57 (by simp) (AW.weakK h_)) ?_
 refine dv (AW.q 1 ·) ?_
 refine dv (AW.seq ·) ?_
 refine dv (AW.weak (Sub.nils [⟨true, 102, some 15, 5001, 56, 6⟩] (by kernel_rfl)) ·) ?_
 refine dv (AW.g ·) ?_
 refine dv (At.a 1 ·) ?_
 refine Exists.elim (spec_l1Below_spec  c 7 (by omega)) fun r1_ hr1_ => ?_
 have qr1_ := hr1_.1
 try dsimp only at qr1_
 refine dv (At.c (hr1_.2) Try.call58 true [(0, 0)] [] [] trivial ·) ?_
 refine dv (At.a 1 ·) ?_
 refine dv (At.sI 9 (1 + r1_.2.2) (by omega) ·) ?_
 refine dv (At.z 3 ·) ?_
 refine dv (AW.seq ·) ?_
 refine dv (AW.weak (Sub.nils [⟨true, 103, some 15, 5002, 56, 6⟩] (by kernel_rfl)) ·) ?_
 refine dv (AW.g ·) ?_
 refine dv (At.a 2 ·) ?_
 refine dv (At.c (spec_l8Has_spec  (1 + r1_.2.2) ) Try.call28 true [] [] [] trivial ·) ?_
 have hf6 := l8F_six (1 + r1_.2.2)
 refine dv (At.z 1 ·) ?_
 refine dv (AW.seq ·) ?_
 refine dv (AW.q 1 ·) ?_
 refine dv (AW.block ·) ?_
 refine DW.loopQ (fun (x : Nat × Msg × Int × Int) => match x with | (i, q, p, s) => Go.Sy.mk [.ptr 0 0 0, .un, .ptr 102 0 0, .ptr 103 0 0, .str (l8F (1 + r1_.2.2)), .int .i64 (i : Int)] [(0, .box 110 [.sl false 1 (c.data.map encU8), .int .i64 p, .int .i64 s]), (102, .box 34 [.int .i64 0, .int .i64 0, .int .i64 0, .int .i64 0, .int .i64 0, .int .i64 0, .bool false, .int .i64 0, .int .i64 0, .str (⟨#[]⟩ : ByteArray), .int .i64 0, .int .i64 0, .int .i64 0, .int .i64 0, .str (⟨#[]⟩ : ByteArray), .ref 5001]), (103, .box 34 [.int .i64 q.kind, .int .i64 q.from_, .int .i64 q.term, .int .i64 q.at_, .int .i64 q.atTerm, .int .i64 q.commit, .bool q.yes, .int .i64 q.release, .int .i64 q.part, .str q.bytes, .int .i64 q.cmd.kind, .int .i64 q.cmd.release, .int .i64 q.cmd.node, .int .i64 q.cmd.size, .str q.cmd.digest, .ref 5002]), (5001, .arr 56 6 []), (5002, .arr 56 6 (q.entries.map encEnt))]) (fun (x : Nat × Msg × Int × Int) => match x with | (i, q, p, s) => i ≤ (l8F (1 + r1_.2.2)).size ∧ q.entries.length ≤ 6 * i ∧ (0 ≤ p ∧ p ≤ c.data.length)) (fun (x : Nat × Msg × Int × Int) => match x with | (i, q, p, s) => (l8F (1 + r1_.2.2)).size - i) (0, (⟨1 + r1_.2.2, 0, 0, 0, 0, 0, false, 0, 0, (⟨#[]⟩ : ByteArray), ⟨0, 0, 0, 0, (⟨#[]⟩ : ByteArray)⟩, []⟩ : Msg), r1_.1, r1_.2.1) (by dsimp only; (try simp only [List.length_nil]); omega) (Sub.o [(0, 0), (102, 102), (103, 103), (5001, 5001), (5002, 5002)] [true, false, true, true, true, true]) ?_
 rintro ⟨i, q, p, s⟩ hq ih1
 refine dv (AW.seq ·) ?_
 refine dv (AW.q 4 ·) ?_
 by_cases h1 : (i : Int) < ((l8F (1 + r1_.2.2)).size : Int)
 · refine dv (AW.condT (decide ((i : Int) < ((l8F (1 + r1_.2.2)).size : Int))) (by kernel_rfl) (decide_eq_true h1) ·) ?_
   refine dv (AW.skip ·) ?_
   refine dv (AW.seq ·) ?_
   refine dv (AW.block ·) ?_
   refine dv (AW.r ·) ?_
   refine dv (At.a 2 ·) ?_
   refine Exists.elim (show ∃ e, (l8F (1 + r1_.2.2)).data[i]? = some e from ⟨_, Array.getElem?_eq_getElem (by show _ < (l8F (1 + r1_.2.2)).size; omega)⟩) fun e1 he1 => ?_
   refine dv (At.idxStr (t := 9) (d := 22) (x := .tmp 20) (y := .tmp 21) (s := l8F (1 + r1_.2.2)) (kd := .i64) (i := (i : Int)) e1 (by kernel_rfl) (by kernel_rfl) (by kernel_rfl) (by kernel_rfl) (by omega) he1 ·) ?_
   refine dv (At.done rfl ·) ?_
   refine dv (AW.block ·) ?_
   refine dv (AW.q 2 ·) ?_
   by_cases h2 : (e1.toNat : Int) = 102
   · refine dv (AW.condT ((e1.toNat : Int) == 102) (by kernel_rfl) (beq_iff_eq.2 h2) ·) ?_
     refine dv (AW.g ·) ?_
     refine dv (At.a 1 ·) ?_
     refine Exists.elim (spec_l1Below_spec  (⟨c.data, p, s⟩ : Cur) 3 (by dsimp only; omega)) fun r2_ hr2_ => ?_
     have qr2_ := hr2_.1
     try dsimp only at qr2_
     refine dv (At.c (hr2_.2) Try.call58 true [(0, 0)] [] [] trivial ·) ?_
     refine dv (At.z 2 ·) ?_
     refine dv (AW.g ·) ?_
     refine dv (At.a 2 ·) ?_
     refine dv (At.sI 19 ((i : Int) + 1) (by omega) ·) ?_
     refine dv (At.z 1 ·) ?_
     exact dw (fun _ h_ => AWL.weak (Sub.o [(0, 0), (102, 102), (103, 103), (5001, 5001), (5002, 5002)] [true, false, true, true, true, true]) h_) (ih1 (i + 1, (⟨q.kind, r2_.2.2, q.term, q.at_, q.atTerm, q.commit, q.yes, q.release, q.part, q.bytes, q.cmd, q.entries⟩ : Msg), r2_.1, r2_.2.1) (by dsimp only; (try simp only [List.length_append, List.length_cons, List.length_nil]); omega) (by simp only; omega))
   refine dv (AW.condF ((e1.toNat : Int) == 102) (by kernel_rfl) (beq_eq_false_iff_ne.2 h2) ·) ?_
   refine dv (AW.q 2 ·) ?_
   by_cases h3 : (e1.toNat : Int) = 116
   · refine dv (AW.condT ((e1.toNat : Int) == 116) (by kernel_rfl) (beq_iff_eq.2 h3) ·) ?_
     refine dv (AW.g ·) ?_
     refine dv (At.a 1 ·) ?_
     refine Exists.elim (spec_l1Below_spec  (⟨c.data, p, s⟩ : Cur) 5 (by dsimp only; omega)) fun r2_ hr2_ => ?_
     have qr2_ := hr2_.1
     try dsimp only at qr2_
     refine dv (At.c (hr2_.2) Try.call58 true [(0, 0)] [] [] trivial ·) ?_
     refine dv (At.z 2 ·) ?_
     refine dv (AW.g ·) ?_
     refine dv (At.a 2 ·) ?_
     refine dv (At.sI 19 ((i : Int) + 1) (by omega) ·) ?_
     refine dv (At.z 1 ·) ?_
     exact dw (fun _ h_ => AWL.weak (Sub.o [(0, 0), (102, 102), (103, 103), (5001, 5001), (5002, 5002)] [true, false, true, true, true, true]) h_) (ih1 (i + 1, (⟨q.kind, q.from_, r2_.2.2, q.at_, q.atTerm, q.commit, q.yes, q.release, q.part, q.bytes, q.cmd, q.entries⟩ : Msg), r2_.1, r2_.2.1) (by dsimp only; (try simp only [List.length_append, List.length_cons, List.length_nil]); omega) (by simp only; omega))
   refine dv (AW.condF ((e1.toNat : Int) == 116) (by kernel_rfl) (beq_eq_false_iff_ne.2 h3) ·) ?_
   refine dv (AW.q 2 ·) ?_
   by_cases h4 : (e1.toNat : Int) = 97
   · refine dv (AW.condT ((e1.toNat : Int) == 97) (by kernel_rfl) (beq_iff_eq.2 h4) ·) ?_
     refine dv (AW.g ·) ?_
     refine dv (At.a 1 ·) ?_
     refine Exists.elim (spec_l1Below_spec  (⟨c.data, p, s⟩ : Cur) 5 (by dsimp only; omega)) fun r2_ hr2_ => ?_
     have qr2_ := hr2_.1
     try dsimp only at qr2_
     refine dv (At.c (hr2_.2) Try.call58 true [(0, 0)] [] [] trivial ·) ?_
     refine dv (At.z 2 ·) ?_
     refine dv (AW.g ·) ?_
     refine dv (At.a 2 ·) ?_
     refine dv (At.sI 19 ((i : Int) + 1) (by omega) ·) ?_
     refine dv (At.z 1 ·) ?_
     exact dw (fun _ h_ => AWL.weak (Sub.o [(0, 0), (102, 102), (103, 103), (5001, 5001), (5002, 5002)] [true, false, true, true, true, true]) h_) (ih1 (i + 1, (⟨q.kind, q.from_, q.term, r2_.2.2, q.atTerm, q.commit, q.yes, q.release, q.part, q.bytes, q.cmd, q.entries⟩ : Msg), r2_.1, r2_.2.1) (by dsimp only; (try simp only [List.length_append, List.length_cons, List.length_nil]); omega) (by simp only; omega))
   refine dv (AW.condF ((e1.toNat : Int) == 97) (by kernel_rfl) (beq_eq_false_iff_ne.2 h4) ·) ?_
   refine dv (AW.q 2 ·) ?_
   by_cases h5 : (e1.toNat : Int) = 115
   · refine dv (AW.condT ((e1.toNat : Int) == 115) (by kernel_rfl) (beq_iff_eq.2 h5) ·) ?_
     refine dv (AW.g ·) ?_
     refine dv (At.a 1 ·) ?_
     refine Exists.elim (spec_l1Below_spec  (⟨c.data, p, s⟩ : Cur) 4 (by dsimp only; omega)) fun r2_ hr2_ => ?_
     have qr2_ := hr2_.1
     try dsimp only at qr2_
     refine dv (At.c (hr2_.2) Try.call58 true [(0, 0)] [] [] trivial ·) ?_
     refine dv (At.z 2 ·) ?_
     refine dv (AW.g ·) ?_
     refine dv (At.a 2 ·) ?_
     refine dv (At.sI 19 ((i : Int) + 1) (by omega) ·) ?_
     refine dv (At.z 1 ·) ?_
     exact dw (fun _ h_ => AWL.weak (Sub.o [(0, 0), (102, 102), (103, 103), (5001, 5001), (5002, 5002)] [true, false, true, true, true, true]) h_) (ih1 (i + 1, (⟨q.kind, q.from_, q.term, q.at_, r2_.2.2, q.commit, q.yes, q.release, q.part, q.bytes, q.cmd, q.entries⟩ : Msg), r2_.1, r2_.2.1) (by dsimp only; (try simp only [List.length_append, List.length_cons, List.length_nil]); omega) (by simp only; omega))
   refine dv (AW.condF ((e1.toNat : Int) == 115) (by kernel_rfl) (beq_eq_false_iff_ne.2 h5) ·) ?_
   refine dv (AW.q 2 ·) ?_
   by_cases h6 : (e1.toNat : Int) = 99
   · refine dv (AW.condT ((e1.toNat : Int) == 99) (by kernel_rfl) (beq_iff_eq.2 h6) ·) ?_
     refine dv (AW.g ·) ?_
     refine dv (At.a 1 ·) ?_
     refine Exists.elim (spec_l1Below_spec  (⟨c.data, p, s⟩ : Cur) 5 (by dsimp only; omega)) fun r2_ hr2_ => ?_
     have qr2_ := hr2_.1
     try dsimp only at qr2_
     refine dv (At.c (hr2_.2) Try.call58 true [(0, 0)] [] [] trivial ·) ?_
     refine dv (At.z 2 ·) ?_
     refine dv (AW.g ·) ?_
     refine dv (At.a 2 ·) ?_
     refine dv (At.sI 19 ((i : Int) + 1) (by omega) ·) ?_
     refine dv (At.z 1 ·) ?_
     exact dw (fun _ h_ => AWL.weak (Sub.o [(0, 0), (102, 102), (103, 103), (5001, 5001), (5002, 5002)] [true, false, true, true, true, true]) h_) (ih1 (i + 1, (⟨q.kind, q.from_, q.term, q.at_, q.atTerm, r2_.2.2, q.yes, q.release, q.part, q.bytes, q.cmd, q.entries⟩ : Msg), r2_.1, r2_.2.1) (by dsimp only; (try simp only [List.length_append, List.length_cons, List.length_nil]); omega) (by simp only; omega))
   refine dv (AW.condF ((e1.toNat : Int) == 99) (by kernel_rfl) (beq_eq_false_iff_ne.2 h6) ·) ?_
   refine dv (AW.q 2 ·) ?_
   by_cases h7 : (e1.toNat : Int) = 121
   · refine dv (AW.condT ((e1.toNat : Int) == 121) (by kernel_rfl) (beq_iff_eq.2 h7) ·) ?_
     refine dv (AW.g ·) ?_
     refine dv (At.a 1 ·) ?_
     refine Exists.elim (spec_l1Once_spec  (⟨c.data, p, s⟩ : Cur) 2 (by dsimp only; omega)) fun r2_ hr2_ => ?_
     have qr2_ := hr2_.1
     try dsimp only at qr2_
     refine dv (At.c (hr2_.2) Try.call61 true [(0, 0)] [] [] trivial ·) ?_
     refine dv (At.z 2 ·) ?_
     refine dv (AW.g ·) ?_
     refine dv (At.a 2 ·) ?_
     refine dv (At.sI 19 ((i : Int) + 1) (by omega) ·) ?_
     refine dv (At.z 1 ·) ?_
     exact dw (fun _ h_ => AWL.weak (Sub.o [(0, 0), (102, 102), (103, 103), (5001, 5001), (5002, 5002)] [true, false, true, true, true, true]) h_) (ih1 (i + 1, (⟨q.kind, q.from_, q.term, q.at_, q.atTerm, q.commit, r2_.2.2, q.release, q.part, q.bytes, q.cmd, q.entries⟩ : Msg), r2_.1, r2_.2.1) (by dsimp only; (try simp only [List.length_append, List.length_cons, List.length_nil]); omega) (by simp only; omega))
   refine dv (AW.condF ((e1.toNat : Int) == 121) (by kernel_rfl) (beq_eq_false_iff_ne.2 h7) ·) ?_
   refine dv (AW.q 2 ·) ?_
   by_cases h8 : (e1.toNat : Int) = 114
   · refine dv (AW.condT ((e1.toNat : Int) == 114) (by kernel_rfl) (beq_iff_eq.2 h8) ·) ?_
     refine dv (AW.g ·) ?_
     refine dv (At.a 1 ·) ?_
     refine Exists.elim (spec_l1Below_spec  (⟨c.data, p, s⟩ : Cur) 4 (by dsimp only; omega)) fun r2_ hr2_ => ?_
     have qr2_ := hr2_.1
     try dsimp only at qr2_
     refine dv (At.c (hr2_.2) Try.call58 true [(0, 0)] [] [] trivial ·) ?_
     refine dv (At.a 1 ·) ?_
     refine dv (At.sI 57 (1 + r2_.2.2) (by omega) ·) ?_
     refine dv (At.z 2 ·) ?_
     refine dv (AW.g ·) ?_
     refine dv (At.a 2 ·) ?_
     refine dv (At.sI 19 ((i : Int) + 1) (by omega) ·) ?_
     refine dv (At.z 1 ·) ?_
     exact dw (fun _ h_ => AWL.weak (Sub.o [(0, 0), (102, 102), (103, 103), (5001, 5001), (5002, 5002)] [true, false, true, true, true, true]) h_) (ih1 (i + 1, (⟨q.kind, q.from_, q.term, q.at_, q.atTerm, q.commit, q.yes, 1 + r2_.2.2, q.part, q.bytes, q.cmd, q.entries⟩ : Msg), r2_.1, r2_.2.1) (by dsimp only; (try simp only [List.length_append, List.length_cons, List.length_nil]); omega) (by simp only; omega))
   refine dv (AW.condF ((e1.toNat : Int) == 114) (by kernel_rfl) (beq_eq_false_iff_ne.2 h8) ·) ?_
   refine dv (AW.q 2 ·) ?_
   by_cases h9 : (e1.toNat : Int) = 112
   · refine dv (AW.condT ((e1.toNat : Int) == 112) (by kernel_rfl) (beq_iff_eq.2 h9) ·) ?_
     refine dv (AW.g ·) ?_
     refine dv (At.a 1 ·) ?_
     refine Exists.elim (spec_l1Below_spec  (⟨c.data, p, s⟩ : Cur) 4 (by dsimp only; omega)) fun r2_ hr2_ => ?_
     have qr2_ := hr2_.1
     try dsimp only at qr2_
     refine dv (At.c (hr2_.2) Try.call58 true [(0, 0)] [] [] trivial ·) ?_
     refine dv (At.z 2 ·) ?_
     refine dv (AW.g ·) ?_
     refine dv (At.a 2 ·) ?_
     refine dv (At.sI 19 ((i : Int) + 1) (by omega) ·) ?_
     refine dv (At.z 1 ·) ?_
     exact dw (fun _ h_ => AWL.weak (Sub.o [(0, 0), (102, 102), (103, 103), (5001, 5001), (5002, 5002)] [true, false, true, true, true, true]) h_) (ih1 (i + 1, (⟨q.kind, q.from_, q.term, q.at_, q.atTerm, q.commit, q.yes, q.release, r2_.2.2, q.bytes, q.cmd, q.entries⟩ : Msg), r2_.1, r2_.2.1) (by dsimp only; (try simp only [List.length_append, List.length_cons, List.length_nil]); omega) (by simp only; omega))
   refine dv (AW.condF ((e1.toNat : Int) == 112) (by kernel_rfl) (beq_eq_false_iff_ne.2 h9) ·) ?_
   refine dv (AW.q 2 ·) ?_
   by_cases h10 : (e1.toNat : Int) = 98
   · refine dv (AW.condT ((e1.toNat : Int) == 98) (by kernel_rfl) (beq_iff_eq.2 h10) ·) ?_
     refine dv (AW.g ·) ?_
     refine dv (At.a 1 ·) ?_
     refine Exists.elim (spec_l3DrawText_spec  (⟨c.data, p, s⟩ : Cur) 15 (by dsimp only; omega) (by omega)) fun r2_ hr2_ => ?_
     have qr2_ := hr2_.1
     try dsimp only at qr2_
     refine dv (At.c (hr2_.2) Try.call80 true [(0, 0)] [] [] trivial ·) ?_
     refine dv (At.cat (t := 9) (u := 9) (d := 68) (x := .const (.string ⟨#[120]⟩)) (y := .tmp 67) (a := (⟨#[120]⟩ : ByteArray)) (b := r2_.2.2) (by kernel_rfl) (by kernel_rfl) (by kernel_rfl) (by kernel_rfl) (by have : (⟨#[120]⟩ : ByteArray).size = 1 := rfl; omega) ·) ?_
     refine dv (At.z 2 ·) ?_
     refine dv (AW.g ·) ?_
     refine dv (At.a 2 ·) ?_
     refine dv (At.sI 19 ((i : Int) + 1) (by omega) ·) ?_
     refine dv (At.z 1 ·) ?_
     exact dw (fun _ h_ => AWL.weak (Sub.o [(0, 0), (102, 102), (103, 103), (5001, 5001), (5002, 5002)] [true, false, true, true, true, true]) h_) (ih1 (i + 1, (⟨q.kind, q.from_, q.term, q.at_, q.atTerm, q.commit, q.yes, q.release, q.part, (⟨#[120]⟩ : ByteArray) ++ r2_.2.2, q.cmd, q.entries⟩ : Msg), r2_.1, r2_.2.1) (by dsimp only; (try simp only [List.length_append, List.length_cons, List.length_nil]); omega) (by simp only; omega))
   refine dv (AW.condF ((e1.toNat : Int) == 98) (by kernel_rfl) (beq_eq_false_iff_ne.2 h10) ·) ?_
   refine dv (AW.q 2 ·) ?_
   by_cases h11 : (e1.toNat : Int) = 100
   · refine dv (AW.condT ((e1.toNat : Int) == 100) (by kernel_rfl) (beq_iff_eq.2 h11) ·) ?_
     refine dv (AW.g ·) ?_
     refine dv (At.a 1 ·) ?_
     refine Exists.elim (spec_l5DrawRight_spec  (⟨c.data, p, s⟩ : Cur) (by dsimp only; omega)) fun r2_ hr2_ => ?_
     have qr2_ := hr2_.1
     try dsimp only at qr2_
     refine dv (At.c (hr2_.2) Try.call82 true [(0, 0)] [] [] trivial ·) ?_
     refine dv (At.z 2 ·) ?_
     refine dv (AW.g ·) ?_
     refine dv (At.a 2 ·) ?_
     refine dv (At.sI 19 ((i : Int) + 1) (by omega) ·) ?_
     refine dv (At.z 1 ·) ?_
     exact dw (fun _ h_ => AWL.weak (Sub.o [(0, 0), (102, 102), (103, 103), (5001, 5001), (5002, 5002)] [true, false, true, true, true, true]) h_) (ih1 (i + 1, (⟨q.kind, q.from_, q.term, q.at_, q.atTerm, q.commit, q.yes, q.release, q.part, q.bytes, r2_.2.2, q.entries⟩ : Msg), r2_.1, r2_.2.1) (by dsimp only; (try simp only [List.length_append, List.length_cons, List.length_nil]); omega) (by simp only; omega))
   refine dv (AW.condF ((e1.toNat : Int) == 100) (by kernel_rfl) (beq_eq_false_iff_ne.2 h11) ·) ?_
   refine dv (AW.q 2 ·) ?_
   by_cases h12 : (e1.toNat : Int) = 101
   · refine dv (AW.condT ((e1.toNat : Int) == 101) (by kernel_rfl) (beq_iff_eq.2 h12) ·) ?_
     refine dv (AW.q 1 ·) ?_
     refine dv (AW.block ·) ?_
     refine DW.loopQ (fun (x : Nat × List Ent × Int × Int) => match x with | (k, l, p2, s2) => Go.Sy.mk [.ptr 0 0 0, .un, .ptr 102 0 0, .ptr 103 0 0, .str (l8F (1 + r1_.2.2)), .int .i64 (i : Int), .int .i64 (k : Int)] [(0, .box 110 [.sl false 1 (c.data.map encU8), .int .i64 p2, .int .i64 s2]), (102, .box 34 [.int .i64 0, .int .i64 0, .int .i64 0, .int .i64 0, .int .i64 0, .int .i64 0, .bool false, .int .i64 0, .int .i64 0, .str (⟨#[]⟩ : ByteArray), .int .i64 0, .int .i64 0, .int .i64 0, .int .i64 0, .str (⟨#[]⟩ : ByteArray), .ref 5001]), (103, .box 34 [.int .i64 q.kind, .int .i64 q.from_, .int .i64 q.term, .int .i64 q.at_, .int .i64 q.atTerm, .int .i64 q.commit, .bool q.yes, .int .i64 q.release, .int .i64 q.part, .str q.bytes, .int .i64 q.cmd.kind, .int .i64 q.cmd.release, .int .i64 q.cmd.node, .int .i64 q.cmd.size, .str q.cmd.digest, .ref 5002]), (5001, .arr 56 6 []), (5002, .arr 56 6 (l.map encEnt))]) (fun (x : Nat × List Ent × Int × Int) => match x with | (k, l, p2, s2) => k ≤ 6 ∧ l.length ≤ 6 * i + k ∧ (0 ≤ p2 ∧ p2 ≤ c.data.length)) (fun (x : Nat × List Ent × Int × Int) => match x with | (k, l, p2, s2) => 6 - k) (0, q.entries, p, s) (by dsimp only; (try simp only [List.length_nil]); omega) (Sub.o [(0, 0), (102, 102), (103, 103), (5001, 5001), (5002, 5002)] [true, false, true, true, true, true, true]) ?_
     rintro ⟨k, l, p2, s2⟩ hl ih2
     refine dv (AW.seq ·) ?_
     refine dv (AW.r ·) ?_
     refine dv (At.a 2 ·) ?_
     refine Exists.elim (spec_l1Below_spec  (⟨c.data, p2, s2⟩ : Cur) 7 (by dsimp only; omega)) fun r2_ hr2_ => ?_
     have qr2_ := hr2_.1
     try dsimp only at qr2_
     refine dv (At.c (hr2_.2) Try.call58 true [(0, 0)] [] [] trivial ·) ?_
     refine dv (At.z 1 ·) ?_
     by_cases h13 : (k : Int) < r2_.2.2
     · refine dv (AW.condT (decide ((k : Int) < r2_.2.2)) (by kernel_rfl) (decide_eq_true h13) ·) ?_
       refine dv (AW.skip ·) ?_
       refine dv (AW.seq ·) ?_
       refine dv (AW.block ·) ?_
       refine dv (AW.gD Try_mix ·) ?_
       refine dv (At.a 3 ·) ?_
       refine Exists.elim (spec_l1Below_spec  (⟨c.data, r2_.1, r2_.2.1⟩ : Cur) 4 (by dsimp only; omega)) fun r3_ hr3_ => ?_
       have qr3_ := hr3_.1
       try dsimp only at qr3_
       refine dv (At.c (hr3_.2) Try.call58 true [(0, 0)] [] [] trivial ·) ?_
       refine dv (At.a 1 ·) ?_
       refine dv (At.sI 87 (1 + r3_.2.2) (by omega) ·) ?_
       refine dv (At.a 1 ·) ?_
       refine Exists.elim (spec_l5DrawRight_spec  (⟨c.data, r3_.1, r3_.2.1⟩ : Cur) (by dsimp only; omega)) fun r4_ hr4_ => ?_
       have qr4_ := hr4_.1
       try dsimp only at qr4_
       refine dv (At.c (hr4_.2) Try.call82 true [(0, 0)] [] [] trivial ·) ?_
       refine dv (At.a 1 ·) ?_
       refine dv (At.ll 91 56 6 191 (56, 6) (([(⟨1 + r3_.2.2, r4_.2.2⟩ : Ent)]).map encEnt) ·) ?_
       refine dv (At.apK 92 56 6 56 192 5002 191 encEnt l ([(⟨1 + r3_.2.2, r4_.2.2⟩ : Ent)]) (by simp only [List.length_map, List.length_append, List.length_take, List.length_drop, List.length_replicate, List.length_set, List.length_cons, List.length_nil]; omega) ·) ?_
       refine dv (At.zD 2 ·) ?_
       refine dv (AW.g ·) ?_
       refine dv (At.a 2 ·) ?_
       refine dv (At.sI 82 ((k : Int) + 1) (by omega) ·) ?_
       refine dv (At.z 1 ·) ?_
       exact dw (fun _ h_ => AWL.weak (Sub.o [(0, 0), (102, 102), (103, 103), (5001, 5001), (192, 5002)] [true, false, true, true, true, true, true]) h_) (ih2 (k + 1, (l ++ ([(⟨1 + r3_.2.2, r4_.2.2⟩ : Ent)])), r4_.1, r4_.2.1) (by dsimp only; (try simp only [List.length_append, List.length_cons, List.length_nil]); omega) (by simp only; omega))
     refine dv (AW.condF (decide ((k : Int) < r2_.2.2)) (by kernel_rfl) (decide_eq_false h13) ·) ?_
     refine dv (AW.exit ·) ?_
     refine dv (AW.g ·) ?_
     refine dv (At.a 2 ·) ?_
     refine dv (At.sI 19 ((i : Int) + 1) (by omega) ·) ?_
     refine dv (At.z 1 ·) ?_
     exact dw (fun _ h_ => AWL.weak (Sub.o [(0, 0), (102, 102), (103, 103), (5001, 5001), (5002, 5002)] [true, false, true, true, true, true]) h_) (ih1 (i + 1, (⟨q.kind, q.from_, q.term, q.at_, q.atTerm, q.commit, q.yes, q.release, q.part, q.bytes, q.cmd, l⟩ : Msg), r2_.1, r2_.2.1) (by dsimp only; (try simp only [List.length_append, List.length_cons, List.length_nil]); omega) (by simp only; omega))
   refine dv (AW.condF ((e1.toNat : Int) == 101) (by kernel_rfl) (beq_eq_false_iff_ne.2 h12) ·) ?_
   refine dv (AW.skip ·) ?_
   refine dv (AW.g ·) ?_
   refine dv (At.a 2 ·) ?_
   refine dv (At.sI 19 ((i : Int) + 1) (by omega) ·) ?_
   refine dv (At.z 1 ·) ?_
   exact dw (fun _ h_ => AWL.weak (Sub.o [(0, 0), (102, 102), (103, 103), (5001, 5001), (5002, 5002)] [true, false, true, true, true, true]) h_) (ih1 (i + 1, q, p, s) (by dsimp only; (try simp only [List.length_append, List.length_cons, List.length_nil]); omega) (by simp only; omega))
 refine dv (AW.condF (decide ((i : Int) < ((l8F (1 + r1_.2.2)).size : Int))) (by kernel_rfl) (decide_eq_false h1) ·) ?_
 refine dv (AW.exit ·) ?_
 refine dv (AW.q 2 ·) ?_
 refine dv (AW.ret ·) ?_
 refine dv (⟨_, Sub.refl _ _, ·⟩) ?_
 exact ⟨(p, s, q), (by (try dsimp only); omega), KF.mk (.inr rfl) [(0, 0), (5002, 1)] [.agg [.int .i64 q.kind, .int .i64 q.from_, .int .i64 q.term, .int .i64 q.at_, .int .i64 q.atTerm, .int .i64 q.commit, .bool q.yes, .int .i64 q.release, .int .i64 q.part, .str q.bytes, .int .i64 q.cmd.kind, .int .i64 q.cmd.release, .int .i64 q.cmd.node, .int .i64 q.cmd.size, .str q.cmd.digest, .ref 5002]] (by kernel_rfl) (by kernel_rfl) (by kernel_rfl) (by kernel_rfl) (by kernel_rfl)⟩
theorem spec_l1PickInt_spec  (c : Cur) (list : List Int) (hp : 0 ≤ c.pos ∧ c.pos ≤ c.data.length ∧ c.data.length ≤ 1048576) (hl : 0 < list.length ∧ list.length ≤ 1000) : ∃ rho_ : Int × Int × Int, (0 ≤ rho_.1 ∧ rho_.1 ≤ c.data.length ∧ rho_.2.2 ∈ list) ∧ FnSpec Try.prog 60 [.ptr 0 0 0, .ref 1] [.box 110 [.sl false 1 (c.data.map encU8), .int .i64 c.pos, .int .i64 c.seed], .arr 3 1 (list.map encI)] (.int .i64 rho_.2.2) [.box 110 [.sl false 1 (c.data.map encU8), .int .i64 rho_.1, .int .i64 rho_.2.1], .arr 3 1 (list.map encI)] := by
 refine dv (fun h_ => FnSpec.of 12 Try.func60 rfl Try.ntmps60 (by simp) (AW.weakK h_)) ?_
 refine dv (AW.q 1 ·) ?_
 refine dv (AW.r ·) ?_
 refine dv (At.a 4 ·) ?_
 refine dv (At.sL 8 encI list ·) ?_
 refine Exists.elim (spec_l1Below_spec  c (list.length : Int) (by omega)) fun r1_ hr1_ => ?_
 have qr1_ := hr1_.1
 try dsimp only at qr1_
 refine dv (At.c (hr1_.2) Try.call58 true [(0, 0)] [] [] trivial ·) ?_
 refine dv (At.iRf 85 10 (.tmp 5) (.tmp 9) 1 (list.map encI) .i64 r1_.2.2 3 1 (by omega) (by simp only [List.length_map]; omega) ·) ?_
 refine Exists.elim (gE list ((r1_.2.2).toNat) (by omega)) fun e1 he1 => ?_
 refine dv (At.lEl 3 11 (.tmp 10) 1 3 1 (list.map encI) ((r1_.2.2).toNat) 0 false 1 (encI e1) (.int .i64 e1) (mapGet he1) ·) ?_
 refine dv (At.z 1 ·) ?_
 refine dv (AW.ret ·) ?_
 refine dv (⟨_, Sub.refl _ _, ·⟩) ?_
 exact ⟨(r1_.1, r1_.2.1, e1), ⟨by dsimp only; omega, by dsimp only; omega, List.mem_of_getElem? he1⟩, KF.mk (.inr rfl) [(0, 0), (1, 1)] [.int .i64 e1] (by kernel_rfl) (by kernel_rfl) (by kernel_rfl) (by kernel_rfl) (by kernel_rfl)⟩
theorem spec_l5DrawCmd_spec  (c : Cur) (hp : 0 ≤ c.pos ∧ c.pos ≤ c.data.length ∧ c.data.length ≤ 1048576) : ∃ rho_ : Int × Int × Cmd, (0 ≤ rho_.1 ∧ rho_.1 ≤ c.data.length ∧ rho_.2.2.digest.size ≤ 33) ∧ FnSpec Try.prog 81 [.ptr 0 0 0] [.box 110 [.sl false 1 (c.data.map encU8), .int .i64 c.pos, .int .i64 c.seed]] (.agg [.int .i64 rho_.2.2.kind, .int .i64 rho_.2.2.release, .int .i64 rho_.2.2.node, .int .i64 rho_.2.2.size, .str rho_.2.2.digest]) [.box 110 [.sl false 1 (c.data.map encU8), .int .i64 rho_.1, .int .i64 rho_.2.1]] := by
 refine dv (fun h_ => FnSpec.of 38 Try.func81 rfl Try.ntmps81 (by simp) (AW.weakK h_)) ?_
 refine dv (AW.q 1 ·) ?_
 refine dv (AW.r ·) ?_
 refine dv (At.a 1 ·) ?_
 refine Exists.elim (spec_l5DrawRight_spec  c (by omega)) fun r1_ hr1_ => ?_
 have qr1_ := hr1_.1
 try dsimp only at qr1_
 refine dv (At.c (hr1_.2) Try.call82 true [(0, 0)] [] [] trivial ·) ?_
 refine dv (At.z 2 ·) ?_
 refine dv (AW.seq ·) ?_
 refine dv (AW.r ·) ?_
 refine dv (At.a 1 ·) ?_
 refine Exists.elim (spec_l1Below_spec  (⟨c.data, r1_.1, r1_.2.1⟩ : Cur) 25 (by dsimp only; omega)) fun r2_ hr2_ => ?_
 have qr2_ := hr2_.1
 try dsimp only at qr2_
 refine dv (At.c (hr2_.2) Try.call58 true [(0, 0)] [] [] trivial ·) ?_
 refine dv (At.done rfl ·) ?_
 refine dv (AW.block ·) ?_
 refine dv (AW.q 2 ·) ?_
 by_cases h1 : r2_.2.2 = 0
 · refine dv (AW.condT (r2_.2.2 == 0) (by kernel_rfl) (beq_iff_eq.2 h1) ·) ?_
   refine dv (AW.g ·) ?_
   refine dv (At.a 1 ·) ?_
   refine Exists.elim (spec_l1Below_spec  (⟨c.data, r2_.1, r2_.2.1⟩ : Cur) 7 (by dsimp only; omega)) fun r3_ hr3_ => ?_
   have qr3_ := hr3_.1
   try dsimp only at qr3_
   refine dv (At.c (hr3_.2) Try.call58 true [(0, 0)] [] [] trivial ·) ?_
   refine dv (At.z 2 ·) ?_
   refine dv (AW.q 2 ·) ?_
   refine dv (AW.ret ·) ?_
   refine dv (⟨_, Sub.refl _ _, ·⟩) ?_
   exact ⟨(r3_.1, r3_.2.1, (⟨r3_.2.2, r1_.2.2.release, r1_.2.2.node, r1_.2.2.size, r1_.2.2.digest⟩ : Cmd)), (by dsimp only; first | omega | (rw [ByteArray.size_append]; have : (⟨#[120]⟩ : ByteArray).size = 1 := rfl; omega)), KF.mk (.inr rfl) [(0, 0)] [.agg [.int .i64 r3_.2.2, .int .i64 r1_.2.2.release, .int .i64 r1_.2.2.node, .int .i64 r1_.2.2.size, .str r1_.2.2.digest]] (by kernel_rfl) (by kernel_rfl) (by kernel_rfl) (by kernel_rfl) (by kernel_rfl)⟩
 refine dv (AW.condF (r2_.2.2 == 0) (by kernel_rfl) (beq_eq_false_iff_ne.2 h1) ·) ?_
 refine dv (AW.q 2 ·) ?_
 by_cases h2 : r2_.2.2 = 1
 · refine dv (AW.condT (r2_.2.2 == 1) (by kernel_rfl) (beq_iff_eq.2 h2) ·) ?_
   refine dv (AW.g ·) ?_
   refine dv (At.a 1 ·) ?_
   refine dv (At.ll 16 3 1 116 (56, 6) (([0, 1000, 1001]).map encI) ·) ?_
   refine Exists.elim (spec_l1PickInt_spec  (⟨c.data, r2_.1, r2_.2.1⟩ : Cur) ([0, 1000, 1001]) (by dsimp only; omega) (by decide)) fun r3_ hr3_ => ?_
   have qr3_ := hr3_.1
   try dsimp only at qr3_
   refine dv (At.c (hr3_.2) Try.call60 true [(0, 0), (116, 1)] [] [] trivial ·) ?_
   refine dv (At.z 2 ·) ?_
   refine dv (AW.q 2 ·) ?_
   refine dv (AW.ret ·) ?_
   refine dv (⟨_, Sub.refl _ _, ·⟩) ?_
   exact ⟨(r3_.1, r3_.2.1, (⟨r1_.2.2.kind, r3_.2.2, r1_.2.2.node, r1_.2.2.size, r1_.2.2.digest⟩ : Cmd)), (by dsimp only; first | omega | (rw [ByteArray.size_append]; have : (⟨#[120]⟩ : ByteArray).size = 1 := rfl; omega)), KF.mk (.inr rfl) [(0, 0)] [.agg [.int .i64 r1_.2.2.kind, .int .i64 r3_.2.2, .int .i64 r1_.2.2.node, .int .i64 r1_.2.2.size, .str r1_.2.2.digest]] (by kernel_rfl) (by kernel_rfl) (by kernel_rfl) (by kernel_rfl) (by kernel_rfl)⟩
 refine dv (AW.condF (r2_.2.2 == 1) (by kernel_rfl) (beq_eq_false_iff_ne.2 h2) ·) ?_
 refine dv (AW.q 2 ·) ?_
 by_cases h3 : r2_.2.2 = 2
 · refine dv (AW.condT (r2_.2.2 == 2) (by kernel_rfl) (beq_iff_eq.2 h3) ·) ?_
   refine dv (AW.g ·) ?_
   refine dv (At.a 1 ·) ?_
   refine dv (At.ll 22 3 1 122 (56, 6) (([-1, 4, 5]).map encI) ·) ?_
   refine Exists.elim (spec_l1PickInt_spec  (⟨c.data, r2_.1, r2_.2.1⟩ : Cur) ([-1, 4, 5]) (by dsimp only; omega) (by decide)) fun r3_ hr3_ => ?_
   have qr3_ := hr3_.1
   try dsimp only at qr3_
   refine dv (At.c (hr3_.2) Try.call60 true [(0, 0), (122, 1)] [] [] trivial ·) ?_
   refine dv (At.z 2 ·) ?_
   refine dv (AW.q 2 ·) ?_
   refine dv (AW.ret ·) ?_
   refine dv (⟨_, Sub.refl _ _, ·⟩) ?_
   exact ⟨(r3_.1, r3_.2.1, (⟨r1_.2.2.kind, r1_.2.2.release, r3_.2.2, r1_.2.2.size, r1_.2.2.digest⟩ : Cmd)), (by dsimp only; first | omega | (rw [ByteArray.size_append]; have : (⟨#[120]⟩ : ByteArray).size = 1 := rfl; omega)), KF.mk (.inr rfl) [(0, 0)] [.agg [.int .i64 r1_.2.2.kind, .int .i64 r1_.2.2.release, .int .i64 r3_.2.2, .int .i64 r1_.2.2.size, .str r1_.2.2.digest]] (by kernel_rfl) (by kernel_rfl) (by kernel_rfl) (by kernel_rfl) (by kernel_rfl)⟩
 refine dv (AW.condF (r2_.2.2 == 2) (by kernel_rfl) (beq_eq_false_iff_ne.2 h3) ·) ?_
 refine dv (AW.q 2 ·) ?_
 by_cases h4 : r2_.2.2 = 3
 · refine dv (AW.condT (r2_.2.2 == 3) (by kernel_rfl) (beq_iff_eq.2 h4) ·) ?_
   refine dv (AW.g ·) ?_
   refine dv (At.a 1 ·) ?_
   refine dv (At.ll 28 3 1 128 (56, 6) (([-1, 1000, 1001]).map encI) ·) ?_
   refine Exists.elim (spec_l1PickInt_spec  (⟨c.data, r2_.1, r2_.2.1⟩ : Cur) ([-1, 1000, 1001]) (by dsimp only; omega) (by decide)) fun r3_ hr3_ => ?_
   have qr3_ := hr3_.1
   try dsimp only at qr3_
   refine dv (At.c (hr3_.2) Try.call60 true [(0, 0), (128, 1)] [] [] trivial ·) ?_
   refine dv (At.z 2 ·) ?_
   refine dv (AW.q 2 ·) ?_
   refine dv (AW.ret ·) ?_
   refine dv (⟨_, Sub.refl _ _, ·⟩) ?_
   exact ⟨(r3_.1, r3_.2.1, (⟨r1_.2.2.kind, r1_.2.2.release, r1_.2.2.node, r3_.2.2, r1_.2.2.digest⟩ : Cmd)), (by dsimp only; first | omega | (rw [ByteArray.size_append]; have : (⟨#[120]⟩ : ByteArray).size = 1 := rfl; omega)), KF.mk (.inr rfl) [(0, 0)] [.agg [.int .i64 r1_.2.2.kind, .int .i64 r1_.2.2.release, .int .i64 r1_.2.2.node, .int .i64 r3_.2.2, .str r1_.2.2.digest]] (by kernel_rfl) (by kernel_rfl) (by kernel_rfl) (by kernel_rfl) (by kernel_rfl)⟩
 refine dv (AW.condF (r2_.2.2 == 3) (by kernel_rfl) (beq_eq_false_iff_ne.2 h4) ·) ?_
 refine dv (AW.q 2 ·) ?_
 by_cases h5 : r2_.2.2 = 4
 · refine dv (AW.condT (r2_.2.2 == 4) (by kernel_rfl) (beq_iff_eq.2 h5) ·) ?_
   refine dv (AW.g ·) ?_
   refine dv (At.a 2 ·) ?_
   refine dv (At.cat (t := 9) (u := 9) (d := 35) (x := .tmp 34) (y := .const (.string ⟨#[120]⟩)) (a := r1_.2.2.digest) (b := (⟨#[120]⟩ : ByteArray)) (by kernel_rfl) (by kernel_rfl) (by kernel_rfl) (by kernel_rfl) (by have : (⟨#[120]⟩ : ByteArray).size = 1 := rfl; omega) ·) ?_
   refine dv (At.z 2 ·) ?_
   refine dv (AW.q 2 ·) ?_
   refine dv (AW.ret ·) ?_
   refine dv (⟨_, Sub.refl _ _, ·⟩) ?_
   exact ⟨(r2_.1, r2_.2.1, (⟨r1_.2.2.kind, r1_.2.2.release, r1_.2.2.node, r1_.2.2.size, r1_.2.2.digest ++ (⟨#[120]⟩ : ByteArray)⟩ : Cmd)), (by dsimp only; first | omega | (rw [ByteArray.size_append]; have : (⟨#[120]⟩ : ByteArray).size = 1 := rfl; omega)), KF.mk (.inr rfl) [(0, 0)] [.agg [.int .i64 r1_.2.2.kind, .int .i64 r1_.2.2.release, .int .i64 r1_.2.2.node, .int .i64 r1_.2.2.size, .str (r1_.2.2.digest ++ (⟨#[120]⟩ : ByteArray))]] (by kernel_rfl) (by kernel_rfl) (by kernel_rfl) (by kernel_rfl) (by kernel_rfl)⟩
 refine dv (AW.condF (r2_.2.2 == 4) (by kernel_rfl) (beq_eq_false_iff_ne.2 h5) ·) ?_
 refine dv (AW.skip ·) ?_
 refine dv (AW.q 2 ·) ?_
 refine dv (AW.ret ·) ?_
 refine dv (⟨_, Sub.refl _ _, ·⟩) ?_
 exact ⟨(r2_.1, r2_.2.1, r1_.2.2), (by dsimp only; first | omega | (rw [ByteArray.size_append]; have : (⟨#[120]⟩ : ByteArray).size = 1 := rfl; omega)), KF.mk (.inr rfl) [(0, 0)] [.agg [.int .i64 r1_.2.2.kind, .int .i64 r1_.2.2.release, .int .i64 r1_.2.2.node, .int .i64 r1_.2.2.size, .str r1_.2.2.digest]] (by kernel_rfl) (by kernel_rfl) (by kernel_rfl) (by kernel_rfl) (by kernel_rfl)⟩
theorem spec_l8DrawMsg_spec  (c : Cur) (hp : 0 ≤ c.pos ∧ c.pos ≤ c.data.length ∧ c.data.length ≤ 1048576) : ∃ rho_ : Int × Int × Msg, (0 ≤ rho_.1 ∧ rho_.1 ≤ c.data.length ∧ rho_.2.2.entries.length ≤ 101) ∧ FnSpec Try.prog 50 [.ptr 0 0 0] [.box 110 [.sl false 1 (c.data.map encU8), .int .i64 c.pos, .int .i64 c.seed]] (.agg [.int .i64 rho_.2.2.kind, .int .i64 rho_.2.2.from_, .int .i64 rho_.2.2.term, .int .i64 rho_.2.2.at_, .int .i64 rho_.2.2.atTerm, .int .i64 rho_.2.2.commit, .bool rho_.2.2.yes, .int .i64 rho_.2.2.release, .int .i64 rho_.2.2.part, .str rho_.2.2.bytes, .int .i64 rho_.2.2.cmd.kind, .int .i64 rho_.2.2.cmd.release, .int .i64 rho_.2.2.cmd.node, .int .i64 rho_.2.2.cmd.size, .str rho_.2.2.cmd.digest, .ref 1]) [.box 110 [.sl false 1 (c.data.map encU8), .int .i64 rho_.1, .int .i64 rho_.2.1], .arr 56 6 (rho_.2.2.entries.map encEnt)] := by
 refine dv (fun h_ => FnSpec.of 55 Try.func50 rfl Try.ntmps50 (by simp) (AW.weakK h_)) ?_
 refine dv (AW.q 1 ·) ?_
 refine dv (AW.seq ·) ?_
 refine dv (AW.weak (Sub.nils [⟨true, 102, some 15, 5001, 56, 6⟩] (by kernel_rfl)) ·) ?_
 refine dv (AW.g ·) ?_
 refine dv (At.a 1 ·) ?_
 refine Exists.elim (spec_l8DrawRight_spec  c (by omega)) fun r1_ hr1_ => ?_
 have qr1_ := hr1_.1
 try dsimp only at qr1_
 refine dv (At.c (hr1_.2) Try.call57 true [(0, 0)] [(1100, 1)] [] trivial ·) ?_
 refine dv (At.z 2 ·) ?_
 refine dv (AW.seq ·) ?_
 refine dv (AW.r ·) ?_
 refine dv (At.a 1 ·) ?_
 refine Exists.elim (spec_l1Below_spec  (⟨c.data, r1_.1, r1_.2.1⟩ : Cur) 25 (by dsimp only; omega)) fun r2_ hr2_ => ?_
 have qr2_ := hr2_.1
 try dsimp only at qr2_
 refine dv (At.c (hr2_.2) Try.call58 true [(0, 0)] [] [] trivial ·) ?_
 refine dv (At.done rfl ·) ?_
 refine dv (AW.block ·) ?_
 refine dv (AW.q 2 ·) ?_
 by_cases h1 : r2_.2.2 = 0
 · refine dv (AW.condT (r2_.2.2 == 0) (by kernel_rfl) (beq_iff_eq.2 h1) ·) ?_
   refine dv (AW.g ·) ?_
   refine dv (At.a 1 ·) ?_
   refine dv (At.ll 11 3 1 111 (56, 6) (([0, 8, 1, 5]).map encI) ·) ?_
   refine Exists.elim (spec_l1PickInt_spec  (⟨c.data, r2_.1, r2_.2.1⟩ : Cur) ([0, 8, 1, 5]) (by dsimp only; omega) (by decide)) fun r3_ hr3_ => ?_
   have qr3_ := hr3_.1
   try dsimp only at qr3_
   refine dv (At.c (hr3_.2) Try.call60 true [(0, 0), (111, 1)] [] [] trivial ·) ?_
   refine dv (At.z 2 ·) ?_
   refine dv (AW.q 2 ·) ?_
   refine dv (AW.ret ·) ?_
   refine dv (⟨_, Sub.refl _ _, ·⟩) ?_
   exact ⟨(r3_.1, r3_.2.1, (⟨r3_.2.2, r1_.2.2.from_, r1_.2.2.term, r1_.2.2.at_, r1_.2.2.atTerm, r1_.2.2.commit, r1_.2.2.yes, r1_.2.2.release, r1_.2.2.part, r1_.2.2.bytes, r1_.2.2.cmd, r1_.2.2.entries⟩ : Msg)), (by (try dsimp only); (try simp only [List.length_append, List.length_cons, List.length_nil]); omega), KF.mk (.inr rfl) [(0, 0), (1100, 1)] [.agg [.int .i64 r3_.2.2, .int .i64 r1_.2.2.from_, .int .i64 r1_.2.2.term, .int .i64 r1_.2.2.at_, .int .i64 r1_.2.2.atTerm, .int .i64 r1_.2.2.commit, .bool r1_.2.2.yes, .int .i64 r1_.2.2.release, .int .i64 r1_.2.2.part, .str r1_.2.2.bytes, .int .i64 r1_.2.2.cmd.kind, .int .i64 r1_.2.2.cmd.release, .int .i64 r1_.2.2.cmd.node, .int .i64 r1_.2.2.cmd.size, .str r1_.2.2.cmd.digest, .ref 1100]] (by kernel_rfl) (by kernel_rfl) (by kernel_rfl) (by kernel_rfl) (by kernel_rfl)⟩
 refine dv (AW.condF (r2_.2.2 == 0) (by kernel_rfl) (beq_eq_false_iff_ne.2 h1) ·) ?_
 refine dv (AW.q 2 ·) ?_
 by_cases h2 : r2_.2.2 = 1
 · refine dv (AW.condT (r2_.2.2 == 1) (by kernel_rfl) (beq_iff_eq.2 h2) ·) ?_
   refine dv (AW.g ·) ?_
   refine dv (At.a 1 ·) ?_
   refine dv (At.ll 17 3 1 117 (56, 6) (([-1, 4, 5]).map encI) ·) ?_
   refine Exists.elim (spec_l1PickInt_spec  (⟨c.data, r2_.1, r2_.2.1⟩ : Cur) ([-1, 4, 5]) (by dsimp only; omega) (by decide)) fun r3_ hr3_ => ?_
   have qr3_ := hr3_.1
   try dsimp only at qr3_
   refine dv (At.c (hr3_.2) Try.call60 true [(0, 0), (117, 1)] [] [] trivial ·) ?_
   refine dv (At.z 2 ·) ?_
   refine dv (AW.q 2 ·) ?_
   refine dv (AW.ret ·) ?_
   refine dv (⟨_, Sub.refl _ _, ·⟩) ?_
   exact ⟨(r3_.1, r3_.2.1, (⟨r1_.2.2.kind, r3_.2.2, r1_.2.2.term, r1_.2.2.at_, r1_.2.2.atTerm, r1_.2.2.commit, r1_.2.2.yes, r1_.2.2.release, r1_.2.2.part, r1_.2.2.bytes, r1_.2.2.cmd, r1_.2.2.entries⟩ : Msg)), (by (try dsimp only); (try simp only [List.length_append, List.length_cons, List.length_nil]); omega), KF.mk (.inr rfl) [(0, 0), (1100, 1)] [.agg [.int .i64 r1_.2.2.kind, .int .i64 r3_.2.2, .int .i64 r1_.2.2.term, .int .i64 r1_.2.2.at_, .int .i64 r1_.2.2.atTerm, .int .i64 r1_.2.2.commit, .bool r1_.2.2.yes, .int .i64 r1_.2.2.release, .int .i64 r1_.2.2.part, .str r1_.2.2.bytes, .int .i64 r1_.2.2.cmd.kind, .int .i64 r1_.2.2.cmd.release, .int .i64 r1_.2.2.cmd.node, .int .i64 r1_.2.2.cmd.size, .str r1_.2.2.cmd.digest, .ref 1100]] (by kernel_rfl) (by kernel_rfl) (by kernel_rfl) (by kernel_rfl) (by kernel_rfl)⟩
 refine dv (AW.condF (r2_.2.2 == 1) (by kernel_rfl) (beq_eq_false_iff_ne.2 h2) ·) ?_
 refine dv (AW.q 2 ·) ?_
 by_cases h3 : r2_.2.2 = 2
 · refine dv (AW.condT (r2_.2.2 == 2) (by kernel_rfl) (beq_iff_eq.2 h3) ·) ?_
   refine dv (AW.g ·) ?_
   refine dv (At.a 1 ·) ?_
   refine dv (At.ll 23 3 1 123 (56, 6) (([-1, 80, 81]).map encI) ·) ?_
   refine Exists.elim (spec_l1PickInt_spec  (⟨c.data, r2_.1, r2_.2.1⟩ : Cur) ([-1, 80, 81]) (by dsimp only; omega) (by decide)) fun r3_ hr3_ => ?_
   have qr3_ := hr3_.1
   try dsimp only at qr3_
   refine dv (At.c (hr3_.2) Try.call60 true [(0, 0), (123, 1)] [] [] trivial ·) ?_
   refine dv (At.z 2 ·) ?_
   refine dv (AW.q 2 ·) ?_
   refine dv (AW.ret ·) ?_
   refine dv (⟨_, Sub.refl _ _, ·⟩) ?_
   exact ⟨(r3_.1, r3_.2.1, (⟨r1_.2.2.kind, r1_.2.2.from_, r1_.2.2.term, r3_.2.2, r1_.2.2.atTerm, r1_.2.2.commit, r1_.2.2.yes, r1_.2.2.release, r1_.2.2.part, r1_.2.2.bytes, r1_.2.2.cmd, r1_.2.2.entries⟩ : Msg)), (by (try dsimp only); (try simp only [List.length_append, List.length_cons, List.length_nil]); omega), KF.mk (.inr rfl) [(0, 0), (1100, 1)] [.agg [.int .i64 r1_.2.2.kind, .int .i64 r1_.2.2.from_, .int .i64 r1_.2.2.term, .int .i64 r3_.2.2, .int .i64 r1_.2.2.atTerm, .int .i64 r1_.2.2.commit, .bool r1_.2.2.yes, .int .i64 r1_.2.2.release, .int .i64 r1_.2.2.part, .str r1_.2.2.bytes, .int .i64 r1_.2.2.cmd.kind, .int .i64 r1_.2.2.cmd.release, .int .i64 r1_.2.2.cmd.node, .int .i64 r1_.2.2.cmd.size, .str r1_.2.2.cmd.digest, .ref 1100]] (by kernel_rfl) (by kernel_rfl) (by kernel_rfl) (by kernel_rfl) (by kernel_rfl)⟩
 refine dv (AW.condF (r2_.2.2 == 2) (by kernel_rfl) (beq_eq_false_iff_ne.2 h3) ·) ?_
 refine dv (AW.q 2 ·) ?_
 by_cases h4 : r2_.2.2 = 3
 · refine dv (AW.condT (r2_.2.2 == 3) (by kernel_rfl) (beq_iff_eq.2 h4) ·) ?_
   refine dv (AW.g ·) ?_
   refine dv (At.a 1 ·) ?_
   refine Exists.elim (spec_l3DrawText_spec  (⟨c.data, r2_.1, r2_.2.1⟩ : Cur) 17 (by dsimp only; omega) (by omega)) fun r3_ hr3_ => ?_
   have qr3_ := hr3_.1
   try dsimp only at qr3_
   refine dv (At.c (hr3_.2) Try.call80 true [(0, 0)] [] [] trivial ·) ?_
   refine dv (At.z 2 ·) ?_
   refine dv (AW.q 2 ·) ?_
   refine dv (AW.ret ·) ?_
   refine dv (⟨_, Sub.refl _ _, ·⟩) ?_
   exact ⟨(r3_.1, r3_.2.1, (⟨r1_.2.2.kind, r1_.2.2.from_, r1_.2.2.term, r1_.2.2.at_, r1_.2.2.atTerm, r1_.2.2.commit, r1_.2.2.yes, r1_.2.2.release, r1_.2.2.part, r3_.2.2, r1_.2.2.cmd, r1_.2.2.entries⟩ : Msg)), (by (try dsimp only); (try simp only [List.length_append, List.length_cons, List.length_nil]); omega), KF.mk (.inr rfl) [(0, 0), (1100, 1)] [.agg [.int .i64 r1_.2.2.kind, .int .i64 r1_.2.2.from_, .int .i64 r1_.2.2.term, .int .i64 r1_.2.2.at_, .int .i64 r1_.2.2.atTerm, .int .i64 r1_.2.2.commit, .bool r1_.2.2.yes, .int .i64 r1_.2.2.release, .int .i64 r1_.2.2.part, .str r3_.2.2, .int .i64 r1_.2.2.cmd.kind, .int .i64 r1_.2.2.cmd.release, .int .i64 r1_.2.2.cmd.node, .int .i64 r1_.2.2.cmd.size, .str r1_.2.2.cmd.digest, .ref 1100]] (by kernel_rfl) (by kernel_rfl) (by kernel_rfl) (by kernel_rfl) (by kernel_rfl)⟩
 refine dv (AW.condF (r2_.2.2 == 3) (by kernel_rfl) (beq_eq_false_iff_ne.2 h4) ·) ?_
 refine dv (AW.q 2 ·) ?_
 by_cases h5 : r2_.2.2 = 4
 · refine dv (AW.condT (r2_.2.2 == 4) (by kernel_rfl) (beq_iff_eq.2 h5) ·) ?_
   refine dv (AW.gq 5 ·) ?_
   refine dv (AW.q 2 ·) ?_
   refine dv (AW.ret ·) ?_
   refine dv (⟨_, Sub.refl _ _, ·⟩) ?_
   exact ⟨(r2_.1, r2_.2.1, (⟨r1_.2.2.kind, r1_.2.2.from_, r1_.2.2.term, r1_.2.2.at_, r1_.2.2.atTerm, r1_.2.2.commit, !r1_.2.2.yes, r1_.2.2.release, r1_.2.2.part, r1_.2.2.bytes, r1_.2.2.cmd, r1_.2.2.entries⟩ : Msg)), (by (try dsimp only); (try simp only [List.length_append, List.length_cons, List.length_nil]); omega), KF.mk (.inr rfl) [(0, 0), (1100, 1)] [.agg [.int .i64 r1_.2.2.kind, .int .i64 r1_.2.2.from_, .int .i64 r1_.2.2.term, .int .i64 r1_.2.2.at_, .int .i64 r1_.2.2.atTerm, .int .i64 r1_.2.2.commit, .bool (!r1_.2.2.yes), .int .i64 r1_.2.2.release, .int .i64 r1_.2.2.part, .str r1_.2.2.bytes, .int .i64 r1_.2.2.cmd.kind, .int .i64 r1_.2.2.cmd.release, .int .i64 r1_.2.2.cmd.node, .int .i64 r1_.2.2.cmd.size, .str r1_.2.2.cmd.digest, .ref 1100]] (by kernel_rfl) (by kernel_rfl) (by kernel_rfl) (by kernel_rfl) (by kernel_rfl)⟩
 refine dv (AW.condF (r2_.2.2 == 4) (by kernel_rfl) (beq_eq_false_iff_ne.2 h5) ·) ?_
 refine dv (AW.q 2 ·) ?_
 by_cases h6 : r2_.2.2 = 5
 · refine dv (AW.condT (r2_.2.2 == 5) (by kernel_rfl) (beq_iff_eq.2 h6) ·) ?_
   refine dv (AW.gD Try_mix ·) ?_
   refine dv (At.a 3 ·) ?_
   refine Exists.elim (spec_l1Below_spec  (⟨c.data, r2_.1, r2_.2.1⟩ : Cur) 2 (by dsimp only; omega)) fun r3_ hr3_ => ?_
   have qr3_ := hr3_.1
   try dsimp only at qr3_
   refine dv (At.c (hr3_.2) Try.call58 true [(0, 0)] [] [] trivial ·) ?_
   refine dv (At.a 1 ·) ?_
   refine Exists.elim (spec_l5DrawCmd_spec  (⟨c.data, r3_.1, r3_.2.1⟩ : Cur) (by dsimp only; omega)) fun r4_ hr4_ => ?_
   have qr4_ := hr4_.1
   try dsimp only at qr4_
   refine dv (At.c (hr4_.2) Try.call81 true [(0, 0)] [] [] trivial ·) ?_
   refine dv (At.a 1 ·) ?_
   refine dv (At.ll 46 56 6 146 (56, 6) (([(⟨r3_.2.2, r4_.2.2⟩ : Ent)]).map encEnt) ·) ?_
   refine dv (At.apK 47 56 6 56 147 1100 146 encEnt r1_.2.2.entries ([(⟨r3_.2.2, r4_.2.2⟩ : Ent)]) (by simp only [List.length_map, List.length_append, List.length_take, List.length_drop, List.length_replicate, List.length_set, List.length_cons, List.length_nil]; omega) ·) ?_
   refine dv (At.zD 2 ·) ?_
   refine dv (AW.q 2 ·) ?_
   refine dv (AW.ret ·) ?_
   refine dv (⟨_, Sub.refl _ _, ·⟩) ?_
   exact ⟨(r4_.1, r4_.2.1, (⟨r1_.2.2.kind, r1_.2.2.from_, r1_.2.2.term, r1_.2.2.at_, r1_.2.2.atTerm, r1_.2.2.commit, r1_.2.2.yes, r1_.2.2.release, r1_.2.2.part, r1_.2.2.bytes, r1_.2.2.cmd, r1_.2.2.entries ++ ([(⟨r3_.2.2, r4_.2.2⟩ : Ent)])⟩ : Msg)), (by (try dsimp only); (try simp only [List.length_append, List.length_cons, List.length_nil]); omega), KF.mk (.inr rfl) [(0, 0), (147, 1)] [.agg [.int .i64 r1_.2.2.kind, .int .i64 r1_.2.2.from_, .int .i64 r1_.2.2.term, .int .i64 r1_.2.2.at_, .int .i64 r1_.2.2.atTerm, .int .i64 r1_.2.2.commit, .bool r1_.2.2.yes, .int .i64 r1_.2.2.release, .int .i64 r1_.2.2.part, .str r1_.2.2.bytes, .int .i64 r1_.2.2.cmd.kind, .int .i64 r1_.2.2.cmd.release, .int .i64 r1_.2.2.cmd.node, .int .i64 r1_.2.2.cmd.size, .str r1_.2.2.cmd.digest, .ref 147]] (by kernel_rfl) (by kernel_rfl) (by kernel_rfl) (by kernel_rfl) (by kernel_rfl)⟩
 refine dv (AW.condF (r2_.2.2 == 5) (by kernel_rfl) (beq_eq_false_iff_ne.2 h6) ·) ?_
 refine dv (AW.q 2 ·) ?_
 by_cases h7 : r2_.2.2 = 6
 · refine dv (AW.condT (r2_.2.2 == 6) (by kernel_rfl) (beq_iff_eq.2 h7) ·) ?_
   refine dv (AW.g ·) ?_
   refine dv (At.a 1 ·) ?_
   refine Exists.elim (spec_l5DrawCmd_spec  (⟨c.data, r2_.1, r2_.2.1⟩ : Cur) (by dsimp only; omega)) fun r3_ hr3_ => ?_
   have qr3_ := hr3_.1
   try dsimp only at qr3_
   refine dv (At.c (hr3_.2) Try.call81 true [(0, 0)] [] [] trivial ·) ?_
   refine dv (At.z 2 ·) ?_
   refine dv (AW.q 2 ·) ?_
   refine dv (AW.ret ·) ?_
   refine dv (⟨_, Sub.refl _ _, ·⟩) ?_
   exact ⟨(r3_.1, r3_.2.1, (⟨r1_.2.2.kind, r1_.2.2.from_, r1_.2.2.term, r1_.2.2.at_, r1_.2.2.atTerm, r1_.2.2.commit, r1_.2.2.yes, r1_.2.2.release, r1_.2.2.part, r1_.2.2.bytes, r3_.2.2, r1_.2.2.entries⟩ : Msg)), (by (try dsimp only); (try simp only [List.length_append, List.length_cons, List.length_nil]); omega), KF.mk (.inr rfl) [(0, 0), (1100, 1)] [.agg [.int .i64 r1_.2.2.kind, .int .i64 r1_.2.2.from_, .int .i64 r1_.2.2.term, .int .i64 r1_.2.2.at_, .int .i64 r1_.2.2.atTerm, .int .i64 r1_.2.2.commit, .bool r1_.2.2.yes, .int .i64 r1_.2.2.release, .int .i64 r1_.2.2.part, .str r1_.2.2.bytes, .int .i64 r3_.2.2.kind, .int .i64 r3_.2.2.release, .int .i64 r3_.2.2.node, .int .i64 r3_.2.2.size, .str r3_.2.2.digest, .ref 1100]] (by kernel_rfl) (by kernel_rfl) (by kernel_rfl) (by kernel_rfl) (by kernel_rfl)⟩
 refine dv (AW.condF (r2_.2.2 == 6) (by kernel_rfl) (beq_eq_false_iff_ne.2 h7) ·) ?_
 refine dv (AW.skip ·) ?_
 refine dv (AW.q 2 ·) ?_
 refine dv (AW.ret ·) ?_
 refine dv (⟨_, Sub.refl _ _, ·⟩) ?_
 exact ⟨(r2_.1, r2_.2.1, r1_.2.2), (by (try dsimp only); (try simp only [List.length_append, List.length_cons, List.length_nil]); omega), KF.mk (.inr rfl) [(0, 0), (1100, 1)] [.agg [.int .i64 r1_.2.2.kind, .int .i64 r1_.2.2.from_, .int .i64 r1_.2.2.term, .int .i64 r1_.2.2.at_, .int .i64 r1_.2.2.atTerm, .int .i64 r1_.2.2.commit, .bool r1_.2.2.yes, .int .i64 r1_.2.2.release, .int .i64 r1_.2.2.part, .str r1_.2.2.bytes, .int .i64 r1_.2.2.cmd.kind, .int .i64 r1_.2.2.cmd.release, .int .i64 r1_.2.2.cmd.node, .int .i64 r1_.2.2.cmd.size, .str r1_.2.2.cmd.digest, .ref 1100]] (by kernel_rfl) (by kernel_rfl) (by kernel_rfl) (by kernel_rfl) (by kernel_rfl)⟩
theorem spec_DrawMsgPack_spec  (code : List UInt8) (hc : code.length ≤ 1048576) : ∃ rho_ : Msg, (rho_.entries.length ≤ 101) ∧ FnSpec Try.prog 20 [.sl false 1 (code.map encU8)] [] (.agg [.int .i64 rho_.kind, .int .i64 rho_.from_, .int .i64 rho_.term, .int .i64 rho_.at_, .int .i64 rho_.atTerm, .int .i64 rho_.commit, .bool rho_.yes, .int .i64 rho_.release, .int .i64 rho_.part, .str rho_.bytes, .int .i64 rho_.cmd.kind, .int .i64 rho_.cmd.release, .int .i64 rho_.cmd.node, .int .i64 rho_.cmd.size, .str rho_.cmd.digest, .ref 0]) [.arr 56 6 (rho_.entries.map encEnt)] := by
 refine dv (fun h_ => FnSpec.of 6 Try.func20 rfl Try.ntmps20 (by simp) (AW.weakK h_)) ?_
 refine dv (AW.q 1 ·) ?_
 refine dv (AW.seq ·) ?_
 refine dv (AW.weak (Sub.nils [⟨true, 102, some 15, 5001, 56, 6⟩] (by kernel_rfl)) ·) ?_
 refine dv (AW.g ·) ?_
 refine dv (At.a 1 ·) ?_
 refine Exists.elim (spec_l1New_spec  code hc) fun r1_ hr1_ => ?_
 have qr1_ := hr1_.1
 try dsimp only at qr1_
 refine dv (At.c (hr1_.2) Try.call51 true [] [(1080, 0)] [] trivial ·) ?_
 refine Exists.elim (spec_l8DrawMsg_spec  (⟨code, 0, r1_⟩ : Cur) (by dsimp only; omega)) fun r2_ hr2_ => ?_
 have qr2_ := hr2_.1
 try dsimp only at qr2_
 refine dv (At.c (hr2_.2) Try.call50 true [(1080, 0)] [(1100, 1)] [] trivial ·) ?_
 refine dv (At.z 1 ·) ?_
 refine dv (AW.ret ·) ?_
 refine dv (⟨_, Sub.refl _ _, ·⟩) ?_
 exact ⟨(r2_.2.2), (by (try dsimp only); omega), KF.mk (.inr rfl) [(1100, 0)] [.agg [.int .i64 r2_.2.2.kind, .int .i64 r2_.2.2.from_, .int .i64 r2_.2.2.term, .int .i64 r2_.2.2.at_, .int .i64 r2_.2.2.atTerm, .int .i64 r2_.2.2.commit, .bool r2_.2.2.yes, .int .i64 r2_.2.2.release, .int .i64 r2_.2.2.part, .str r2_.2.2.bytes, .int .i64 r2_.2.2.cmd.kind, .int .i64 r2_.2.2.cmd.release, .int .i64 r2_.2.2.cmd.node, .int .i64 r2_.2.2.cmd.size, .str r2_.2.2.cmd.digest, .ref 1100]] (by kernel_rfl) (by kernel_rfl) (by kernel_rfl) (by kernel_rfl) (by kernel_rfl)⟩
theorem impl_fieldsOf_spec  (kind : Int) : FnSpec Try.prog 37 [.int .i64 kind] [] (.str (fieldsL kind)) [] := by
 refine FnSpec.of 18 Try.func37 rfl Try.ntmps37 (by simp) (AW.weakK ?_)
 refine AW.q 1 ?_
 refine AW.seq ?_
 refine AW.q 1 ?_
 refine AW.block ?_
 refine AW.q 2 ?_
 refine AW.cE kind (1 : Int) (fun h1 => ?_) (fun h1 => ?_)
 · refine AW.q 1 ?_
   refine AW.ret ?_
   refine ⟨_, Sub.refl _ _, ?_⟩
   refine KF.conv (fun w => .str w) (fun w => []) (show ((⟨#[102, 116, 97, 120]⟩ : ByteArray)) = (fieldsL kind) from by simp [fieldsL, h1]) ?_
   exact KF.n []
 refine AW.q 2 ?_
 refine AW.cE kind (2 : Int) (fun h2 => ?_) (fun h2 => ?_)
 · refine AW.q 1 ?_
   refine AW.ret ?_
   refine ⟨_, Sub.refl _ _, ?_⟩
   refine KF.conv (fun w => .str w) (fun w => []) (show ((⟨#[102, 116, 121]⟩ : ByteArray)) = (fieldsL kind) from by simp [fieldsL, h1, h2]) ?_
   exact KF.n []
 refine AW.q 2 ?_
 refine AW.cE kind (3 : Int) (fun h3 => ?_) (fun h3 => ?_)
 · refine AW.q 1 ?_
   refine AW.ret ?_
   refine ⟨_, Sub.refl _ _, ?_⟩
   refine KF.conv (fun w => .str w) (fun w => []) (show ((⟨#[102, 116, 97, 120, 99, 101]⟩ : ByteArray)) = (fieldsL kind) from by simp [fieldsL, h1, h2, h3]) ?_
   exact KF.n []
 refine AW.q 2 ?_
 refine AW.cE kind (4 : Int) (fun h4 => ?_) (fun h4 => ?_)
 · refine AW.q 1 ?_
   refine AW.ret ?_
   refine ⟨_, Sub.refl _ _, ?_⟩
   refine KF.conv (fun w => .str w) (fun w => []) (show ((⟨#[102, 116, 121, 97]⟩ : ByteArray)) = (fieldsL kind) from by simp [fieldsL, h1, h2, h3, h4]) ?_
   exact KF.n []
 refine AW.q 2 ?_
 refine AW.cE kind (5 : Int) (fun h5 => ?_) (fun h5 => ?_)
 · refine AW.q 1 ?_
   refine AW.ret ?_
   refine ⟨_, Sub.refl _ _, ?_⟩
   refine KF.conv (fun w => .str w) (fun w => []) (show ((⟨#[102, 114, 112]⟩ : ByteArray)) = (fieldsL kind) from by simp [fieldsL, h1, h2, h3, h4, h5]) ?_
   exact KF.n []
 refine AW.q 2 ?_
 refine AW.cE kind (6 : Int) (fun h6 => ?_) (fun h6 => ?_)
 · refine AW.q 1 ?_
   refine AW.ret ?_
   refine ⟨_, Sub.refl _ _, ?_⟩
   refine KF.conv (fun w => .str w) (fun w => []) (show ((⟨#[102, 114, 112, 98]⟩ : ByteArray)) = (fieldsL kind) from by simp [fieldsL, h1, h2, h3, h4, h5, h6]) ?_
   exact KF.n []
 refine AW.q 2 ?_
 refine AW.cE kind (7 : Int) (fun h7 => ?_) (fun h7 => ?_)
 · refine AW.q 1 ?_
   refine AW.ret ?_
   refine ⟨_, Sub.refl _ _, ?_⟩
   refine KF.conv (fun w => .str w) (fun w => []) (show ((⟨#[102, 100]⟩ : ByteArray)) = (fieldsL kind) from by simp [fieldsL, h1, h2, h3, h4, h5, h6, h7]) ?_
   exact KF.n []
 refine AW.skip ?_
 refine AW.q 1 ?_
 refine AW.ret ?_
 refine ⟨_, Sub.refl _ _, ?_⟩
 refine KF.conv (fun w => .str w) (fun w => []) (show ((⟨#[]⟩ : ByteArray)) = (fieldsL kind) from by simp [fieldsL, h1, h2, h3, h4, h5, h6, h7]) ?_
 exact KF.n []
theorem impl_within_spec  (n : Int) (low : Int) (high : Int) : FnSpec Try.prog 85 [.int .i64 n, .int .i64 low, .int .i64 high] [] (.bool (inR n low high)) [] := by
 refine FnSpec.of 15 Try.func85 rfl Try.ntmps85 (by simp) (AW.weakK ?_)
 refine AW.q 1 ?_
 refine AW.r ?_
 refine At.a 4 ?_
 by_cases h1 : n ≥ low
 · refine At.sB 10 _ _ (sayT h1) ?_
   refine At.z 5 ?_
   refine AW.ret ?_
   refine ⟨_, Sub.refl _ _, ?_⟩
   refine KF.conv (fun w => .bool w) (fun w => []) (show (decide (n ≤ high)) = (inR n low high) from by simp [inR, *]) ?_
   exact KF.n []
 refine At.sB 10 _ _ (sayF h1) ?_
 refine At.z 5 ?_
 refine AW.ret ?_
 refine ⟨_, Sub.refl _ _, ?_⟩
 refine KF.conv (fun w => .bool w) (fun w => []) (show (false) = (inR n low high) from by simp [inR, *]) ?_
 exact KF.n []
theorem impl_isNode_spec  (n : Int) : FnSpec Try.prog 83 [.int .i64 n] [] (.bool (inR n 0 4)) [] := by
 refine FnSpec.of 5 Try.func83 rfl Try.ntmps83 (by simp) (AW.weakK ?_)
 refine AW.q 1 ?_
 refine AW.r ?_
 refine At.a 1 ?_
 refine At.c (impl_within_spec  n 0 4 ) Try.call85 true [] [] [] trivial ?_
 refine At.z 1 ?_
 exact AW.ret (rf (KF.n []))
theorem impl_isWhole_spec  (n : Int) : FnSpec Try.prog 84 [.int .i64 n] [] (.bool (inR n 0 1000000000)) [] := by
 refine FnSpec.of 5 Try.func84 rfl Try.ntmps84 (by simp) (AW.weakK ?_)
 refine AW.q 1 ?_
 refine AW.r ?_
 refine At.a 1 ?_
 refine At.c (impl_within_spec  n 0 1000000000 ) Try.call85 true [] [] [] trivial ?_
 refine At.z 1 ?_
 exact AW.ret (rf (KF.n []))
theorem impl_isRelease_spec  (n : Int) : FnSpec Try.prog 86 [.int .i64 n] [] (.bool (inR n 1 1000)) [] := by
 refine FnSpec.of 5 Try.func86 rfl Try.ntmps86 (by simp) (AW.weakK ?_)
 refine AW.q 1 ?_
 refine AW.r ?_
 refine At.a 1 ?_
 refine At.c (impl_within_spec  n 1 1000 ) Try.call85 true [] [] [] trivial ?_
 refine At.z 1 ?_
 exact AW.ret (rf (KF.n []))
theorem impl_isSize_spec  (n : Int) : FnSpec Try.prog 87 [.int .i64 n] [] (.bool (inR n 0 1000)) [] := by
 refine FnSpec.of 5 Try.func87 rfl Try.ntmps87 (by simp) (AW.weakK ?_)
 refine AW.q 1 ?_
 refine AW.r ?_
 refine At.a 1 ?_
 refine At.c (impl_within_spec  n 0 1000 ) Try.call85 true [] [] [] trivial ?_
 refine At.z 1 ?_
 exact AW.ret (rf (KF.n []))
end Go.Proofs.Ythjmbojkpkbedaa
