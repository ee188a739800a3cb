/- The contracts of the functions that FnSent reaches (each: what it answers, said over values), printed by a program of this session (wip/sy/g/gen.py). -/
import Derived.Test.YtlmadhahghiedaaGreatSSentRi
import Derived.Test.YtlmadhahghiedaaGreatProg
set_option linter.unusedVariables false
set_option linter.unusedSimpArgs false
set_option maxRecDepth 100000
set_option maxHeartbeats 4000000
namespace Go.Proofs.YtlmadhahghiedaaGreat
open Go Go.Sy Go.Proofs
def encOut (o : Out) : V := encOutWith (.own 45 6 (o.msg.entries.map encEnt)) o
theorem frzOut (l : List Out) : FrzIs (l.map encOut) (l.map encOutV) := frzOf _ (fun _ => ⟨rfl, frz17 _⟩)
theorem frzOutT (l : List Out) : FrzT (l.map encOut) (l.map encOutT) := frzTOf _ (fun o => ⟨rfl, frzT17 o⟩)
def encRaft (r : Raft) : V := encRaftWith (.own 45 6 (r.hard.log.map encEnt)) (.own 3 1 (r.yes.map encI)) (.own 3 1 (r.next.map encI)) (.own 3 1 (r.match_.map encI)) r
theorem Tryz_mix : Tryz.prog.follows .mixedOrders = true := by kernel_rfl
theorem laws_big_spec  (code : List UInt8) (hc : code.length ≤ 9223372036854775807) : FnSpec Tryz.prog 11 [.sl false 1 (code.map encU8)] [] (.bool (decide ((code.length : Int) > 1048576))) [] := by
 refine FnSpec.of 6 Tryz.func11 rfl Tryz.ntmps11 (by simp) (AW.weakK ?_)
 refine AW.q 1 ?_
 refine AW.r ?_
 refine At.a 2 ?_
 refine At.sL 4 encU8 code ?_
 refine At.z 2 ?_
 exact AW.ret (rf (KF.n []))
theorem spec_l1New_spec  (data : List UInt8) (hd : data.length ≤ 1048576) : ∃ rho_ : Int, (True) ∧ FnSpec Tryz.prog 56 [.sl false 1 (data.map encU8)] [] (.ptr 0 0 0) [.box 141 [.sl false 1 (data.map encU8), .int .i64 0, .int .i64 rho_]] := by
 refine dv (fun h_ => FnSpec.of 32 Tryz.func56 rfl Tryz.ntmps56 (by simp) (AW.weakK h_)) ?_
 refine dv (AW.q 1 ·) ?_
 refine dv (AW.r ·) ?_
 refine dv (At.a 2 ·) ?_
 refine dv (At.sL 6 encU8 data ·) ?_
 refine dv (At.a 1 ·) ?_
 refine dv (At.sI 7 (10677 + (data.length : Int)) (by omega) ·) ?_
 refine dv (At.z 1 ·) ?_
 refine dv (AW.seq ·) ?_
 refine dv (AW.q 1 ·) ?_
 refine dv (AW.block ·) ?_
 refine DW.loopQ (fun (x : Nat × Int) => match x with | (k, s) => Go.Sy.mk [.sl false 1 (data.map encU8), .un, .un, .int .i64 s, .int .i64 (k : Int)] []) (fun (x : Nat × Int) => match x with | (k, s) => k ≤ data.length) (fun (x : Nat × Int) => match x with | (k, s) => data.length - k) (0, (10677 + (data.length : Int))) (by simp) (Sub.o [] [true, false, false, true, true]) ?_
 rintro ⟨k, s⟩ hk ih1
 refine dv (AW.seq ·) ?_
 refine dv (AW.r ·) ?_
 refine dv (At.a 3 ·) ?_
 refine dv (At.sL 10 encU8 data ·) ?_
 refine dv (At.a 2 ·) ?_
 by_cases h1 : (k : Int) < (data.length : Int)
 · refine dv (At.sB 12 _ _ (sayT h1) ·) ?_
   refine dv (At.z 3 ·) ?_
   by_cases h2 : (k : Int) < 4000
   · refine dv (AW.condT (decide ((k : Int) < 4000)) (by kernel_rfl) (decide_eq_true h2) ·) ?_
     refine dv (AW.skip ·) ?_
     refine dv (AW.seq ·) ?_
     refine dv (AW.block ·) ?_
     refine dv (AW.g ·) ?_
     refine dv (At.a 4 ·) ?_
     refine dv (At.iSl 22 22 (.tmp 20) (.tmp 21) false 1 (data.map encU8) .i64 (k : Int) 5 (by omega) (by simp only [List.length_map]; omega) ·) ?_
     refine Exists.elim (gE data k (by omega)) fun e1 he1 => ?_
     refine dv (At.lVp 5 23 (.tmp 22) false 1 (data.map encU8) k 0 false 1 (encU8 e1) (.int .u8 (e1.toNat : Int)) (mapGet he1) ·) ?_
     refine dv (At.conv (s := 5) (t := 3) (d := 24) (x := .tmp 23) (kd := .u8) (kd' := .i64) (a := (e1.toNat : Int)) (.int .i64 (e1.toNat : Int)) (by kernel_rfl) (by kernel_rfl) (by kernel_rfl) (by kernel_rfl) (sayI _ (by have := UInt8.toNat_lt e1; omega)) ·) ?_
     refine dv (At.a 2 ·) ?_
     refine dv (At.bits (t := 3) (u := 3) (d := 27) (op := .and) (x := .tmp 26) (y := .const (.int .i64 1073741823)) (kd := .i64) (a := IntKind.i64.wrap ((IntKind.i64.wrap ((IntKind.i64.wrap (s * 131)) + (e1.toNat : Int))) + 7)) (b := 1073741823) ((IntKind.i64.wrap ((IntKind.i64.wrap ((IntKind.i64.wrap (s * 131)) + (e1.toNat : Int))) + 7)) % 1073741824) (by kernel_rfl) (by kernel_rfl) (by kernel_rfl) (by kernel_rfl) (andM 30 1073741824 _ _ (by decide) (by decide) (by decide)) ·) ?_
     refine dv (At.z 1 ·) ?_
     refine dv (AW.g ·) ?_
     refine dv (At.a 2 ·) ?_
     refine dv (At.sI 17 ((k : Int) + 1) (by omega) ·) ?_
     refine dv (At.z 1 ·) ?_
     exact dw (fun _ h_ => AWL.weak (Sub.o [] [true, false, false, true, true]) h_) (ih1 (k + 1, ((IntKind.i64.wrap ((IntKind.i64.wrap ((IntKind.i64.wrap (s * 131)) + (e1.toNat : Int))) + 7)) % 1073741824)) (by simp only; omega) (by simp only; omega))
   refine dv (AW.condF (decide ((k : Int) < 4000)) (by kernel_rfl) (decide_eq_false h2) ·) ?_
   refine dv (AW.exit ·) ?_
   refine dv (AW.q 5 ·) ?_
   refine dv (AW.ret ·) ?_
   refine dv (⟨_, Sub.refl _ _, ·⟩) ?_
   exact ⟨(s), trivial, KF.mk (.inr rfl) [(131, 0)] [.ptr 131 0 0] (by kernel_rfl) (by kernel_rfl) (by kernel_rfl) (by kernel_rfl) (by kernel_rfl)⟩
 refine dv (At.sB 12 _ _ (sayF h1) ·) ?_
 refine dv (At.z 3 ·) ?_
 refine dv (fun h_ => AW.cond false (by kernel_rfl) (fun h => by cases h) (fun _ => h_)) ?_
 refine dv (AW.exit ·) ?_
 refine dv (AW.q 5 ·) ?_
 refine dv (AW.ret ·) ?_
 refine dv (⟨_, Sub.refl _ _, ·⟩) ?_
 exact ⟨(s), trivial, KF.mk (.inr rfl) [(131, 0)] [.ptr 131 0 0] (by kernel_rfl) (by kernel_rfl) (by kernel_rfl) (by kernel_rfl) (by kernel_rfl)⟩
theorem spec_l1Long_spec  (code : List UInt8) (least : Int) (most : Int) (hl : code.length ≤ 1048576) (hb : 0 ≤ least ∧ least ≤ 1000000) : FnSpec Tryz.prog 142 [.sl false 1 (code.map encU8), .int .i64 least, .int .i64 most] [] (.int .i64 (min (least + (code.length : Int) / 4) most)) [] := by
 refine FnSpec.of 18 Tryz.func142 rfl Tryz.ntmps142 (by simp) (AW.weakK ?_)
 refine AW.q 1 ?_
 refine AW.r ?_
 refine At.a 3 ?_
 refine At.sL 10 encU8 code ?_
 refine At.div (t := 3) (u := 3) (d := 11) (op := .quo) (x := .tmp 10) (y := .const (.int .i64 4)) (kd := .i64) (a := (code.length : Int)) (b := 4) (by kernel_rfl) (by kernel_rfl) (by kernel_rfl) (by kernel_rfl) (by omega) (.int .i64 (IntKind.i64.wrap ((code.length : Int).tdiv 4))) (.inl ⟨rfl, rfl⟩) ?_
 refine At.say 11 (.int .i64 (IntKind.i64.wrap ((code.length : Int).tdiv 4))) (.int .i64 ((code.length : Int) / 4)) (by kernel_rfl) (sayQuo (by omega) (by omega) (by omega)) ?_
 refine At.a 1 ?_
 refine At.sI 12 (least + ((code.length : Int) / 4)) (by omega) ?_
 refine At.z 1 ?_
 refine AW.seq ?_
 refine AW.q 3 ?_
 refine AW.cD ((least + ((code.length : Int) / 4)) > most) (fun h1 => ?_) (fun h1 => ?_)
 · refine AW.q 2 ?_
   refine AW.ret ?_
   refine ⟨_, Sub.refl _ _, ?_⟩
   refine KF.conv (fun w => .int .i64 w) (fun w => []) (show (most) = (min (least + (code.length : Int) / 4) most) from by omega) ?_
   exact KF.n []
 refine AW.skip ?_
 refine AW.q 2 ?_
 refine AW.ret ?_
 refine ⟨_, Sub.refl _ _, ?_⟩
 refine KF.conv (fun w => .int .i64 w) (fun w => []) (show (least + ((code.length : Int) / 4)) = (min (least + (code.length : Int) / 4) most) from by omega) ?_
 exact KF.n []
theorem spec_l1Byte_spec  (c : Cur) (hp : 0 ≤ c.pos ∧ c.pos ≤ c.data.length ∧ c.data.length ≤ 1048576) : ∃ rho_ : Int × Int × Int, (0 ≤ rho_.1 ∧ rho_.1 ≤ c.data.length ∧ 0 ≤ rho_.2.2 ∧ rho_.2.2 ≤ 255) ∧ FnSpec Tryz.prog 170 [.ptr 0 0 0] [.box 141 [.sl false 1 (c.data.map encU8), .int .i64 c.pos, .int .i64 c.seed]] (.int .i64 rho_.2.2) [.box 141 [.sl false 1 (c.data.map encU8), .int .i64 rho_.1, .int .i64 rho_.2.1]] := by
 refine dv (fun h_ => FnSpec.of 58 Tryz.func170 rfl Tryz.ntmps170 (by simp) (AW.weakK h_)) ?_
 refine dv (AW.q 1 ·) ?_
 refine dv (AW.q 10 ·) ?_
 refine dv (AW.seq ·) ?_
 refine dv (AW.gD Tryz_mix ·) ?_
 refine dv (At.a 4 ·) ?_
 refine dv (At.shift (t := 3) (u := 162) (d := 17) (op := .shr) (x := .tmp 16) (y := .const (.int .u64 33)) (kd := .i64) (kd' := .u64) (a := IntKind.i64.wrap ((IntKind.i64.wrap (c.seed * 6364136223846793005)) + 1442695040888963407)) (b := 33) (shV .shr .i64 (IntKind.i64.wrap ((IntKind.i64.wrap (c.seed * 6364136223846793005)) + 1442695040888963407)) 33) (by kernel_rfl) (by kernel_rfl) (by kernel_rfl) (by kernel_rfl) (by omega) (shS_shr _ _ _) ·) ?_
 refine dv (At.a 4 ·) ?_
 refine dv (At.shift (t := 3) (u := 162) (d := 22) (op := .shr) (x := .tmp 21) (y := .const (.int .u64 45)) (kd := .i64) (kd' := .u64) (a := IntKind.i64.wrap ((IntKind.i64.wrap (c.seed * 6364136223846793005)) + 1442695040888963407)) (b := 45) (shV .shr .i64 (IntKind.i64.wrap ((IntKind.i64.wrap (c.seed * 6364136223846793005)) + 1442695040888963407)) 45) (by kernel_rfl) (by kernel_rfl) (by kernel_rfl) (by kernel_rfl) (by omega) (shS_shr _ _ _) ·) ?_
 refine dv (At.bits (t := 3) (u := 3) (d := 23) (op := .xor) (x := .tmp 17) (y := .tmp 22) (kd := .i64) (a := shV .shr .i64 (IntKind.i64.wrap ((IntKind.i64.wrap (c.seed * 6364136223846793005)) + 1442695040888963407)) 33) (b := shV .shr .i64 (IntKind.i64.wrap ((IntKind.i64.wrap (c.seed * 6364136223846793005)) + 1442695040888963407)) 45) (bitV .xor .i64 (shV .shr .i64 (IntKind.i64.wrap ((IntKind.i64.wrap (c.seed * 6364136223846793005)) + 1442695040888963407)) 33) (shV .shr .i64 (IntKind.i64.wrap ((IntKind.i64.wrap (c.seed * 6364136223846793005)) + 1442695040888963407)) 45)) (by kernel_rfl) (by kernel_rfl) (by kernel_rfl) (by kernel_rfl) (bitS_xor _ _ _) ·) ?_
 refine dv (At.bits (t := 3) (u := 3) (d := 24) (op := .and) (x := .tmp 23) (y := .const (.int .i64 255)) (kd := .i64) (a := bitV .xor .i64 (shV .shr .i64 (IntKind.i64.wrap ((IntKind.i64.wrap (c.seed * 6364136223846793005)) + 1442695040888963407)) 33) (shV .shr .i64 (IntKind.i64.wrap ((IntKind.i64.wrap (c.seed * 6364136223846793005)) + 1442695040888963407)) 45)) (b := 255) ((bitV .xor .i64 (shV .shr .i64 (IntKind.i64.wrap ((IntKind.i64.wrap (c.seed * 6364136223846793005)) + 1442695040888963407)) 33) (shV .shr .i64 (IntKind.i64.wrap ((IntKind.i64.wrap (c.seed * 6364136223846793005)) + 1442695040888963407)) 45)) % 256) (by kernel_rfl) (by kernel_rfl) (by kernel_rfl) (by kernel_rfl) (andM 8 256 _ _ (by decide) (by decide) (by decide)) ·) ?_
 refine dv (At.zD 1 ·) ?_
 refine dv (AW.seq ·) ?_
 refine dv (AW.seq ·) ?_
 refine dv (AW.gD Tryz_mix ·) ?_
 refine dv (At.a 9 ·) ?_
 refine dv (At.sL 33 encU8 c.data ·) ?_
 refine dv (At.zD 1 ·) ?_
 by_cases h1 : c.pos < (c.data.length : Int)
 · refine dv (AW.condT (decide (c.pos < (c.data.length : Int))) (by kernel_rfl) (decide_eq_true h1) ·) ?_
   refine dv (AW.seq ·) ?_
   refine dv (AW.gD Tryz_mix ·) ?_
   refine dv (At.a 9 ·) ?_
   refine dv (At.iSl 22 44 (.tmp 39) (.tmp 43) false 1 (c.data.map encU8) .i64 c.pos 5 (by omega) (by simp only [List.length_map]; omega) ·) ?_
   refine Exists.elim (gE c.data ((c.pos).toNat) (by omega)) fun e1 he1 => ?_
   have hbe1 := UInt8.toNat_lt e1
   refine dv (At.lVp 5 45 (.tmp 44) false 1 (c.data.map encU8) ((c.pos).toNat) 0 false 1 (encU8 e1) (.int .u8 (e1.toNat : Int)) (mapGet he1) ·) ?_
   refine dv (At.conv (s := 5) (t := 3) (d := 46) (x := .tmp 45) (kd := .u8) (kd' := .i64) (a := (e1.toNat : Int)) (.int .i64 (e1.toNat : Int)) (by kernel_rfl) (by kernel_rfl) (by kernel_rfl) (by kernel_rfl) (sayI _ (by have := UInt8.toNat_lt e1; omega)) ·) ?_
   refine dv (At.a 1 ·) ?_
   refine dv (At.sI 47 (((bitV .xor .i64 (shV .shr .i64 (IntKind.i64.wrap ((IntKind.i64.wrap (c.seed * 6364136223846793005)) + 1442695040888963407)) 33) (shV .shr .i64 (IntKind.i64.wrap ((IntKind.i64.wrap (c.seed * 6364136223846793005)) + 1442695040888963407)) 45)) % 256) + (e1.toNat : Int)) (by omega) ·) ?_
   refine dv (At.bits (t := 3) (u := 3) (d := 48) (op := .and) (x := .tmp 47) (y := .const (.int .i64 255)) (kd := .i64) (a := ((bitV .xor .i64 (shV .shr .i64 (IntKind.i64.wrap ((IntKind.i64.wrap (c.seed * 6364136223846793005)) + 1442695040888963407)) 33) (shV .shr .i64 (IntKind.i64.wrap ((IntKind.i64.wrap (c.seed * 6364136223846793005)) + 1442695040888963407)) 45)) % 256) + (e1.toNat : Int)) (b := 255) ((((bitV .xor .i64 (shV .shr .i64 (IntKind.i64.wrap ((IntKind.i64.wrap (c.seed * 6364136223846793005)) + 1442695040888963407)) 33) (shV .shr .i64 (IntKind.i64.wrap ((IntKind.i64.wrap (c.seed * 6364136223846793005)) + 1442695040888963407)) 45)) % 256) + (e1.toNat : Int)) % 256) (by kernel_rfl) (by kernel_rfl) (by kernel_rfl) (by kernel_rfl) (andM 8 256 _ _ (by decide) (by decide) (by decide)) ·) ?_
   refine dv (At.zD 1 ·) ?_
   refine dv (AW.g ·) ?_
   refine dv (At.a 6 ·) ?_
   refine dv (At.sI 54 (c.pos + 1) (by omega) ·) ?_
   refine dv (At.z 3 ·) ?_
   refine dv (AW.q 2 ·) ?_
   refine dv (AW.ret ·) ?_
   refine dv (⟨_, Sub.refl _ _, ·⟩) ?_
   exact ⟨(c.pos + 1, IntKind.i64.wrap ((IntKind.i64.wrap (c.seed * 6364136223846793005)) + 1442695040888963407), (((bitV .xor .i64 (shV .shr .i64 (IntKind.i64.wrap ((IntKind.i64.wrap (c.seed * 6364136223846793005)) + 1442695040888963407)) 33) (shV .shr .i64 (IntKind.i64.wrap ((IntKind.i64.wrap (c.seed * 6364136223846793005)) + 1442695040888963407)) 45)) % 256) + (e1.toNat : Int)) % 256), (by dsimp only; omega), KF.mk (.inr rfl) [(0, 0)] [.int .i64 ((((bitV .xor .i64 (shV .shr .i64 (IntKind.i64.wrap ((IntKind.i64.wrap (c.seed * 6364136223846793005)) + 1442695040888963407)) 33) (shV .shr .i64 (IntKind.i64.wrap ((IntKind.i64.wrap (c.seed * 6364136223846793005)) + 1442695040888963407)) 45)) % 256) + (e1.toNat : Int)) % 256)] (by kernel_rfl) (by kernel_rfl) (by kernel_rfl) (by kernel_rfl) (by kernel_rfl)⟩
 refine dv (AW.condF (decide (c.pos < (c.data.length : Int))) (by kernel_rfl) (decide_eq_false h1) ·) ?_
 refine dv (AW.skip ·) ?_
 refine dv (AW.q 2 ·) ?_
 refine dv (AW.ret ·) ?_
 refine dv (⟨_, Sub.refl _ _, ·⟩) ?_
 exact ⟨(c.pos, IntKind.i64.wrap ((IntKind.i64.wrap (c.seed * 6364136223846793005)) + 1442695040888963407), (bitV .xor .i64 (shV .shr .i64 (IntKind.i64.wrap ((IntKind.i64.wrap (c.seed * 6364136223846793005)) + 1442695040888963407)) 33) (shV .shr .i64 (IntKind.i64.wrap ((IntKind.i64.wrap (c.seed * 6364136223846793005)) + 1442695040888963407)) 45)) % 256), (by dsimp only; omega), KF.mk (.inr rfl) [(0, 0)] [.int .i64 ((bitV .xor .i64 (shV .shr .i64 (IntKind.i64.wrap ((IntKind.i64.wrap (c.seed * 6364136223846793005)) + 1442695040888963407)) 33) (shV .shr .i64 (IntKind.i64.wrap ((IntKind.i64.wrap (c.seed * 6364136223846793005)) + 1442695040888963407)) 45)) % 256)] (by kernel_rfl) (by kernel_rfl) (by kernel_rfl) (by kernel_rfl) (by kernel_rfl)⟩
theorem spec_l1Below_spec  (c : Cur) (n : Int) (hp : 0 ≤ c.pos ∧ c.pos ≤ c.data.length ∧ c.data.length ≤ 1048576) : ∃ rho_ : Int × Int × Int, (0 ≤ rho_.1 ∧ rho_.1 ≤ c.data.length ∧ 0 ≤ rho_.2.2 ∧ (0 < n → rho_.2.2 < n) ∧ (n ≤ 0 → rho_.2.2 = 0)) ∧ FnSpec Tryz.prog 143 [.ptr 0 0 0, .int .i64 n] [.box 141 [.sl false 1 (c.data.map encU8), .int .i64 c.pos, .int .i64 c.seed]] (.int .i64 rho_.2.2) [.box 141 [.sl false 1 (c.data.map encU8), .int .i64 rho_.1, .int .i64 rho_.2.1]] := by
 refine dv (fun h_ => FnSpec.of 37 Tryz.func143 rfl Tryz.ntmps143 (by simp) (AW.weakK h_)) ?_
 refine dv (AW.q 1 ·) ?_
 refine dv (AW.seq ·) ?_
 refine dv (AW.q 2 ·) ?_
 by_cases h1 : n ≤ 0
 · refine dv (AW.condT (decide (n ≤ 0)) (by kernel_rfl) (decide_eq_true h1) ·) ?_
   refine dv (AW.q 1 ·) ?_
   refine dv (AW.ret ·) ?_
   refine dv (⟨_, Sub.refl _ _, ·⟩) ?_
   exact ⟨(c.pos, c.seed, 0), (by refine ⟨by dsimp only; omega, by dsimp only; omega, ?_⟩; dsimp only; first | omega | exact ⟨Int.emod_nonneg _ (by omega), fun _ => Int.emod_lt_of_pos _ (by omega), fun _ => by omega⟩), KF.mk (.inr rfl) [(0, 0)] [.int .i64 0] (by kernel_rfl) (by kernel_rfl) (by kernel_rfl) (by kernel_rfl) (by kernel_rfl)⟩
 refine dv (AW.condF (decide (n ≤ 0)) (by kernel_rfl) (decide_eq_false h1) ·) ?_
 refine dv (AW.skip ·) ?_
 refine dv (AW.seq ·) ?_
 refine dv (AW.q 2 ·) ?_
 by_cases h2 : n ≤ 256
 · refine dv (AW.condT (decide (n ≤ 256)) (by kernel_rfl) (decide_eq_true h2) ·) ?_
   refine dv (AW.r ·) ?_
   refine dv (At.a 1 ·) ?_
   refine Exists.elim (spec_l1Byte_spec  c (by omega)) fun r1_ hr1_ => ?_
   have qr1_ := hr1_.1
   try dsimp only at qr1_
   refine dv (At.c (hr1_.2) Tryz.call170 true [(0, 0)] [] [] trivial ·) ?_
   refine dv (At.a 1 ·) ?_
   refine dv (At.div (t := 3) (u := 3) (d := 16) (op := .rem) (x := .tmp 14) (y := .tmp 15) (kd := .i64) (a := r1_.2.2) (b := n) (by kernel_rfl) (by kernel_rfl) (by kernel_rfl) (by kernel_rfl) (by omega) (.int .i64 (r1_.2.2.tmod n)) (.inr ⟨rfl, rfl⟩) ·) ?_
   refine dv (At.say 16 (.int .i64 (r1_.2.2.tmod n)) (.int .i64 (r1_.2.2 % n)) (by kernel_rfl) (sayRem (by omega)) ·) ?_
   refine dv (At.z 1 ·) ?_
   refine dv (AW.ret ·) ?_
   refine dv (⟨_, Sub.refl _ _, ·⟩) ?_
   exact ⟨(r1_.1, r1_.2.1, r1_.2.2 % n), (by refine ⟨by dsimp only; omega, by dsimp only; omega, ?_⟩; dsimp only; first | omega | exact ⟨Int.emod_nonneg _ (by omega), fun _ => Int.emod_lt_of_pos _ (by omega), fun _ => by omega⟩), KF.mk (.inr rfl) [(0, 0)] [.int .i64 (r1_.2.2 % n)] (by kernel_rfl) (by kernel_rfl) (by kernel_rfl) (by kernel_rfl) (by kernel_rfl)⟩
 refine dv (AW.condF (decide (n ≤ 256)) (by kernel_rfl) (decide_eq_false h2) ·) ?_
 refine dv (AW.skip ·) ?_
 refine dv (AW.r ·) ?_
 refine dv (At.a 1 ·) ?_
 refine Exists.elim (spec_l1Byte_spec  c (by omega)) fun r1_ hr1_ => ?_
 have qr1_ := hr1_.1
 try dsimp only at qr1_
 refine dv (At.c (hr1_.2) Tryz.call170 true [(0, 0)] [] [] trivial ·) ?_
 refine dv (At.z 1 ·) ?_
 refine dv (AW.r ·) ?_
 refine dv (At.a 1 ·) ?_
 refine Exists.elim (spec_l1Byte_spec  (⟨c.data, r1_.1, r1_.2.1⟩ : Cur) (by dsimp only; omega)) fun r2_ hr2_ => ?_
 have qr2_ := hr2_.1
 try dsimp only at qr2_
 refine dv (At.c (hr2_.2) Tryz.call170 true [(0, 0)] [] [] trivial ·) ?_
 refine dv (At.z 1 ·) ?_
 refine dv (AW.r ·) ?_
 refine dv (At.a 1 ·) ?_
 refine Exists.elim (spec_l1Byte_spec  (⟨c.data, r2_.1, r2_.2.1⟩ : Cur) (by dsimp only; omega)) fun r3_ hr3_ => ?_
 have qr3_ := hr3_.1
 try dsimp only at qr3_
 refine dv (At.c (hr3_.2) Tryz.call170 true [(0, 0)] [] [] trivial ·) ?_
 refine dv (At.z 1 ·) ?_
 refine dv (AW.r ·) ?_
 refine dv (At.a 1 ·) ?_
 refine Exists.elim (spec_l1Byte_spec  (⟨c.data, r3_.1, r3_.2.1⟩ : Cur) (by dsimp only; omega)) fun r4_ hr4_ => ?_
 have qr4_ := hr4_.1
 try dsimp only at qr4_
 refine dv (At.c (hr4_.2) Tryz.call170 true [(0, 0)] [] [] trivial ·) ?_
 refine dv (At.z 1 ·) ?_
 refine dv (AW.r ·) ?_
 refine dv (At.a 2 ·) ?_
 refine dv (At.sI 26 (r1_.2.2 * 16777216) (by omega) ·) ?_
 refine dv (At.a 2 ·) ?_
 refine dv (At.sI 28 (r2_.2.2 * 65536) (by omega) ·) ?_
 refine dv (At.a 1 ·) ?_
 refine dv (At.sI 29 ((r1_.2.2 * 16777216) + (r2_.2.2 * 65536)) (by omega) ·) ?_
 refine dv (At.a 2 ·) ?_
 refine dv (At.sI 31 (r3_.2.2 * 256) (by omega) ·) ?_
 refine dv (At.a 1 ·) ?_
 refine dv (At.sI 32 (((r1_.2.2 * 16777216) + (r2_.2.2 * 65536)) + (r3_.2.2 * 256)) (by omega) ·) ?_
 refine dv (At.a 2 ·) ?_
 refine dv (At.sI 34 ((((r1_.2.2 * 16777216) + (r2_.2.2 * 65536)) + (r3_.2.2 * 256)) + r4_.2.2) (by omega) ·) ?_
 refine dv (At.a 1 ·) ?_
 refine dv (At.div (t := 3) (u := 3) (d := 36) (op := .rem) (x := .tmp 34) (y := .tmp 35) (kd := .i64) (a := (((r1_.2.2 * 16777216) + (r2_.2.2 * 65536)) + (r3_.2.2 * 256)) + r4_.2.2) (b := n) (by kernel_rfl) (by kernel_rfl) (by kernel_rfl) (by kernel_rfl) (by omega) (.int .i64 (((((r1_.2.2 * 16777216) + (r2_.2.2 * 65536)) + (r3_.2.2 * 256)) + r4_.2.2).tmod n)) (.inr ⟨rfl, rfl⟩) ·) ?_
 refine dv (At.say 36 (.int .i64 (((((r1_.2.2 * 16777216) + (r2_.2.2 * 65536)) + (r3_.2.2 * 256)) + r4_.2.2).tmod n)) (.int .i64 (((((r1_.2.2 * 16777216) + (r2_.2.2 * 65536)) + (r3_.2.2 * 256)) + r4_.2.2) % n)) (by kernel_rfl) (sayRem (by omega)) ·) ?_
 refine dv (At.z 1 ·) ?_
 refine dv (AW.ret ·) ?_
 refine dv (⟨_, Sub.refl _ _, ·⟩) ?_
 exact ⟨(r4_.1, r4_.2.1, ((((r1_.2.2 * 16777216) + (r2_.2.2 * 65536)) + (r3_.2.2 * 256)) + r4_.2.2) % n), (by refine ⟨by dsimp only; omega, by dsimp only; omega, ?_⟩; dsimp only; first | omega | exact ⟨Int.emod_nonneg _ (by omega), fun _ => Int.emod_lt_of_pos _ (by omega), fun _ => by omega⟩), KF.mk (.inr rfl) [(0, 0)] [.int .i64 (((((r1_.2.2 * 16777216) + (r2_.2.2 * 65536)) + (r3_.2.2 * 256)) + r4_.2.2) % n)] (by kernel_rfl) (by kernel_rfl) (by kernel_rfl) (by kernel_rfl) (by kernel_rfl)⟩
theorem spec_l1PickInt_spec  (c : Cur) (list : List Int) (hp : 0 ≤ c.pos ∧ c.pos ≤ c.data.length ∧ c.data.length ≤ 1048576) (hl : 0 < list.length ∧ list.length ≤ 1000) : ∃ rho_ : Int × Int × Int, (0 ≤ rho_.1 ∧ rho_.1 ≤ c.data.length ∧ rho_.2.2 ∈ list) ∧ FnSpec Tryz.prog 161 [.ptr 0 0 0, .ref 1] [.box 141 [.sl false 1 (c.data.map encU8), .int .i64 c.pos, .int .i64 c.seed], .arr 3 1 (list.map encI)] (.int .i64 rho_.2.2) [.box 141 [.sl false 1 (c.data.map encU8), .int .i64 rho_.1, .int .i64 rho_.2.1], .arr 3 1 (list.map encI)] := by
 refine dv (fun h_ => FnSpec.of 12 Tryz.func161 rfl Tryz.ntmps161 (by simp) (AW.weakK h_)) ?_
 refine dv (AW.q 1 ·) ?_
 refine dv (AW.r ·) ?_
 refine dv (At.a 4 ·) ?_
 refine dv (At.sL 8 encI list ·) ?_
 refine Exists.elim (spec_l1Below_spec  c (list.length : Int) (by omega)) fun r1_ hr1_ => ?_
 have qr1_ := hr1_.1
 try dsimp only at qr1_
 refine dv (At.c (hr1_.2) Tryz.call143 true [(0, 0)] [] [] trivial ·) ?_
 refine dv (At.iRf 27 10 (.tmp 5) (.tmp 9) 1 (list.map encI) .i64 r1_.2.2 3 1 (by omega) (by simp only [List.length_map]; omega) ·) ?_
 refine Exists.elim (gE list ((r1_.2.2).toNat) (by omega)) fun e1 he1 => ?_
 refine dv (At.lEl 3 11 (.tmp 10) 1 3 1 (list.map encI) ((r1_.2.2).toNat) 0 false 1 (encI e1) (.int .i64 e1) (mapGet he1) ·) ?_
 refine dv (At.z 1 ·) ?_
 refine dv (AW.ret ·) ?_
 refine dv (⟨_, Sub.refl _ _, ·⟩) ?_
 exact ⟨(r1_.1, r1_.2.1, e1), ⟨by dsimp only; omega, by dsimp only; omega, List.mem_of_getElem? he1⟩, KF.mk (.inr rfl) [(0, 0), (1, 1)] [.int .i64 e1] (by kernel_rfl) (by kernel_rfl) (by kernel_rfl) (by kernel_rfl) (by kernel_rfl)⟩
theorem spec_l6Copy_spec  (h : Hard) (hl : h.log.length ≤ 1048576) : FnSpec Tryz.prog 74 [.agg [.int .i64 h.term, .int .i64 h.vote, .sl false 6 (h.log.map encEnt)]] [] (.agg [.int .i64 h.term, .int .i64 h.vote, .ref 0]) [.arr 45 6 (h.log.map encEnt)] := by
 refine FnSpec.of 12 Tryz.func74 rfl Tryz.ntmps74 (by simp) (AW.weakK ?_)
 refine AW.q 2 ?_
 refine AW.seq ?_
 refine AW.weak (Sub.nils [⟨true, 102, some 2, 5001, 45, 6⟩] (by kernel_rfl)) ?_
 refine AW.gD Tryz_mix ?_
 refine At.a 4 ?_
 refine At.lit0 (t := 24) (d := 7) (e := 45) (es := 6) (bytes := 56) 107 (by kernel_rfl) (by kernel_rfl) (by kernel_rfl) (by kernel_rfl) ?_
 refine At.a 2 ?_
 refine At.append (t := 24) (d := 10) (e := 45) (es := 6) (bytes := 56) (s := .tmp 7) (x := .tmp 9) (S := .ref 107) (T := .sl false 6 (h.log.map encEnt)) (xs := []) (ys := (h.log.map encEnt)) 110 [107] [] (h.log.map encEnt) (by kernel_rfl) (by kernel_rfl) (by kernel_rfl) (by kernel_rfl) ⟨by kernel_rfl, rfl⟩ ⟨rfl, rfl, (allP_encEnt _), rfl⟩ (by kernel_rfl) (by kernel_rfl) (by simp) (by simp only [List.length_map, List.length_append, List.length_take, List.length_drop, List.length_replicate, List.length_set, List.length_cons, List.length_nil]; omega) (by simp only [List.length_map, List.length_append, List.length_take, List.length_drop, List.length_replicate, List.length_set, List.length_cons, List.length_nil]; omega) ?_
 refine At.zD 2 ?_
 exact AW.ret (rf (KF.n [(110, 0)]))
theorem spec_l7Of_spec  (of : Int) : FnSpec Tryz.prog 62 [.int .i64 of] [] (.bool (ofOk of)) [] := by
 refine FnSpec.of 13 Tryz.func62 rfl Tryz.ntmps62 (by simp) (AW.weakK ?_)
 refine AW.q 1 ?_
 refine AW.r ?_
 refine At.a 3 ?_
 by_cases h1 : of = 1
 · refine At.sB 5 _ _ (sayET h1) ?_
   refine At.z 8 ?_
   refine AW.ret ?_
   refine ⟨_, Sub.refl _ _, ?_⟩
   refine KF.conv (fun w => .bool w) (fun w => []) (show (true) = (ofOk of) from by simp_all [ofOk]) ?_
   exact KF.n []
 refine At.sB 5 _ _ (sayEF h1) ?_
 refine At.a 4 ?_
 by_cases h2 : of = 3
 · refine At.sB 9 _ _ (sayET h2) ?_
   refine At.z 4 ?_
   refine AW.ret ?_
   refine ⟨_, Sub.refl _ _, ?_⟩
   refine KF.conv (fun w => .bool w) (fun w => []) (show (true) = (ofOk of) from by simp_all [ofOk]) ?_
   exact KF.n []
 refine At.sB 9 _ _ (sayEF h2) ?_
 refine At.z 4 ?_
 refine AW.ret ?_
 refine ⟨_, Sub.refl _ _, ?_⟩
 refine KF.conv (fun w => .bool w) (fun w => []) (show (of == 5) = (ofOk of) from by simp_all [ofOk]) ?_
 exact KF.n []
theorem spec_l1In_spec  (x : Int) (lo : Int) (hi : Int) : FnSpec Tryz.prog 63 [.int .i64 x, .int .i64 lo, .int .i64 hi] [] (.bool (inR x lo hi)) [] := by
 refine FnSpec.of 15 Tryz.func63 rfl Tryz.ntmps63 (by simp) (AW.weakK ?_)
 refine AW.q 1 ?_
 refine AW.r ?_
 refine At.a 4 ?_
 by_cases h1 : x ≥ lo
 · refine At.sB 10 _ _ (sayT h1) ?_
   refine At.z 5 ?_
   refine AW.ret ?_
   refine ⟨_, Sub.refl _ _, ?_⟩
   refine KF.conv (fun w => .bool w) (fun w => []) (show (decide (x ≤ hi)) = (inR x lo hi) from by simp [inR, *]) ?_
   exact KF.n []
 refine At.sB 10 _ _ (sayF h1) ?_
 refine At.z 5 ?_
 refine AW.ret ?_
 refine ⟨_, Sub.refl _ _, ?_⟩
 refine KF.conv (fun w => .bool w) (fun w => []) (show (false) = (inR x lo hi) from by simp [inR, *]) ?_
 exact KF.n []
theorem spec_l1Whole_spec  (x : Int) : FnSpec Tryz.prog 148 [.int .i64 x] [] (.bool (inR x 0 1000000000)) [] := by
 refine FnSpec.of 5 Tryz.func148 rfl Tryz.ntmps148 (by simp) (AW.weakK ?_)
 refine AW.q 1 ?_
 refine AW.r ?_
 refine At.a 1 ?_
 refine At.c (spec_l1In_spec  x 0 1000000000 ) Tryz.call63 true [] [] [] trivial ?_
 refine At.z 1 ?_
 exact AW.ret (rf (KF.n []))
def K_spec_CmdOk (rs : List ResultVar) (c : Cmd) (w0_ : Bool) : Exit → Sg → Prop := KF Tryz.prog 0 rs (.bool w0_) []
theorem spec_CmdOk_spec  (c : Cmd) : FnSpec Tryz.prog 104 [.agg [.int .i64 c.kind, .int .i64 c.release, .int .i64 c.node, .int .i64 c.size, .str c.digest]] [] (.bool (cmdOk c)) [] := by
 refine FnSpec.of 60 Tryz.func104 rfl Tryz.ntmps104 (by simp) (AW.weakK ?_)
 refine AW.q 2 ?_
 refine AW.q 5 ?_
 refine AW.seq ?_
 refine AW.q 3 ?_
 refine AW.cE c.kind (1 : Int) (fun h1 => ?_) (fun h1 => ?_)
 · refine AW.r ?_
   refine At.a 2 ?_
   refine At.eqA (t := 31) (u := 31) (d := 12) (op := .eql) (x := .tmp 10) (y := .tmp 11) (X := [.int .i64 c.kind, .int .i64 c.release, .int .i64 c.node, .int .i64 c.size, .str c.digest]) (Y := [.int .i64 c.kind, .int .i64 0, .int .i64 0, .int .i64 0, .str (⟨#[]⟩ : ByteArray)]) (cmdEq c (⟨c.kind, 0, 0, 0, (⟨#[]⟩ : ByteArray)⟩ : Cmd)) (by kernel_rfl) (by kernel_rfl) (by kernel_rfl) (by kernel_rfl) (by kernel_rfl) (.bool (cmdEq c (⟨c.kind, 0, 0, 0, (⟨#[]⟩ : ByteArray)⟩ : Cmd))) (.inl ⟨rfl, rfl⟩) ?_
   refine At.z 1 ?_
   exact AW.ret (rf (k1 (K_spec_CmdOk _ c) (show (cmdEq c (⟨c.kind, 0, 0, 0, (⟨#[]⟩ : ByteArray)⟩ : Cmd)) = (cmdOk c) from by (try simp only [inR_iff, inR_not] at *); rw [Bool.eq_iff_iff]; simp only [cmdOk, cmdEq, noBytes]; (repeat' split) <;> (try simp [inR_iff]) <;> grind) (KF.n [])))
 refine AW.skip ?_
 refine AW.seq ?_
 refine AW.r ?_
 refine At.a 2 ?_
 refine At.c (spec_l1In_spec  c.kind 2 5 ) Tryz.call63 true [] [] [] trivial ?_
 refine At.a 2 ?_
 by_cases h2 : (inR c.kind 2 5) = true
 · refine At.sB 17 (!(inR c.kind 2 5)) false (sayNF (sayB h2)) ?_
   refine At.a 2 ?_
   refine At.c (spec_l1In_spec  c.release 1 1000 ) Tryz.call63 true [] [] [] trivial ?_
   refine At.z 2 ?_
   refine AW.cNB (inR c.release 1 1000) (fun h3 => ?_) (fun h3 => ?_)
   · refine AW.q 1 ?_
     exact AW.ret (rf (k1 (K_spec_CmdOk _ c) (show (false) = (cmdOk c) from by (try simp only [inR_iff, inR_not] at *); rw [Bool.eq_iff_iff]; simp only [cmdOk, cmdEq, noBytes]; (repeat' split) <;> (try simp [inR_iff]) <;> grind) (KF.n [])))
   refine AW.skip ?_
   refine AW.q 4 ?_
   refine AW.seq ?_
   refine AW.q 2 ?_
   refine AW.block ?_
   refine AW.q 2 ?_
   refine AW.cE c.kind (2 : Int) (fun h4 => ?_) (fun h4 => ?_)
   · refine AW.r ?_
     refine At.a 2 ?_
     refine At.c (spec_l1In_spec  c.size 0 1000 ) Tryz.call63 true [] [] [] trivial ?_
     refine At.a 1 ?_
     by_cases h5 : (inR c.size 0 1000) = true
     · refine At.sB 33 (inR c.size 0 1000) true (sayB h5) ?_
       refine At.a 6 ?_
       by_cases h6 : (c.digest.size : Int) = 32
       · refine At.sB 39 _ _ (sayET h6) ?_
         refine At.z 5 ?_
         exact AW.ret (rf (k1 (K_spec_CmdOk _ c) (show (c.node == 0) = (cmdOk c) from by (try simp only [inR_iff, inR_not] at *); rw [Bool.eq_iff_iff]; simp only [cmdOk, cmdEq, noBytes]; (repeat' split) <;> (try simp [inR_iff]) <;> grind) (KF.n [])))
       refine At.sB 39 _ _ (sayEF h6) ?_
       refine At.z 5 ?_
       exact AW.ret (rf (k1 (K_spec_CmdOk _ c) (show (false) = (cmdOk c) from by (try simp only [inR_iff, inR_not] at *); rw [Bool.eq_iff_iff]; simp only [cmdOk, cmdEq, noBytes]; (repeat' split) <;> (try simp [inR_iff]) <;> grind) (KF.n [])))
     refine At.sB 33 (inR c.size 0 1000) false (sayB (Bool.eq_false_iff.2 h5)) ?_
     replace h5 := Bool.eq_false_iff.2 h5
     refine At.z 11 ?_
     exact AW.ret (rf (k1 (K_spec_CmdOk _ c) (show (false) = (cmdOk c) from by (try simp only [inR_iff, inR_not] at *); rw [Bool.eq_iff_iff]; simp only [cmdOk, cmdEq, noBytes]; (repeat' split) <;> (try simp [inR_iff]) <;> grind) (KF.n [])))
   refine AW.q 2 ?_
   refine AW.cE c.kind (3 : Int) (fun h7 => ?_) (fun h7 => ?_)
   · refine AW.q 4 ?_
     refine AW.r ?_
     refine At.a 2 ?_
     refine At.c (spec_l1In_spec  c.node 0 4 ) Tryz.call63 true [] [] [] trivial ?_
     refine At.a 1 ?_
     by_cases h8 : (inR c.node 0 4) = true
     · refine At.sB 52 (inR c.node 0 4) true (sayB h8) ?_
       refine At.a 2 ?_
       refine At.eqA (t := 31) (u := 31) (d := 55) (op := .eql) (x := .tmp 53) (y := .tmp 54) (X := [.int .i64 c.kind, .int .i64 c.release, .int .i64 c.node, .int .i64 c.size, .str c.digest]) (Y := [.int .i64 c.kind, .int .i64 c.release, .int .i64 c.node, .int .i64 0, .str (⟨#[]⟩ : ByteArray)]) (cmdEq c (⟨c.kind, c.release, c.node, 0, (⟨#[]⟩ : ByteArray)⟩ : Cmd)) (by kernel_rfl) (by kernel_rfl) (by kernel_rfl) (by kernel_rfl) (by kernel_rfl) (.bool (cmdEq c (⟨c.kind, c.release, c.node, 0, (⟨#[]⟩ : ByteArray)⟩ : Cmd))) (.inl ⟨rfl, rfl⟩) ?_
       refine At.z 2 ?_
       exact AW.ret (rf (k1 (K_spec_CmdOk _ c) (show (cmdEq c (⟨c.kind, c.release, c.node, 0, (⟨#[]⟩ : ByteArray)⟩ : Cmd)) = (cmdOk c) from by (try simp only [inR_iff, inR_not] at *); rw [Bool.eq_iff_iff]; simp only [cmdOk, cmdEq, noBytes]; (repeat' split) <;> (try simp [inR_iff]) <;> grind) (KF.n [])))
     refine At.sB 52 (inR c.node 0 4) false (sayB (Bool.eq_false_iff.2 h8)) ?_
     replace h8 := Bool.eq_false_iff.2 h8
     refine At.z 5 ?_
     exact AW.ret (rf (k1 (K_spec_CmdOk _ c) (show (false) = (cmdOk c) from by (try simp only [inR_iff, inR_not] at *); rw [Bool.eq_iff_iff]; simp only [cmdOk, cmdEq, noBytes]; (repeat' split) <;> (try simp [inR_iff]) <;> grind) (KF.n [])))
   refine AW.skip ?_
   refine AW.r ?_
   refine At.a 2 ?_
   refine At.eqA (t := 31) (u := 31) (d := 59) (op := .eql) (x := .tmp 57) (y := .tmp 58) (X := [.int .i64 c.kind, .int .i64 c.release, .int .i64 c.node, .int .i64 c.size, .str c.digest]) (Y := [.int .i64 c.kind, .int .i64 c.release, .int .i64 0, .int .i64 0, .str (⟨#[]⟩ : ByteArray)]) (cmdEq c (⟨c.kind, c.release, 0, 0, (⟨#[]⟩ : ByteArray)⟩ : Cmd)) (by kernel_rfl) (by kernel_rfl) (by kernel_rfl) (by kernel_rfl) (by kernel_rfl) (.bool (cmdEq c (⟨c.kind, c.release, 0, 0, (⟨#[]⟩ : ByteArray)⟩ : Cmd))) (.inl ⟨rfl, rfl⟩) ?_
   refine At.z 1 ?_
   exact AW.ret (rf (k1 (K_spec_CmdOk _ c) (show (cmdEq c (⟨c.kind, c.release, 0, 0, (⟨#[]⟩ : ByteArray)⟩ : Cmd)) = (cmdOk c) from by (try simp only [inR_iff, inR_not] at *); rw [Bool.eq_iff_iff]; simp only [cmdOk, cmdEq, noBytes]; (repeat' split) <;> (try simp [inR_iff]) <;> grind) (KF.n [])))
 refine At.sB 17 (!(inR c.kind 2 5)) true (sayNT (sayB (Bool.eq_false_iff.2 h2))) ?_
 replace h2 := Bool.eq_false_iff.2 h2
 refine At.z 5 ?_
 refine AW.cond true (by kernel_rfl) (fun _ => ?_) (fun h => by cases h)
 refine AW.q 1 ?_
 exact AW.ret (rf (k1 (K_spec_CmdOk _ c) (show (false) = (cmdOk c) from by (try simp only [inR_iff, inR_not] at *); rw [Bool.eq_iff_iff]; simp only [cmdOk, cmdEq, noBytes]; (repeat' split) <;> (try simp [inR_iff]) <;> grind) (KF.n [])))
theorem spec_l6Entry_spec  (e : Ent) : FnSpec Tryz.prog 149 [.agg [.int .i64 e.term, .int .i64 e.cmd.kind, .int .i64 e.cmd.release, .int .i64 e.cmd.node, .int .i64 e.cmd.size, .str e.cmd.digest]] [] (.bool (entOk e)) [] := by
 refine FnSpec.of 11 Tryz.func149 rfl Tryz.ntmps149 (by simp) (AW.weakK ?_)
 refine AW.q 2 ?_
 refine AW.r ?_
 refine At.a 2 ?_
 refine At.c (spec_l1In_spec  e.term 1 1000000000 ) Tryz.call63 true [] [] [] trivial ?_
 refine At.a 1 ?_
 by_cases h1 : (inR e.term 1 1000000000) = true
 · refine At.sB 6 (inR e.term 1 1000000000) true (sayB h1) ?_
   have h1i := inR_iff.1 h1
   refine At.a 2 ?_
   refine At.c (spec_CmdOk_spec  e.cmd ) Tryz.call104 true [] [] [] trivial ?_
   refine At.z 2 ?_
   refine AW.ret ?_
   refine ⟨_, Sub.refl _ _, ?_⟩
   refine KF.conv (fun w => .bool w) (fun w => []) (show (cmdOk e.cmd) = (entOk e) from by (try simp only [inR_iff, inR_not] at *); rw [Bool.eq_iff_iff]; simp only [entOk, noBytes]; (repeat' split) <;> (try simp [inR_iff]) <;> grind) ?_
   exact KF.n []
 refine At.sB 6 (inR e.term 1 1000000000) false (sayB (Bool.eq_false_iff.2 h1)) ?_
 replace h1 := Bool.eq_false_iff.2 h1
 refine At.z 5 ?_
 refine AW.ret ?_
 refine ⟨_, Sub.refl _ _, ?_⟩
 refine KF.conv (fun w => .bool w) (fun w => []) (show (false) = (entOk e) from by (try simp only [inR_iff, inR_not] at *); rw [Bool.eq_iff_iff]; simp only [entOk, noBytes]; (repeat' split) <;> (try simp [inR_iff]) <;> grind) ?_
 exact KF.n []
def K_spec_HardOk (rs : List ResultVar) (h : Hard) (w0_ : Bool) : Exit → Sg → Prop := KF Tryz.prog 0 rs (.bool w0_) []
theorem spec_HardOk_spec  (h : Hard) (hl : h.log.length ≤ 1048576) : FnSpec Tryz.prog 64 [.agg [.int .i64 h.term, .int .i64 h.vote, .sl false 6 (h.log.map encEnt)]] [] (.bool (hardOk h)) [] := by
 refine FnSpec.of 65 Tryz.func64 rfl Tryz.ntmps64 (by simp) (AW.weakK ?_)
 refine AW.q 2 ?_
 refine AW.seq ?_
 refine AW.r ?_
 refine At.a 2 ?_
 refine At.c (spec_l1Whole_spec  h.term ) Tryz.call148 true [] [] [] trivial ?_
 refine At.a 2 ?_
 by_cases h1 : (inR h.term 0 1000000000) = true
 · refine At.sB 8 (!(inR h.term 0 1000000000)) false (sayNF (sayB h1)) ?_
   have h1i := inR_iff.1 h1
   refine At.a 2 ?_
   refine At.c (spec_l1In_spec  h.vote 0 5 ) Tryz.call63 true [] [] [] trivial ?_
   refine At.a 3 ?_
   by_cases h2 : (inR h.vote 0 5) = true
   · refine At.sB 14 (!(inR h.vote 0 5)) false (sayNF (sayB h2)) ?_
     have h2i := inR_iff.1 h2
     refine At.a 3 ?_
     refine At.sL 17 encEnt h.log ?_
     refine At.z 2 ?_
     refine AW.cD ((h.log.length : Int) > 80) (fun h3 => ?_) (fun h3 => ?_)
     · refine AW.q 1 ?_
       exact AW.ret (rf (k1 (K_spec_HardOk _ h) (show (false) = (hardOk h) from by have : ¬ h.log.length ≤ 80 := (by omega); simp [hardOk, this]) (KF.n [])))
     refine AW.skip ?_
     refine AW.seq ?_
     refine AW.q 1 ?_
     refine AW.block ?_
     refine AW.loopW (fun (k : Nat) => Go.Sy.mk [.un, .ptr 101 0 0, .un, .int .i64 (k : Int)] [(101, .box 26 [.int .i64 h.term, .int .i64 h.vote, .sl false 6 (h.log.map encEnt)])]) (fun (k : Nat) => k ≤ h.log.length ∧ logOk h.term 0 h.log = logOk h.term (lastT (h.log.take k)) (h.log.drop k)) (fun (k : Nat) => h.log.length - k) 0 ⟨by omega, by simp [lastT]⟩ (Sub.o [(101, 101)] [false, true, false, true]) ?_
     rintro k ⟨hk, hR⟩
     refine AW.seq ?_
     refine AW.r ?_
     refine At.a 4 ?_
     refine At.sL 23 encEnt h.log ?_
     refine At.z 1 ?_
     refine AW.cD ((k : Int) < (h.log.length : Int)) (fun h4 => ?_) (fun h4 => ?_)
     · refine AW.skip ?_
       refine AW.seq ?_
       refine AW.block ?_
       refine AW.seq ?_
       refine AW.gD Tryz_mix ?_
       refine At.a 3 ?_
       refine At.iSl 24 30 (.tmp 28) (.tmp 29) false 6 (h.log.map encEnt) .i64 (k : Int) 45 (by omega) (by simp only [List.length_map]; omega) ?_
       refine Exists.elim (gE h.log k (by omega)) fun e1 he1 => ?_
       refine At.lVp 45 31 (.tmp 30) false 6 (h.log.map encEnt) k 0 true 6 (encEnt e1) (.agg [.int .i64 e1.term, .int .i64 e1.cmd.kind, .int .i64 e1.cmd.release, .int .i64 e1.cmd.node, .int .i64 e1.cmd.size, .str e1.cmd.digest]) (mapGet he1) ?_
       refine At.c (spec_l6Entry_spec  e1 ) Tryz.call149 true [] [] [] trivial ?_
       refine At.a 2 ?_
       by_cases h5 : (entOk e1) = true
       · refine At.sB 34 (!(entOk e1)) false (sayNF (sayB h5)) ?_
         have h5n := entOk_nums h5
         refine At.a 3 ?_
         refine At.iSl 24 38 (.tmp 36) (.tmp 37) false 6 (h.log.map encEnt) .i64 (k : Int) 45 (by omega) (by simp only [List.length_map]; omega) ?_
         refine At.a 1 ?_
         refine At.lVp 3 40 (.tmp 39) false 6 (h.log.map encEnt) k 0 false 1 (encEnt e1) (.int .i64 e1.term) (mapGet he1) ?_
         refine At.a 5 ?_
         by_cases h6 : e1.term > h.term
         · refine At.sB 45 _ _ (sayT h6) ?_
           refine At.zD 19 ?_
           refine AW.cond true (by kernel_rfl) (fun _ => ?_) (fun h => by cases h)
           refine AW.q 1 ?_
           exact AW.ret (rf (k1 (K_spec_HardOk _ h) (show (false) = (hardOk h) from by refine hardBad (hR.trans ?_); rw [dropCons he1]; first | exact logOk_bad1 (by omega) (by assumption) | exact logOk_bad2 (by first | omega | (rw [lastT_before (by assumption) he2]; omega))) (KF.n [])))
         refine At.sB 45 _ _ (sayF h6) ?_
         refine At.a 3 ?_
         by_cases h7 : (k : Int) > 0
         · refine At.sB 48 _ _ (sayT h7) ?_
           refine At.a 3 ?_
           refine At.iSl 24 52 (.tmp 50) (.tmp 51) false 6 (h.log.map encEnt) .i64 (k : Int) 45 (by omega) (by simp only [List.length_map]; omega) ?_
           refine At.a 1 ?_
           refine At.lVp 3 54 (.tmp 53) false 6 (h.log.map encEnt) k 0 false 1 (encEnt e1) (.int .i64 e1.term) (mapGet he1) ?_
           refine At.a 4 ?_
           refine At.sI 58 ((k : Int) - 1) (by omega) ?_
           refine At.iSl 24 59 (.tmp 56) (.tmp 58) false 6 (h.log.map encEnt) .i64 ((k : Int) - 1) 45 (by omega) (by simp only [List.length_map]; omega) ?_
           refine At.a 1 ?_
           refine Exists.elim (gE h.log (((k : Int) - 1).toNat) (by omega)) fun e2 he2 => ?_
           refine At.lVp 3 61 (.tmp 60) false 6 (h.log.map encEnt) (((k : Int) - 1).toNat) 0 false 1 (encEnt e2) (.int .i64 e2.term) (mapGet he2) ?_
           refine At.zD 3 ?_
           refine AW.cD (e1.term < e2.term) (fun h8 => ?_) (fun h8 => ?_)
           · refine AW.q 1 ?_
             exact AW.ret (rf (k1 (K_spec_HardOk _ h) (show (false) = (hardOk h) from by refine hardBad (hR.trans ?_); rw [dropCons he1]; first | exact logOk_bad1 (by omega) (by assumption) | exact logOk_bad2 (by first | omega | (rw [lastT_before (by assumption) he2]; omega))) (KF.n [])))
           refine AW.skip ?_
           refine AW.g ?_
           refine At.a 2 ?_
           refine At.sI 26 ((k : Int) + 1) (by omega) ?_
           refine At.z 1 ?_
           exact ⟨k + 1, ⟨by omega, by rw [hR, dropCons he1, lastT_next he1]; exact logOk_step (by omega) (by omega) h5n.2.2 (by rw [lastT_before (by assumption) he2]; omega)⟩, (by omega), Sub.o [(101, 101)] [false, true, false, true]⟩
         refine At.sB 48 _ _ (sayF h7) ?_
         refine At.zD 16 ?_
         refine AW.cond false (by kernel_rfl) (fun h => by cases h) (fun _ => ?_)
         refine AW.skip ?_
         refine AW.g ?_
         refine At.a 2 ?_
         refine At.sI 26 ((k : Int) + 1) (by omega) ?_
         refine At.z 1 ?_
         exact ⟨k + 1, ⟨by omega, by rw [hR, dropCons he1, lastT_next he1]; exact logOk_step (by omega) (by omega) h5n.2.2 (by obtain rfl : k = 0 := (by omega); show (0 : Int) ≤ _; omega)⟩, (by omega), Sub.o [(101, 101)] [false, true, false, true]⟩
       refine At.sB 34 (!(entOk e1)) true (sayNT (sayB (Bool.eq_false_iff.2 h5))) ?_
       replace h5 := Bool.eq_false_iff.2 h5
       refine At.zD 30 ?_
       refine AW.cond true (by kernel_rfl) (fun _ => ?_) (fun h => by cases h)
       refine AW.q 1 ?_
       exact AW.ret (rf (k1 (K_spec_HardOk _ h) (show (false) = (hardOk h) from by refine hardBad (hR.trans ?_); rw [dropCons he1]; first | exact logOk_bad1 (by omega) (by assumption) | exact logOk_bad2 (by first | omega | (rw [lastT_before (by assumption) he2]; omega))) (KF.n [])))
     refine AW.exit ?_
     refine AW.q 1 ?_
     exact AW.ret (rf (k1 (K_spec_HardOk _ h) (show (true) = (hardOk h) from by have q : logOk h.term 0 h.log = true := (by rw [hR, List.drop_of_length_le (by omega)]; rfl); have : h.log.length ≤ 80 := (by omega); simp only [hardOk, q, this, h1, h2, decide_true, Bool.and_self]) (KF.n [])))
   refine At.sB 14 (!(inR h.vote 0 5)) true (sayNT (sayB (Bool.eq_false_iff.2 h2))) ?_
   replace h2 := Bool.eq_false_iff.2 h2
   refine At.z 5 ?_
   refine AW.cond true (by kernel_rfl) (fun _ => ?_) (fun h => by cases h)
   refine AW.q 1 ?_
   exact AW.ret (rf (k1 (K_spec_HardOk _ h) (show (false) = (hardOk h) from by simp [hardOk, *]; done) (KF.n [])))
 refine At.sB 8 (!(inR h.term 0 1000000000)) true (sayNT (sayB (Bool.eq_false_iff.2 h1))) ?_
 replace h1 := Bool.eq_false_iff.2 h1
 refine At.z 11 ?_
 refine AW.cond true (by kernel_rfl) (fun _ => ?_) (fun h => by cases h)
 refine AW.q 1 ?_
 exact AW.ret (rf (k1 (K_spec_HardOk _ h) (show (false) = (hardOk h) from by simp [hardOk, *]; done) (KF.n [])))
theorem spec_l10End_spec  (r : Raft) : FnSpec Tryz.prog 65 [(raftA r)] [] (.int .i64 (r.hard.log.length : Int)) [] := by
 refine FnSpec.of 7 Tryz.func65 rfl Tryz.ntmps65 (by simp) (AW.weakK ?_)
 refine AW.q 2 ?_
 refine AW.r ?_
 refine At.a 4 ?_
 refine At.sL 6 encEnt r.hard.log ?_
 refine At.z 1 ?_
 exact AW.ret (rf (KF.n []))
theorem spec_l7Nodes_spec  (list : List Int) (of_ : Int) (hl : list.length ≤ 1048576) (ho : 0 ≤ of_ ∧ of_ ≤ 1000) : FnSpec Tryz.prog 66 [.sl false 1 (list.map encI), .int .i64 of_] [] (.bool (asc (of_ - 1) (-1) list)) [] := by
 refine FnSpec.of 36 Tryz.func66 rfl Tryz.ntmps66 (by simp) (AW.weakK ?_)
 refine AW.q 1 ?_
 refine AW.seq ?_
 refine AW.q 1 ?_
 refine AW.block ?_
 refine AW.loopW (fun (k : Nat) => Go.Sy.mk [.sl false 1 (list.map encI), .int .i64 of_, .un, .un, .un, .int .i64 (k : Int)] []) (fun (k : Nat) => k ≤ list.length ∧ ∃ p : Int, (k = 0 → p = -1) ∧ (∀ e, 0 < k → list[k - 1]? = some e → e = p) ∧ asc (of_ - 1) (-1) list = asc (of_ - 1) p (list.drop k)) (fun (k : Nat) => list.length - k) 0 ⟨by omega, -1, by omega, by omega, by rw [List.drop_zero]⟩ (Sub.o [] [true, true, false, false, false, true]) ?_
 rintro k ⟨hk, p, hp0, hp1, hR⟩
 refine AW.seq ?_
 refine AW.r ?_
 refine At.a 3 ?_
 refine At.sL 8 encI list ?_
 refine At.z 1 ?_
 refine AW.cD ((k : Int) < (list.length : Int)) (fun h1 => ?_) (fun h1 => ?_)
 · refine AW.skip ?_
   refine AW.seq ?_
   refine AW.block ?_
   refine AW.seq ?_
   refine AW.gD Tryz_mix ?_
   refine At.a 2 ?_
   refine At.iSl 27 14 (.tmp 12) (.tmp 13) false 1 (list.map encI) .i64 (k : Int) 3 (by omega) (by simp only [List.length_map]; omega) ?_
   refine Exists.elim (gE list k (by omega)) fun e1 he1 => ?_
   refine At.lVp 3 15 (.tmp 14) false 1 (list.map encI) k 0 false 1 (encI e1) (.int .i64 e1) (mapGet he1) ?_
   refine At.a 2 ?_
   refine At.sI 17 (of_ - 1) (by omega) ?_
   refine At.c (spec_l1In_spec  e1 0 (of_ - 1) ) Tryz.call63 true [] [] [] trivial ?_
   refine At.a 2 ?_
   by_cases h2 : (inR e1 0 (of_ - 1)) = true
   · refine At.sB 20 (!(inR e1 0 (of_ - 1))) false (sayNF (sayB h2)) ?_
     have h2i := inR_iff.1 h2
     refine At.a 3 ?_
     by_cases h3 : (k : Int) > 0
     · refine At.sB 23 _ _ (sayT h3) ?_
       refine At.a 3 ?_
       refine At.sI 26 ((k : Int) - 1) (by omega) ?_
       refine At.iSl 27 27 (.tmp 24) (.tmp 26) false 1 (list.map encI) .i64 ((k : Int) - 1) 3 (by omega) (by simp only [List.length_map]; omega) ?_
       refine Exists.elim (gE list (((k : Int) - 1).toNat) (by omega)) fun e2 he2 => ?_
       have qe2 := hp1 e2 (by omega) (by rw [show k - 1 = ((k : Int) - 1).toNat from by omega]; exact he2)
       refine At.lVp 3 28 (.tmp 27) false 1 (list.map encI) (((k : Int) - 1).toNat) 0 false 1 (encI e2) (.int .i64 e2) (mapGet he2) ?_
       refine At.a 2 ?_
       refine At.iSl 27 31 (.tmp 29) (.tmp 30) false 1 (list.map encI) .i64 (k : Int) 3 (by omega) (by simp only [List.length_map]; omega) ?_
       refine At.lVp 3 32 (.tmp 31) false 1 (list.map encI) k 0 false 1 (encI e1) (.int .i64 e1) (mapGet he1) ?_
       refine At.zD 3 ?_
       refine AW.cD (e2 ≥ e1) (fun h4 => ?_) (fun h4 => ?_)
       · refine AW.q 1 ?_
         refine AW.ret ?_
         refine ⟨_, Sub.refl _ _, ?_⟩
         refine KF.conv (fun w => .bool w) (fun w => []) (show (false) = (asc (of_ - 1) (-1) list) from by rw [hR, dropCons he1]; first | exact asc_bad1 (by assumption) | exact asc_bad2 (by omega)) ?_
         exact KF.n []
       refine AW.skip ?_
       refine AW.g ?_
       refine At.a 2 ?_
       refine At.sI 11 ((k : Int) + 1) (by omega) ?_
       refine At.z 1 ?_
       exact ⟨k + 1, ⟨by omega, e1, by omega, at_k he1, by have i1 := inR_iff.1 (show inR e1 0 (of_ - 1) = true by simpa using h2); rw [hR, dropCons he1]; exact asc_step (by simpa using h2) (by omega)⟩, (by omega), Sub.o [] [true, true, false, false, false, true]⟩
     refine At.sB 23 _ _ (sayF h3) ?_
     refine At.zD 12 ?_
     refine AW.cond false (by kernel_rfl) (fun h => by cases h) (fun _ => ?_)
     refine AW.skip ?_
     refine AW.g ?_
     refine At.a 2 ?_
     refine At.sI 11 ((k : Int) + 1) (by omega) ?_
     refine At.z 1 ?_
     exact ⟨k + 1, ⟨by omega, e1, by omega, at_k he1, by have i1 := inR_iff.1 (show inR e1 0 (of_ - 1) = true by simpa using h2); rw [hR, dropCons he1]; exact asc_step (by simpa using h2) (by omega)⟩, (by omega), Sub.o [] [true, true, false, false, false, true]⟩
   refine At.sB 20 (!(inR e1 0 (of_ - 1))) true (sayNT (sayB (Bool.eq_false_iff.2 h2))) ?_
   replace h2 := Bool.eq_false_iff.2 h2
   refine At.zD 15 ?_
   refine AW.cond true (by kernel_rfl) (fun _ => ?_) (fun h => by cases h)
   refine AW.q 1 ?_
   refine AW.ret ?_
   refine ⟨_, Sub.refl _ _, ?_⟩
   refine KF.conv (fun w => .bool w) (fun w => []) (show (false) = (asc (of_ - 1) (-1) list) from by rw [hR, dropCons he1]; first | exact asc_bad1 (by assumption) | exact asc_bad2 (by omega)) ?_
   exact KF.n []
 refine AW.exit ?_
 refine AW.q 1 ?_
 refine AW.ret ?_
 refine ⟨_, Sub.refl _ _, ?_⟩
 refine KF.conv (fun w => .bool w) (fun w => []) (show (true) = (asc (of_ - 1) (-1) list) from by rw [hR, List.drop_of_length_le (by omega)]; rfl) ?_
 exact KF.n []
theorem spec_l7Has_spec  (list : List Int) (x : Int) (hl : list.length ≤ 1048576) : FnSpec Tryz.prog 67 [.sl false 1 (list.map encI), .int .i64 x] [] (.bool (hasI x list)) [] := by
 refine FnSpec.of 18 Tryz.func67 rfl Tryz.ntmps67 (by simp) (AW.weakK ?_)
 refine AW.q 1 ?_
 refine AW.seq ?_
 refine AW.q 1 ?_
 refine AW.block ?_
 refine AW.loopW (fun (k : Nat) => Go.Sy.mk [.sl false 1 (list.map encI), .int .i64 x, .un, .un, .un, .int .i64 (k : Int)] []) (fun (k : Nat) => k ≤ list.length ∧ hasI x list = hasI x (list.drop k)) (fun (k : Nat) => list.length - k) 0 ⟨by omega, by rw [List.drop_zero]⟩ (Sub.o [] [true, true, false, false, false, true]) ?_
 rintro k ⟨hk, hR⟩
 refine AW.seq ?_
 refine AW.r ?_
 refine At.a 3 ?_
 refine At.sL 8 encI list ?_
 refine At.z 1 ?_
 refine AW.cD ((k : Int) < (list.length : Int)) (fun h1 => ?_) (fun h1 => ?_)
 · refine AW.skip ?_
   refine AW.seq ?_
   refine AW.block ?_
   refine AW.r ?_
   refine At.a 2 ?_
   refine At.iSl 27 14 (.tmp 12) (.tmp 13) false 1 (list.map encI) .i64 (k : Int) 3 (by omega) (by simp only [List.length_map]; omega) ?_
   refine Exists.elim (gE list k (by omega)) fun e1 he1 => ?_
   refine At.lVp 3 15 (.tmp 14) false 1 (list.map encI) k 0 false 1 (encI e1) (.int .i64 e1) (mapGet he1) ?_
   refine At.z 2 ?_
   refine AW.cE e1 x (fun h2 => ?_) (fun h2 => ?_)
   · refine AW.q 1 ?_
     refine AW.ret ?_
     refine ⟨_, Sub.refl _ _, ?_⟩
     refine KF.conv (fun w => .bool w) (fun w => []) (show (true) = (hasI x list) from by rw [hR]; first | (rw [List.drop_of_length_le (by omega)]; rfl) | (rw [dropCons ‹_›]; simp_all [hasI])) ?_
     exact KF.n []
   refine AW.skip ?_
   refine AW.g ?_
   refine At.a 2 ?_
   refine At.sI 11 ((k : Int) + 1) (by omega) ?_
   refine At.z 1 ?_
   exact ⟨k + 1, ⟨by omega, by rw [hR, dropCons ‹_›]; simp_all [hasI]⟩, by omega, Sub.o [] [true, true, false, false, false, true]⟩
 refine AW.exit ?_
 refine AW.q 1 ?_
 refine AW.ret ?_
 refine ⟨_, Sub.refl _ _, ?_⟩
 refine KF.conv (fun w => .bool w) (fun w => []) (show (false) = (hasI x list) from by rw [hR]; first | (rw [List.drop_of_length_le (by omega)]; rfl) | (rw [dropCons ‹_›]; simp_all [hasI])) ?_
 exact KF.n []
def K_spec_RaftOk (rs : List ResultVar) (r : Raft) (w0_ : Bool) : Exit → Sg → Prop := KF Tryz.prog 0 rs (.bool w0_) []
theorem spec_RaftOk_spec  (r : Raft) (hz : SmallR r) : FnSpec Tryz.prog 18 [(raftA r)] [] (.bool (raftOk r)) [] := by
 obtain ⟨z1, z2, z3, z4⟩ := id hz
 refine FnSpec.of 143 Tryz.func18 rfl Tryz.ntmps18 (by simp) (AW.weakK ?_)
 refine AW.q 2 ?_
 refine AW.seq ?_
 refine AW.seq ?_
 refine AW.cut [(101, 101)] [false, true] 59 (!(raftOk1 r)) ?_ ?_
 · refine AW.gD Tryz_mix ?_
   refine At.a 2 ?_
   refine At.c (spec_l7Of_spec  r.of_ ) Tryz.call62 true [] [] [] trivial ?_
   refine At.a 2 ?_
   by_cases h1 : (ofOk r.of_) = true
   · refine At.sB 8 (!(ofOk r.of_)) false (sayNF (sayB h1)) ?_
     have h1o := ofOk_iff.1 h1
     refine At.a 5 ?_
     refine At.sI 13 (r.of_ - 1) (by omega) ?_
     refine At.c (spec_l1In_spec  r.id 0 (r.of_ - 1) ) Tryz.call63 true [] [] [] trivial ?_
     refine At.a 3 ?_
     by_cases h2 : (inR r.id 0 (r.of_ - 1)) = true
     · refine At.sB 17 (!(inR r.id 0 (r.of_ - 1))) false (sayNF (sayB h2)) ?_
       have h2i := inR_iff.1 h2
       refine At.a 2 ?_
       refine At.c (spec_l1In_spec  r.role 1 3 ) Tryz.call63 true [] [] [] trivial ?_
       refine At.a 3 ?_
       by_cases h3 : (inR r.role 1 3) = true
       · refine At.sB 23 (!(inR r.role 1 3)) false (sayNF (sayB h3)) ?_
         have h3i := inR_iff.1 h3
         refine At.a 2 ?_
         refine At.c (spec_HardOk_spec  r.hard (by omega)) Tryz.call64 true [] [] [] trivial ?_
         refine At.a 3 ?_
         by_cases h4 : (hardOk r.hard) = true
         · refine At.sB 29 (!(hardOk r.hard)) false (sayNF (sayB h4)) ?_
           refine At.a 3 ?_
           refine At.c (spec_l10End_spec  r ) Tryz.call65 true [] [] [] trivial ?_
           refine At.c (spec_l1In_spec  r.commit 0 (r.hard.log.length : Int) ) Tryz.call63 true [] [] [] trivial ?_
           refine At.a 3 ?_
           by_cases h5 : (inR r.commit 0 (r.hard.log.length : Int)) = true
           · refine At.sB 37 (!(inR r.commit 0 (r.hard.log.length : Int))) false (sayNF (sayB h5)) ?_
             have h5i := inR_iff.1 h5
             refine At.a 3 ?_
             refine At.sL 40 encI r.yes ?_
             refine At.a 5 ?_
             by_cases h6 : (r.yes.length : Int) > r.of_
             · refine At.sB 45 _ _ (sayT h6) ?_
               refine At.a 14 ?_
               refine At.sB 59 true (!(raftOk1 r)) (congrArg V.bool (by have q : raftOk1 r = false := Bool.eq_false_iff.2 (fun h => by have := raftOk1_len h; omega); simp [q])) ?_
               refine At.done rfl ⟨by kernel_rfl, rfl, ?_⟩
               exact Sub.cut [(101, 101)] [false, true] 59 _ (by kernel_rfl) (by kernel_rfl) (by kernel_rfl) (by kernel_rfl)
             refine At.sB 45 _ _ (sayF h6) ?_
             refine At.a 4 ?_
             refine At.c (spec_l7Nodes_spec  r.yes r.of_ (by omega) (by omega)) Tryz.call66 true [] [] [] trivial ?_
             refine At.a 3 ?_
             by_cases h7 : (asc (r.of_ - 1) (-1) r.yes) = true
             · refine At.sB 53 (!(asc (r.of_ - 1) (-1) r.yes)) false (sayNF (sayB h7)) ?_
               refine At.a 4 ?_
               refine At.c (spec_l7Has_spec  r.yes r.id (by omega)) Tryz.call67 true [] [] [] trivial ?_
               refine At.a 1 ?_
               refine At.sB 59 (hasI r.id r.yes) (!(raftOk1 r)) (congrArg V.bool (by simp [raftOk1, h1, h2, h3, h4, h5, h6, h7]; done)) ?_
               refine At.done rfl ⟨by kernel_rfl, rfl, ?_⟩
               exact Sub.cut [(101, 101)] [false, true] 59 _ (by kernel_rfl) (by kernel_rfl) (by kernel_rfl) (by kernel_rfl)
             refine At.sB 53 (!(asc (r.of_ - 1) (-1) r.yes)) true (sayNT (sayB (Bool.eq_false_iff.2 h7))) ?_
             replace h7 := Bool.eq_false_iff.2 h7
             refine At.a 6 ?_
             refine At.sB 59 true (!(raftOk1 r)) (congrArg V.bool (by simp [raftOk1, h1, h2, h3, h4, h5, h6, h7]; done)) ?_
             refine At.done rfl ⟨by kernel_rfl, rfl, ?_⟩
             exact Sub.cut [(101, 101)] [false, true] 59 _ (by kernel_rfl) (by kernel_rfl) (by kernel_rfl) (by kernel_rfl)
           refine At.sB 37 (!(inR r.commit 0 (r.hard.log.length : Int))) true (sayNT (sayB (Bool.eq_false_iff.2 h5))) ?_
           replace h5 := Bool.eq_false_iff.2 h5
           refine At.a 22 ?_
           refine At.sB 59 true (!(raftOk1 r)) (congrArg V.bool (by simp [raftOk1, h1, h2, h3, h4, h5]; done)) ?_
           refine At.done rfl ⟨by kernel_rfl, rfl, ?_⟩
           exact Sub.cut [(101, 101)] [false, true] 59 _ (by kernel_rfl) (by kernel_rfl) (by kernel_rfl) (by kernel_rfl)
         refine At.sB 29 (!(hardOk r.hard)) true (sayNT (sayB (Bool.eq_false_iff.2 h4))) ?_
         replace h4 := Bool.eq_false_iff.2 h4
         refine At.a 30 ?_
         refine At.sB 59 true (!(raftOk1 r)) (congrArg V.bool (by simp [raftOk1, h1, h2, h3, h4]; done)) ?_
         refine At.done rfl ⟨by kernel_rfl, rfl, ?_⟩
         exact Sub.cut [(101, 101)] [false, true] 59 _ (by kernel_rfl) (by kernel_rfl) (by kernel_rfl) (by kernel_rfl)
       refine At.sB 23 (!(inR r.role 1 3)) true (sayNT (sayB (Bool.eq_false_iff.2 h3))) ?_
       replace h3 := Bool.eq_false_iff.2 h3
       refine At.a 36 ?_
       refine At.sB 59 true (!(raftOk1 r)) (congrArg V.bool (by simp [raftOk1, h1, h2, h3]; done)) ?_
       refine At.done rfl ⟨by kernel_rfl, rfl, ?_⟩
       exact Sub.cut [(101, 101)] [false, true] 59 _ (by kernel_rfl) (by kernel_rfl) (by kernel_rfl) (by kernel_rfl)
     refine At.sB 17 (!(inR r.id 0 (r.of_ - 1))) true (sayNT (sayB (Bool.eq_false_iff.2 h2))) ?_
     replace h2 := Bool.eq_false_iff.2 h2
     refine At.a 42 ?_
     refine At.sB 59 true (!(raftOk1 r)) (congrArg V.bool (by simp [raftOk1, h1, h2]; done)) ?_
     refine At.done rfl ⟨by kernel_rfl, rfl, ?_⟩
     exact Sub.cut [(101, 101)] [false, true] 59 _ (by kernel_rfl) (by kernel_rfl) (by kernel_rfl) (by kernel_rfl)
   refine At.sB 8 (!(ofOk r.of_)) true (sayNT (sayB (Bool.eq_false_iff.2 h1))) ?_
   replace h1 := Bool.eq_false_iff.2 h1
   refine At.a 51 ?_
   refine At.sB 59 true (!(raftOk1 r)) (congrArg V.bool (by simp [raftOk1, h1]; done)) ?_
   refine At.done rfl ⟨by kernel_rfl, rfl, ?_⟩
   exact Sub.cut [(101, 101)] [false, true] 59 _ (by kernel_rfl) (by kernel_rfl) (by kernel_rfl) (by kernel_rfl)
 refine AW.cNB (raftOk1 r) (fun h8 => ?_) (fun h8 => ?_)
 · refine AW.q 1 ?_
   exact AW.ret (rf (k1 (K_spec_RaftOk _ r) (show (false) = (raftOk r) from by grind [raftOk, raftOk3]) (KF.n [])))
 have h8n := raftOk1_nums h8
 refine AW.skip ?_
 refine AW.seq ?_
 refine AW.seq ?_
 refine AW.cut [(101, 101)] [false, true] 88 (!(raftOk2 r)) ?_ ?_
 · refine AW.g ?_
   refine At.a 4 ?_
   by_cases h9 : r.role = 2
   · refine At.sB 63 _ _ (sayUF h9) ?_
     refine At.a 10 ?_
     by_cases h10 : r.role = 1
     · refine At.sB 73 _ _ (sayUF h10) ?_
       refine At.a 15 ?_
       refine At.sB 88 false (!(raftOk2 r)) (congrArg V.bool (by grind [raftOk2])) ?_
       refine At.done rfl ⟨rfl, ?_⟩
       exact Sub.cut [(101, 101)] [false, true] 88 _ (by kernel_rfl) (by kernel_rfl) (by kernel_rfl) (by kernel_rfl)
     refine At.sB 73 _ _ (sayUT h10) ?_
     refine At.a 5 ?_
     by_cases h11 : r.hard.term < 1
     · refine At.sB 78 _ _ (sayT h11) ?_
       refine At.a 10 ?_
       refine At.sB 88 true (!(raftOk2 r)) (congrArg V.bool (by grind [raftOk2])) ?_
       refine At.done rfl ⟨rfl, ?_⟩
       exact Sub.cut [(101, 101)] [false, true] 88 _ (by kernel_rfl) (by kernel_rfl) (by kernel_rfl) (by kernel_rfl)
     refine At.sB 78 _ _ (sayF h11) ?_
     refine At.a 6 ?_
     refine At.sI 84 (r.id + 1) (by omega) ?_
     refine At.a 4 ?_
     refine At.sB 88 (r.hard.vote != (r.id + 1)) (!(raftOk2 r)) (congrArg V.bool (by grind [raftOk2])) ?_
     refine At.done rfl ⟨rfl, ?_⟩
     exact Sub.cut [(101, 101)] [false, true] 88 _ (by kernel_rfl) (by kernel_rfl) (by kernel_rfl) (by kernel_rfl)
   refine At.sB 63 _ _ (sayUT h9) ?_
   refine At.a 3 ?_
   refine At.sL 66 encI r.yes ?_
   refine At.a 3 ?_
   by_cases h12 : (r.yes.length : Int) > 0
   · refine At.sB 69 _ _ (sayT h12) ?_
     refine At.a 19 ?_
     refine At.sB 88 true (!(raftOk2 r)) (congrArg V.bool (by grind [raftOk2])) ?_
     refine At.done rfl ⟨rfl, ?_⟩
     exact Sub.cut [(101, 101)] [false, true] 88 _ (by kernel_rfl) (by kernel_rfl) (by kernel_rfl) (by kernel_rfl)
   refine At.sB 69 _ _ (sayF h12) ?_
   refine At.a 4 ?_
   by_cases h13 : r.role = 1
   · refine At.sB 73 _ _ (sayUF h13) ?_
     refine At.a 15 ?_
     refine At.sB 88 false (!(raftOk2 r)) (congrArg V.bool (by grind [raftOk2])) ?_
     refine At.done rfl ⟨rfl, ?_⟩
     exact Sub.cut [(101, 101)] [false, true] 88 _ (by kernel_rfl) (by kernel_rfl) (by kernel_rfl) (by kernel_rfl)
   refine At.sB 73 _ _ (sayUT h13) ?_
   refine At.a 5 ?_
   by_cases h14 : r.hard.term < 1
   · refine At.sB 78 _ _ (sayT h14) ?_
     refine At.a 10 ?_
     refine At.sB 88 true (!(raftOk2 r)) (congrArg V.bool (by grind [raftOk2])) ?_
     refine At.done rfl ⟨rfl, ?_⟩
     exact Sub.cut [(101, 101)] [false, true] 88 _ (by kernel_rfl) (by kernel_rfl) (by kernel_rfl) (by kernel_rfl)
   refine At.sB 78 _ _ (sayF h14) ?_
   refine At.a 6 ?_
   refine At.sI 84 (r.id + 1) (by omega) ?_
   refine At.a 4 ?_
   refine At.sB 88 (r.hard.vote != (r.id + 1)) (!(raftOk2 r)) (congrArg V.bool (by grind [raftOk2])) ?_
   refine At.done rfl ⟨rfl, ?_⟩
   exact Sub.cut [(101, 101)] [false, true] 88 _ (by kernel_rfl) (by kernel_rfl) (by kernel_rfl) (by kernel_rfl)
 refine AW.cNB (raftOk2 r) (fun h15 => ?_) (fun h15 => ?_)
 · refine AW.q 1 ?_
   exact AW.ret (rf (k1 (K_spec_RaftOk _ r) (show (false) = (raftOk r) from by grind [raftOk, raftOk3]) (KF.n [])))
 refine AW.skip ?_
 refine AW.seq ?_
 refine AW.q 3 ?_
 refine AW.cU r.role (3 : Int) (fun h16 => ?_) (fun h16 => ?_)
 · refine AW.r ?_
   refine At.a 3 ?_
   refine At.sL 94 encI r.next ?_
   refine At.a 2 ?_
   by_cases h17 : (r.next.length : Int) = 0
   · refine At.sB 96 _ _ (sayET h17) ?_
     refine At.a 3 ?_
     refine At.sL 99 encI r.match_ ?_
     refine At.z 3 ?_
     exact AW.ret (rf (k1 (K_spec_RaftOk _ r) (show ((r.match_.length : Int) == 0) = (raftOk r) from by grind [raftOk, raftOk3]) (KF.n [])))
   refine At.sB 96 _ _ (sayEF h17) ?_
   refine At.z 6 ?_
   exact AW.ret (rf (k1 (K_spec_RaftOk _ r) (show (false) = (raftOk r) from by grind [raftOk, raftOk3]) (KF.n [])))
 refine AW.skip ?_
 refine AW.seq ?_
 refine AW.r ?_
 refine At.a 3 ?_
 refine At.sL 104 encI r.next ?_
 refine At.a 4 ?_
 by_cases h18 : (r.next.length : Int) = r.of_
 · refine At.sB 108 _ _ (sayUF h18) ?_
   refine At.a 3 ?_
   refine At.sL 111 encI r.match_ ?_
   refine At.z 4 ?_
   refine AW.cU (r.match_.length : Int) r.of_ (fun h19 => ?_) (fun h19 => ?_)
   · refine AW.q 1 ?_
     exact AW.ret (rf (k1 (K_spec_RaftOk _ r) (show (false) = (raftOk r) from by grind [raftOk, raftOk3]) (KF.n [])))
   refine AW.skip ?_
   refine AW.seq ?_
   refine AW.q 1 ?_
   refine AW.block ?_
   refine AW.loopW (fun (k : Nat) => Go.Sy.mk [.un, .ptr 101 0 0, .un, .int .i64 (k : Int)] [(101, .box 29 [.int .i64 r.id, .int .i64 r.of_, .int .i64 r.role, .int .i64 r.commit, .int .i64 r.hard.term, .int .i64 r.hard.vote, .sl false 6 (r.hard.log.map encEnt), .sl false 1 (r.yes.map encI), .sl false 1 (r.next.map encI), .sl false 1 (r.match_.map encI)])]) (fun (k : Nat) => (k : Int) ≤ r.of_ ∧ allIn 1 (r.hard.log.length + 1) r.next = allIn 1 (r.hard.log.length + 1) (r.next.drop k) ∧ allIn 0 r.hard.log.length r.match_ = allIn 0 r.hard.log.length (r.match_.drop k)) (fun (k : Nat) => r.of_.toNat - k) 0 ⟨by omega, by rw [List.drop_zero], by rw [List.drop_zero]⟩ (Sub.o [(101, 101)] [false, true, false, true]) ?_
   rintro k ⟨hk, hR1, hR2⟩
   refine AW.seq ?_
   refine AW.q 4 ?_
   refine AW.cD ((k : Int) < r.of_) (fun h20 => ?_) (fun h20 => ?_)
   · refine AW.skip ?_
     refine AW.seq ?_
     refine AW.block ?_
     refine AW.seq ?_
     refine AW.gD Tryz_mix ?_
     refine At.a 3 ?_
     refine At.iSl 27 125 (.tmp 123) (.tmp 124) false 1 (r.next.map encI) .i64 (k : Int) 3 (by omega) (by simp only [List.length_map]; omega) ?_
     refine Exists.elim (gE r.next k (by omega)) fun e1 he1 => ?_
     refine At.lVp 3 126 (.tmp 125) false 1 (r.next.map encI) k 0 false 1 (encI e1) (.int .i64 e1) (mapGet he1) ?_
     refine At.a 1 ?_
     refine At.c (spec_l10End_spec  r ) Tryz.call65 true [] [] [] trivial ?_
     refine At.a 1 ?_
     refine At.sI 129 ((r.hard.log.length : Int) + 1) (by omega) ?_
     refine At.c (spec_l1In_spec  e1 1 ((r.hard.log.length : Int) + 1) ) Tryz.call63 true [] [] [] trivial ?_
     refine At.a 2 ?_
     by_cases h21 : (inR e1 1 ((r.hard.log.length : Int) + 1)) = true
     · refine At.sB 132 (!(inR e1 1 ((r.hard.log.length : Int) + 1))) false (sayNF (sayB h21)) ?_
       have h21i := inR_iff.1 h21
       refine At.a 3 ?_
       refine At.iSl 27 136 (.tmp 134) (.tmp 135) false 1 (r.match_.map encI) .i64 (k : Int) 3 (by omega) (by simp only [List.length_map]; omega) ?_
       refine Exists.elim (gE r.match_ k (by omega)) fun e2 he2 => ?_
       refine At.lVp 3 137 (.tmp 136) false 1 (r.match_.map encI) k 0 false 1 (encI e2) (.int .i64 e2) (mapGet he2) ?_
       refine At.a 1 ?_
       refine At.c (spec_l10End_spec  r ) Tryz.call65 true [] [] [] trivial ?_
       refine At.c (spec_l1In_spec  e2 0 (r.hard.log.length : Int) ) Tryz.call63 true [] [] [] trivial ?_
       refine At.zD 2 ?_
       refine AW.cNB (inR e2 0 (r.hard.log.length : Int)) (fun h22 => ?_) (fun h22 => ?_)
       · refine AW.q 1 ?_
         exact AW.ret (rf (k1 (K_spec_RaftOk _ r) (show (false) = (raftOk r) from by rw [dropCons he2] at hR2; grind [raftOk, raftOk3, allIn]) (KF.n [])))
       have h22i := inR_iff.1 h22
       refine AW.skip ?_
       refine AW.g ?_
       refine At.a 2 ?_
       refine At.sI 121 ((k : Int) + 1) (by omega) ?_
       refine At.z 1 ?_
       exact ⟨k + 1, ⟨by omega, by rw [hR1, dropCons he1, allIn]; simp only [*, Bool.true_and], by rw [hR2, dropCons he2, allIn]; simp only [*, Bool.true_and]⟩, (by omega), Sub.o [(101, 101)] [false, true, false, true]⟩
     refine At.sB 132 (!(inR e1 1 ((r.hard.log.length : Int) + 1))) true (sayNT (sayB (Bool.eq_false_iff.2 h21))) ?_
     replace h21 := Bool.eq_false_iff.2 h21
     refine At.zD 10 ?_
     refine AW.cond true (by kernel_rfl) (fun _ => ?_) (fun h => by cases h)
     refine AW.q 1 ?_
     exact AW.ret (rf (k1 (K_spec_RaftOk _ r) (show (false) = (raftOk r) from by rw [dropCons he1] at hR1; grind [raftOk, raftOk3, allIn]) (KF.n [])))
   refine AW.exit ?_
   refine AW.q 1 ?_
   exact AW.ret (rf (k1 (K_spec_RaftOk _ r) (show (true) = (raftOk r) from by rw [List.drop_of_length_le (by omega)] at hR1 hR2; grind [raftOk, raftOk3, allIn]) (KF.n [])))
 refine At.sB 108 _ _ (sayUT h18) ?_
 refine At.z 7 ?_
 refine AW.cond true (by kernel_rfl) (fun _ => ?_) (fun h => by cases h)
 refine AW.q 1 ?_
 exact AW.ret (rf (k1 (K_spec_RaftOk _ r) (show (false) = (raftOk r) from by grind [raftOk, raftOk3]) (KF.n [])))
def K_spec_RaftNew (rs : List ResultVar) (id : Int) (of_ : Int) (h : Hard) (w0_ : Raft) (w1_ : Bool) : Exit → Sg → Prop := KF Tryz.prog 0 rs (.tup [.agg [.int .i64 w0_.id, .int .i64 w0_.of_, .int .i64 w0_.role, .int .i64 w0_.commit, .int .i64 w0_.hard.term, .int .i64 w0_.hard.vote, .ref 0, .ref 1, .ref 2, .ref 3], .bool w1_]) [.arr 45 6 (w0_.hard.log.map encEnt), .arr 3 1 (w0_.yes.map encI), .arr 3 1 (w0_.next.map encI), .arr 3 1 (w0_.match_.map encI)]
theorem spec_RaftNew_spec  (id : Int) (of_ : Int) (h : Hard) (hl : h.log.length ≤ 1048576) : FnSpec Tryz.prog 26 [.int .i64 id, .int .i64 of_, .agg [.int .i64 h.term, .int .i64 h.vote, .sl false 6 (h.log.map encEnt)]] [] (.tup [.agg [.int .i64 (((newR id of_ h).1).id), .int .i64 (((newR id of_ h).1).of_), .int .i64 (((newR id of_ h).1).role), .int .i64 (((newR id of_ h).1).commit), .int .i64 (((newR id of_ h).1).hard.term), .int .i64 (((newR id of_ h).1).hard.vote), .ref 0, .ref 1, .ref 2, .ref 3], .bool ((newR id of_ h).2)]) [.arr 45 6 ((((newR id of_ h).1).hard.log).map encEnt), .arr 3 1 ((((newR id of_ h).1).yes).map encI), .arr 3 1 ((((newR id of_ h).1).next).map encI), .arr 3 1 ((((newR id of_ h).1).match_).map encI)] := by
 refine FnSpec.of 19 Tryz.func26 rfl Tryz.ntmps26 (by simp) (AW.weakK ?_)
 refine AW.q 3 ?_
 refine AW.seq ?_
 refine AW.weak (Sub.nils [⟨true, 106, some 6, 5001, 45, 6⟩, ⟨true, 106, some 7, 5002, 3, 1⟩, ⟨true, 106, some 8, 5003, 3, 1⟩, ⟨true, 106, some 9, 5004, 3, 1⟩] (by kernel_rfl)) ?_
 refine AW.g ?_
 refine At.a 3 ?_
 refine At.c (spec_l6Copy_spec  h (by omega)) Tryz.call74 true [] [(1240, 0)] [] trivial ?_
 refine At.z 3 ?_
 refine AW.seq ?_
 refine AW.seq ?_
 refine AW.weak (Sub.nils [⟨true, 108, some 7, 5005, 3, 1⟩, ⟨true, 108, some 8, 5006, 3, 1⟩, ⟨true, 108, some 9, 5007, 3, 1⟩] (by kernel_rfl)) ?_
 refine AW.g ?_
 refine At.a 1 ?_
 refine At.c (spec_RaftOk_spec  (⟨id, of_, 1, 0, h, [], [], []⟩ : Raft) (by unfold SmallR; dsimp only; simp only [List.length_nil]; omega)) Tryz.call18 false [] [] [(1240, 6, (h.log.map encEnt)), (5005, 1, []), (5006, 1, []), (5007, 1, [])] ⟨rfl, ⟨45, (h.log.map encEnt), by kernel_rfl, FrzIs.same (allP_encEnt _)⟩, rfl, ⟨3, [], by kernel_rfl, FrzIs.same (fun _ h => by cases h)⟩, rfl, ⟨3, [], by kernel_rfl, FrzIs.same (fun _ h => by cases h)⟩, rfl, ⟨3, [], by kernel_rfl, FrzIs.same (fun _ h => by cases h)⟩, trivial⟩ ?_
 refine At.z 1 ?_
 refine AW.cNB (raftOk (⟨id, of_, 1, 0, h, [], [], []⟩ : Raft)) (fun h1 => ?_) (fun h1 => ?_)
 · refine AW.q 3 ?_
   refine AW.ret ?_
   refine ⟨_, Sub.nils [⟨true, 106, some 6, 5008, 45, 6⟩, ⟨true, 106, some 7, 5009, 3, 1⟩, ⟨true, 106, some 8, 5010, 3, 1⟩, ⟨true, 106, some 9, 5011, 3, 1⟩] (by kernel_rfl), ?_⟩
   exact k2 (K_spec_RaftNew _ id of_ h) (show ((⟨0, 0, 0, 0, ⟨0, 0, []⟩, [], [], []⟩ : Raft)) = ((newR id of_ h).1) from by rw [newR, if_neg (by simp only [*]; decide)]; rfl) (show (false) = ((newR id of_ h).2) from by rw [newR, if_neg (by simp only [*]; decide)]) (KF.n [(5008, 0), (5009, 1), (5010, 2), (5011, 3)])
 have h1n := raftOk1_nums (raftOk_1 h1)
 refine AW.skip ?_
 refine AW.q 3 ?_
 exact AW.ret (rf (k2 (K_spec_RaftNew _ id of_ h) (show ((⟨id, of_, 1, 0, h, [], [], []⟩ : Raft)) = ((newR id of_ h).1) from by rw [newR, if_pos (by assumption)]) (show (true) = ((newR id of_ h).2) from by rw [newR, if_pos (by assumption)]) (KF.n [(1240, 0), (5005, 1), (5006, 2), (5007, 3)])))
theorem spec_l10Copy_spec  (r : Raft) (hz : SmallR r) : FnSpec Tryz.prog 160 [(raftA r)] [] (.agg [.int .i64 r.id, .int .i64 r.of_, .int .i64 r.role, .int .i64 r.commit, .int .i64 r.hard.term, .int .i64 r.hard.vote, .ref 0, .ref 1, .ref 2, .ref 3]) [.arr 45 6 (r.hard.log.map encEnt), .arr 3 1 (r.yes.map encI), .arr 3 1 (r.next.map encI), .arr 3 1 (r.match_.map encI)] := by
 obtain ⟨z1, z2, z3, z4⟩ := id hz
 refine FnSpec.of 25 Tryz.func160 rfl Tryz.ntmps160 (by simp) (AW.weakK ?_)
 refine AW.q 2 ?_
 refine AW.seq ?_
 refine AW.weak (Sub.nils [⟨true, 102, some 6, 5001, 45, 6⟩, ⟨true, 102, some 7, 5002, 3, 1⟩, ⟨true, 102, some 8, 5003, 3, 1⟩, ⟨true, 102, some 9, 5004, 3, 1⟩] (by kernel_rfl)) ?_
 refine AW.gq 3 ?_
 refine AW.r ?_
 refine At.a 2 ?_
 refine At.c (spec_l6Copy_spec  r.hard (by omega)) Tryz.call74 true [] [(1140, 0)] [] trivial ?_
 refine At.z 2 ?_
 refine AW.r ?_
 refine At.lit0 (t := 27) (d := 9) (e := 3) (es := 1) (bytes := 8) 109 (by kernel_rfl) (by kernel_rfl) (by kernel_rfl) (by kernel_rfl) ?_
 refine At.a 2 ?_
 refine At.append (t := 27) (d := 12) (e := 3) (es := 1) (bytes := 8) (s := .tmp 9) (x := .tmp 11) (S := .ref 109) (T := .sl false 1 (r.yes.map encI)) (xs := []) (ys := (r.yes.map encI)) 112 [109] [] (r.yes.map encI) (by kernel_rfl) (by kernel_rfl) (by kernel_rfl) (by kernel_rfl) ⟨by kernel_rfl, rfl⟩ ⟨rfl, rfl, (allP_encI _), rfl⟩ (by kernel_rfl) (by kernel_rfl) (by simp) (by simp only [List.length_map, List.length_append, List.length_take, List.length_drop, List.length_replicate, List.length_set, List.length_cons, List.length_nil]; omega) (by simp only [List.length_map, List.length_append, List.length_take, List.length_drop, List.length_replicate, List.length_set, List.length_cons, List.length_nil]; omega) ?_
 refine At.z 2 ?_
 refine AW.r ?_
 refine At.lit0 (t := 27) (d := 14) (e := 3) (es := 1) (bytes := 8) 114 (by kernel_rfl) (by kernel_rfl) (by kernel_rfl) (by kernel_rfl) ?_
 refine At.a 2 ?_
 refine At.append (t := 27) (d := 17) (e := 3) (es := 1) (bytes := 8) (s := .tmp 14) (x := .tmp 16) (S := .ref 114) (T := .sl false 1 (r.next.map encI)) (xs := []) (ys := (r.next.map encI)) 117 [114] [] (r.next.map encI) (by kernel_rfl) (by kernel_rfl) (by kernel_rfl) (by kernel_rfl) ⟨by kernel_rfl, rfl⟩ ⟨rfl, rfl, (allP_encI _), rfl⟩ (by kernel_rfl) (by kernel_rfl) (by simp) (by simp only [List.length_map, List.length_append, List.length_take, List.length_drop, List.length_replicate, List.length_set, List.length_cons, List.length_nil]; omega) (by simp only [List.length_map, List.length_append, List.length_take, List.length_drop, List.length_replicate, List.length_set, List.length_cons, List.length_nil]; omega) ?_
 refine At.z 2 ?_
 refine AW.r ?_
 refine At.lit0 (t := 27) (d := 19) (e := 3) (es := 1) (bytes := 8) 119 (by kernel_rfl) (by kernel_rfl) (by kernel_rfl) (by kernel_rfl) ?_
 refine At.a 2 ?_
 refine At.append (t := 27) (d := 22) (e := 3) (es := 1) (bytes := 8) (s := .tmp 19) (x := .tmp 21) (S := .ref 119) (T := .sl false 1 (r.match_.map encI)) (xs := []) (ys := (r.match_.map encI)) 122 [119] [] (r.match_.map encI) (by kernel_rfl) (by kernel_rfl) (by kernel_rfl) (by kernel_rfl) ⟨by kernel_rfl, rfl⟩ ⟨rfl, rfl, (allP_encI _), rfl⟩ (by kernel_rfl) (by kernel_rfl) (by simp) (by simp only [List.length_map, List.length_append, List.length_take, List.length_drop, List.length_replicate, List.length_set, List.length_cons, List.length_nil]; omega) (by simp only [List.length_map, List.length_append, List.length_take, List.length_drop, List.length_replicate, List.length_set, List.length_cons, List.length_nil]; omega) ?_
 refine At.z 2 ?_
 refine AW.q 2 ?_
 exact AW.ret (rf (KF.n [(1140, 0), (112, 1), (117, 2), (122, 3)]))
def K_spec_l10Same (rs : List ResultVar) (r : Raft) (w0_ : Raft) : Exit → Sg → Prop := KF Tryz.prog 0 rs (.agg [.int .i64 w0_.id, .int .i64 w0_.of_, .int .i64 w0_.role, .int .i64 w0_.commit, .int .i64 w0_.hard.term, .int .i64 w0_.hard.vote, .ref 0, .ref 1, .ref 2, .ref 3]) [.arr 45 6 (w0_.hard.log.map encEnt), .arr 3 1 (w0_.yes.map encI), .arr 3 1 (w0_.next.map encI), .arr 3 1 (w0_.match_.map encI)]
theorem spec_l10Same_spec  (r : Raft) (hz : SmallR r) : FnSpec Tryz.prog 97 [(raftA r)] [] (.agg [.int .i64 ((same r).id), .int .i64 ((same r).of_), .int .i64 ((same r).role), .int .i64 ((same r).commit), .int .i64 ((same r).hard.term), .int .i64 ((same r).hard.vote), .ref 0, .ref 1, .ref 2, .ref 3]) [.arr 45 6 (((same r).hard.log).map encEnt), .arr 3 1 (((same r).yes).map encI), .arr 3 1 (((same r).next).map encI), .arr 3 1 (((same r).match_).map encI)] := by
 obtain ⟨z1, z2, z3, z4⟩ := id hz
 refine FnSpec.of 9 Tryz.func97 rfl Tryz.ntmps97 (by simp) (AW.weakK ?_)
 refine AW.q 2 ?_
 refine AW.seq ?_
 refine AW.seq ?_
 refine AW.weak (Sub.nils [⟨true, 102, some 6, 5001, 45, 6⟩, ⟨true, 102, some 7, 5002, 3, 1⟩, ⟨true, 102, some 8, 5003, 3, 1⟩, ⟨true, 102, some 9, 5004, 3, 1⟩] (by kernel_rfl)) ?_
 refine AW.g ?_
 refine At.a 1 ?_
 refine At.c (spec_RaftOk_spec  r hz) Tryz.call18 true [] [] [] trivial ?_
 refine At.z 1 ?_
 refine AW.cNB (raftOk r) (fun h1 => ?_) (fun h1 => ?_)
 · refine AW.q 2 ?_
   refine AW.ret ?_
   refine ⟨_, Sub.nils [⟨true, 102, some 6, 5005, 45, 6⟩, ⟨true, 102, some 7, 5006, 3, 1⟩, ⟨true, 102, some 8, 5007, 3, 1⟩, ⟨true, 102, some 9, 5008, 3, 1⟩] (by kernel_rfl), ?_⟩
   exact k1 (K_spec_l10Same _ r) (show ((⟨0, 0, 0, 0, ⟨0, 0, []⟩, [], [], []⟩ : Raft)) = (same r) from by simp only [same, h1, if_true] <;> rfl) (KF.n [(5005, 0), (5006, 1), (5007, 2), (5008, 3)])
 have h1n := raftOk1_nums (raftOk_1 h1)
 refine AW.skip ?_
 refine AW.r ?_
 refine At.a 1 ?_
 refine At.c (spec_l10Copy_spec  r hz) Tryz.call160 true [] [(1160, 0), (1161, 1), (1162, 2), (1163, 3)] [] trivial ?_
 refine At.z 1 ?_
 exact AW.ret (rf (k1 (K_spec_l10Same _ r) (show (r) = (same r) from by simp only [same, h1, if_true] <;> rfl) (KF.n [(1160, 0), (1161, 1), (1162, 2), (1163, 3)])))
theorem spec_l10Same_T_spec  (r : Raft) (hz : SmallR r) (hok : raftOk r = true) : FnSpec Tryz.prog 97 [(raftA r)] [] (.agg [.int .i64 r.id, .int .i64 r.of_, .int .i64 r.role, .int .i64 r.commit, .int .i64 r.hard.term, .int .i64 r.hard.vote, .ref 0, .ref 1, .ref 2, .ref 3]) [.arr 45 6 (r.hard.log.map encEnt), .arr 3 1 (r.yes.map encI), .arr 3 1 (r.next.map encI), .arr 3 1 (r.match_.map encI)] := by have := spec_l10Same_spec r hz; rw [show same r = r from if_pos hok] at this; exact this
theorem spec_l10Same_F_spec  (r : Raft) (hz : SmallR r) (hok : ¬ raftOk r = true) : FnSpec Tryz.prog 97 [(raftA r)] [] (.agg [.int .i64 0, .int .i64 0, .int .i64 0, .int .i64 0, .int .i64 0, .int .i64 0, .ref 0, .ref 1, .ref 2, .ref 3]) [.arr 45 6 [], .arr 3 1 [], .arr 3 1 [], .arr 3 1 []] := by have := spec_l10Same_spec r hz; rw [show same r = zRaft from if_neg hok] at this; exact this
theorem spec_l10Vote_spec  (r : Raft) : FnSpec Tryz.prog 98 [(raftA r)] [] (.agg [.int .i64 1, .int .i64 r.hard.term, .int .i64 r.hard.vote, .int .i64 0, .int .i64 0, .int .i64 0, .int .i64 0, .int .i64 0, .int .i64 0, .str (⟨#[]⟩ : ByteArray)]) [] := by
 refine FnSpec.of 10 Tryz.func98 rfl Tryz.ntmps98 (by simp) (AW.weakK ?_)
 refine AW.q 2 ?_
 refine AW.q 8 ?_
 exact AW.ret (rf (KF.n []))
def K_spec_l10Put (rs : List ResultVar) (r : Raft) (e : Ent) (recs : List Rec) (w0_ : Raft) (w1_ : List Rec) : Exit → Sg → Prop := KF Tryz.prog 5 rs (.tup [.agg [.int .i64 w0_.id, .int .i64 w0_.of_, .int .i64 w0_.role, .int .i64 w0_.commit, .int .i64 w0_.hard.term, .int .i64 w0_.hard.vote, .ref 5, .ref 1, .ref 2, .ref 3], .ref 6]) [.arr 45 6 (r.hard.log.map encEnt), .arr 3 1 (r.yes.map encI), .arr 3 1 (r.next.map encI), .arr 3 1 (r.match_.map encI), .dead, .arr 45 6 (w0_.hard.log.map encEnt), .arr 47 10 (w1_.map encRec)]
theorem spec_l10Put_spec  (r : Raft) (e : Ent) (recs : List Rec) (hl : r.hard.log.length ≤ 1048576) (hr : recs.length ≤ 1048576) : FnSpec Tryz.prog 105 [.agg [.int .i64 r.id, .int .i64 r.of_, .int .i64 r.role, .int .i64 r.commit, .int .i64 r.hard.term, .int .i64 r.hard.vote, .ref 0, .ref 1, .ref 2, .ref 3], .agg [.int .i64 e.term, .int .i64 e.cmd.kind, .int .i64 e.cmd.release, .int .i64 e.cmd.node, .int .i64 e.cmd.size, .str e.cmd.digest], .ref 4] [.arr 45 6 (r.hard.log.map encEnt), .arr 3 1 (r.yes.map encI), .arr 3 1 (r.next.map encI), .arr 3 1 (r.match_.map encI), .arr 47 10 (recs.map encRec)] (.tup [.agg [.int .i64 r.id, .int .i64 r.of_, .int .i64 r.role, .int .i64 r.commit, .int .i64 r.hard.term, .int .i64 r.hard.vote, .ref 5, .ref 1, .ref 2, .ref 3], .ref 6]) [.arr 45 6 (r.hard.log.map encEnt), .arr 3 1 (r.yes.map encI), .arr 3 1 (r.next.map encI), .arr 3 1 (r.match_.map encI), .dead, .arr 45 6 ((r.hard.log ++ [e]).map encEnt), .arr 47 10 ((recs ++ [(⟨2, 0, 0, ((r.hard.log ++ [e]).length : Int), e⟩ : Rec)]).map encRec)] := by
 refine FnSpec.of 26 Tryz.func105 rfl Tryz.ntmps105 (by simp) (AW.weakK ?_)
 refine AW.q 4 ?_
 refine AW.seq ?_
 refine AW.weak (Sub.nils [⟨true, 106, some 6, 5001, 45, 6⟩, ⟨true, 106, some 7, 5002, 3, 1⟩, ⟨true, 106, some 8, 5003, 3, 1⟩, ⟨true, 106, some 9, 5004, 3, 1⟩] (by kernel_rfl)) ?_
 refine AW.gD Tryz_mix ?_
 refine At.lit0 (t := 24) (d := 8) (e := 45) (es := 6) (bytes := 56) 108 (by kernel_rfl) (by kernel_rfl) (by kernel_rfl) (by kernel_rfl) ?_
 refine At.a 3 ?_
 refine At.apC 12 45 6 56 112 108 0 encEnt ([] : List Ent) r.hard.log (by simp only [List.length_map, List.length_append, List.length_take, List.length_drop, List.length_replicate, List.length_set, List.length_cons, List.length_nil]; omega) (allP_encEnt _) ?_
 refine At.a 1 ?_
 refine At.ll 14 45 6 114 (45, 6) (([e]).map encEnt) ?_
 refine At.apK 15 45 6 56 115 112 114 encEnt r.hard.log ([e]) (by simp only [List.length_map, List.length_append, List.length_take, List.length_drop, List.length_replicate, List.length_set, List.length_cons, List.length_nil]; omega) ?_
 refine At.zD 3 ?_
 refine AW.seq ?_
 refine AW.gD Tryz_mix ?_
 refine At.a 3 ?_
 refine At.c (spec_l10End_spec  (⟨r.id, r.of_, r.role, r.commit, ⟨r.hard.term, r.hard.vote, r.hard.log ++ ([e])⟩, r.yes, r.next, r.match_⟩ : Raft) ) Tryz.call65 false [] [] [(115, 6, ((r.hard.log ++ ([e])).map encEnt)), (1, 1, (r.yes.map encI)), (2, 1, (r.next.map encI)), (3, 1, (r.match_.map encI))] ⟨rfl, ⟨45, ((r.hard.log ++ ([e])).map encEnt), by kernel_rfl, FrzIs.same (allP_encEnt _)⟩, rfl, ⟨3, (r.yes.map encI), by kernel_rfl, FrzIs.same (allP_encI _)⟩, rfl, ⟨3, (r.next.map encI), by kernel_rfl, FrzIs.same (allP_encI _)⟩, rfl, ⟨3, (r.match_.map encI), by kernel_rfl, FrzIs.same (allP_encI _)⟩, trivial⟩ ?_
 refine At.a 2 ?_
 refine At.ll 24 47 10 124 (45, 6) (([(⟨2, 0, 0, ((r.hard.log ++ ([e])).length : Int), e⟩ : Rec)]).map encRec) ?_
 refine At.apK 25 47 10 88 125 4 124 encRec recs ([(⟨2, 0, 0, ((r.hard.log ++ ([e])).length : Int), e⟩ : Rec)]) (by simp only [List.length_map, List.length_append, List.length_take, List.length_drop, List.length_replicate, List.length_set, List.length_cons, List.length_nil]; omega) ?_
 refine At.zD 2 ?_
 exact AW.ret (rf (k2 (K_spec_l10Put _ r e recs) (show ((⟨r.id, r.of_, r.role, r.commit, ⟨r.hard.term, r.hard.vote, r.hard.log ++ ([e])⟩, r.yes, r.next, r.match_⟩ : Raft)) = (({ r with hard := { r.hard with log := r.hard.log ++ [e] } } : Raft)) from by rfl) (show (recs ++ ([(⟨2, 0, 0, ((r.hard.log ++ ([e])).length : Int), e⟩ : Rec)])) = (recs ++ [(⟨2, 0, 0, ((r.hard.log ++ [e]).length : Int), e⟩ : Rec)]) from by rfl) (KF.n [(0, 0), (1, 1), (2, 2), (3, 3), (4, 4), (115, 5), (125, 6)])))
theorem spec_l10Term_spec  (h : Hard) (at_ : Int) (hl : h.log.length ≤ 1048576) : FnSpec Tryz.prog 115 [.agg [.int .i64 h.term, .int .i64 h.vote, .sl false 6 (h.log.map encEnt)], .int .i64 at_] [] (.int .i64 (termAt h.log at_)) [] := by
 refine FnSpec.of 21 Tryz.func115 rfl Tryz.ntmps115 (by simp) (AW.weakK ?_)
 refine AW.q 2 ?_
 refine AW.seq ?_
 refine AW.r ?_
 refine At.a 3 ?_
 by_cases h1 : at_ < 1
 · refine At.sB 7 _ _ (sayT h1) ?_
   refine At.z 6 ?_
   refine AW.cond true (by kernel_rfl) (fun _ => ?_) (fun h => by cases h)
   refine AW.q 1 ?_
   refine AW.ret ?_
   refine ⟨_, Sub.refl _ _, ?_⟩
   refine KF.conv (fun w => .int .i64 w) (fun w => []) (show (0) = (termAt h.log at_) from by unfold termAt; first | (rw [if_pos (by omega)]; done) | (rw [if_neg (by omega), he1]; rfl)) ?_
   exact KF.n []
 refine At.sB 7 _ _ (sayF h1) ?_
 refine At.a 4 ?_
 refine At.sL 11 encEnt h.log ?_
 refine At.z 2 ?_
 refine AW.cD (at_ > (h.log.length : Int)) (fun h2 => ?_) (fun h2 => ?_)
 · refine AW.q 1 ?_
   refine AW.ret ?_
   refine ⟨_, Sub.refl _ _, ?_⟩
   refine KF.conv (fun w => .int .i64 w) (fun w => []) (show (0) = (termAt h.log at_) from by unfold termAt; first | (rw [if_pos (by omega)]; done) | (rw [if_neg (by omega), he1]; rfl)) ?_
   exact KF.n []
 refine AW.skip ?_
 refine AW.r ?_
 refine At.a 4 ?_
 refine At.sI 17 (at_ - 1) (by omega) ?_
 refine At.iSl 24 18 (.tmp 15) (.tmp 17) false 6 (h.log.map encEnt) .i64 (at_ - 1) 45 (by omega) (by simp only [List.length_map]; omega) ?_
 refine At.a 1 ?_
 refine Exists.elim (gE h.log ((at_ - 1).toNat) (by omega)) fun e1 he1 => ?_
 refine At.lVp 3 20 (.tmp 19) false 6 (h.log.map encEnt) ((at_ - 1).toNat) 0 false 1 (encEnt e1) (.int .i64 e1.term) (mapGet he1) ?_
 refine At.z 1 ?_
 refine AW.ret ?_
 refine ⟨_, Sub.refl _ _, ?_⟩
 refine KF.conv (fun w => .int .i64 w) (fun w => []) (show (e1.term) = (termAt h.log at_) from by unfold termAt; first | (rw [if_pos (by omega)]; done) | (rw [if_neg (by omega), he1]; rfl)) ?_
 exact KF.n []
theorem spec_l1Min_spec  (a : Int) (b : Int) : FnSpec Tryz.prog 111 [.int .i64 a, .int .i64 b] [] (.int .i64 (min a b)) [] := by
 refine FnSpec.of 10 Tryz.func111 rfl Tryz.ntmps111 (by simp) (AW.weakK ?_)
 refine AW.q 1 ?_
 refine AW.seq ?_
 refine AW.q 3 ?_
 refine AW.cD (a < b) (fun h1 => ?_) (fun h1 => ?_)
 · refine AW.q 2 ?_
   refine AW.ret ?_
   refine ⟨_, Sub.refl _ _, ?_⟩
   refine KF.conv (fun w => .int .i64 w) (fun w => []) (show (a) = (min a b) from by omega) ?_
   exact KF.n []
 refine AW.skip ?_
 refine AW.q 2 ?_
 refine AW.ret ?_
 refine ⟨_, Sub.refl _ _, ?_⟩
 refine KF.conv (fun w => .int .i64 w) (fun w => []) (show (b) = (min a b) from by omega) ?_
 exact KF.n []
theorem spec_l10Send_spec  (r : Raft) (i : Int) (hz : SmallR r) (hi : 0 ≤ i ∧ i < r.next.length) (hn : NextOk r) : FnSpec Tryz.prog 112 [(raftA r), .int .i64 i] [] (.agg [.int .i64 ((sendOf r i).to), .int .i64 ((sendOf r i).msg.kind), .int .i64 ((sendOf r i).msg.from_), .int .i64 ((sendOf r i).msg.term), .int .i64 ((sendOf r i).msg.at_), .int .i64 ((sendOf r i).msg.atTerm), .int .i64 ((sendOf r i).msg.commit), .bool ((sendOf r i).msg.yes), .int .i64 ((sendOf r i).msg.release), .int .i64 ((sendOf r i).msg.part), .str ((sendOf r i).msg.bytes), .int .i64 ((sendOf r i).msg.cmd.kind), .int .i64 ((sendOf r i).msg.cmd.release), .int .i64 ((sendOf r i).msg.cmd.node), .int .i64 ((sendOf r i).msg.cmd.size), .str ((sendOf r i).msg.cmd.digest), .ref 0]) [.arr 45 6 (((sendOf r i).msg.entries).map encEnt)] := by
 obtain ⟨z1, z2, z3, z4⟩ := id hz
 refine FnSpec.of 42 Tryz.func112 rfl Tryz.ntmps112 (by simp) (AW.weakK ?_)
 refine AW.q 2 ?_
 refine AW.seq ?_
 refine AW.weak (Sub.nils [⟨true, 104, some 16, 5001, 45, 6⟩] (by kernel_rfl)) ?_
 refine AW.g ?_
 refine At.a 3 ?_
 refine At.iSl 27 10 (.tmp 8) (.tmp 9) false 1 (r.next.map encI) .i64 i 3 (by omega) (by simp only [List.length_map]; omega) ?_
 refine Exists.elim (gE r.next ((i).toNat) (by omega)) fun e1 he1 => ?_
 have hxe1 := hn _ (List.mem_of_getElem? he1)
 refine At.lVp 3 11 (.tmp 10) false 1 (r.next.map encI) ((i).toNat) 0 false 1 (encI e1) (.int .i64 e1) (mapGet he1) ?_
 refine At.a 1 ?_
 refine At.sI 12 (e1 - 1) (by omega) ?_
 refine At.z 1 ?_
 refine AW.seq ?_
 refine AW.gD Tryz_mix ?_
 refine At.a 9 ?_
 refine At.c (spec_l10Term_spec  r.hard (e1 - 1) (by omega)) Tryz.call115 true [] [] [] trivial ?_
 refine At.zD 5 ?_
 refine AW.seq ?_
 refine AW.weak (Sub.nils [⟨true, 106, some 15, 5002, 45, 6⟩] (by kernel_rfl)) ?_
 refine AW.gD Tryz_mix ?_
 refine At.lit0 (t := 24) (d := 26) (e := 45) (es := 6) (bytes := 56) 126 (by kernel_rfl) (by kernel_rfl) (by kernel_rfl) (by kernel_rfl) ?_
 refine At.a 6 ?_
 refine At.sJ 32 ((e1 - 1) + 6) (e1 + 5) (by omega) (by omega) ?_
 refine At.a 1 ?_
 refine At.c (spec_l10End_spec  r ) Tryz.call65 true [] [] [] trivial ?_
 refine At.c (spec_l1Min_spec  (e1 + 5) (r.hard.log.length : Int) ) Tryz.call111 true [] [] [] trivial ?_
 refine At.sliceSl (t := 24) (d := 36) (e := 45) (es := 6) (x := .tmp 29) (lx := some (.tmp 30)) (hx := some (.tmp 35)) (p := false) (xs := (r.hard.log.map encEnt)) (vl := .int .i64 (e1 - 1)) (vh := .int .i64 (min (e1 + 5) (r.hard.log.length : Int))) ((e1 - 1).toNat) ((min (e1 + 5) (r.hard.log.length : Int)).toNat) (((r.hard.log.drop ((e1 - 1).toNat)).take (((min (e1 + 5) (r.hard.log.length : Int)).toNat) - ((e1 - 1).toNat))).map encEnt) (by kernel_rfl) (by kernel_rfl) (by kernel_rfl) (by kernel_rfl) (.inr ⟨_, _, rfl, sayNat (by omega)⟩) (.inr ⟨_, _, rfl, sayNat (by omega)⟩) (by omega) (by simp only [List.length_map]; omega) (by simp [List.map_take, List.map_drop]) ?_
 refine At.append (t := 24) (d := 37) (e := 45) (es := 6) (bytes := 56) (s := .tmp 26) (x := .tmp 36) (S := .ref 126) (T := .sl false 6 (((r.hard.log.drop ((e1 - 1).toNat)).take (((min (e1 + 5) (r.hard.log.length : Int)).toNat) - ((e1 - 1).toNat))).map encEnt)) (xs := []) (ys := (((r.hard.log.drop ((e1 - 1).toNat)).take (((min (e1 + 5) (r.hard.log.length : Int)).toNat) - ((e1 - 1).toNat))).map encEnt)) 137 [126] [] (((r.hard.log.drop ((e1 - 1).toNat)).take (((min (e1 + 5) (r.hard.log.length : Int)).toNat) - ((e1 - 1).toNat))).map encEnt) (by kernel_rfl) (by kernel_rfl) (by kernel_rfl) (by kernel_rfl) ⟨by kernel_rfl, rfl⟩ ⟨rfl, rfl, (allP_encEnt _), rfl⟩ (by kernel_rfl) (by kernel_rfl) (by simp) (by simp only [List.length_map, List.length_append, List.length_take, List.length_drop, List.length_replicate, List.length_set, List.length_cons, List.length_nil]; omega) (by simp only [List.length_map, List.length_append, List.length_take, List.length_drop, List.length_replicate, List.length_set, List.length_cons, List.length_nil]; omega) ?_
 refine At.zD 2 ?_
 refine AW.q 4 ?_
 refine AW.ret ?_
 refine ⟨_, Sub.refl _ _, ?_⟩
 refine KF.conv (fun w => .agg [.int .i64 w.to, .int .i64 w.msg.kind, .int .i64 w.msg.from_, .int .i64 w.msg.term, .int .i64 w.msg.at_, .int .i64 w.msg.atTerm, .int .i64 w.msg.commit, .bool w.msg.yes, .int .i64 w.msg.release, .int .i64 w.msg.part, .str w.msg.bytes, .int .i64 w.msg.cmd.kind, .int .i64 w.msg.cmd.release, .int .i64 w.msg.cmd.node, .int .i64 w.msg.cmd.size, .str w.msg.cmd.digest, .ref 0]) (fun w => [.arr 45 6 (w.msg.entries.map encEnt)]) (show ((⟨i, ⟨3, r.id, r.hard.term, e1 - 1, termAt r.hard.log (e1 - 1), r.commit, false, 0, 0, (⟨#[]⟩ : ByteArray), ⟨0, 0, 0, 0, (⟨#[]⟩ : ByteArray)⟩, (r.hard.log.drop ((e1 - 1).toNat)).take (((min (e1 + 5) (r.hard.log.length : Int)).toNat) - ((e1 - 1).toNat))⟩⟩ : Out)) = (sendOf r i) from by simp only [sendOf, nextOf, he1, Option.getD_some]; rw [takeMin _ _ 6 _ (by omega)]; rfl) ?_
 exact KF.n [(137, 0)]
theorem spec_l10SendAll_spec  (r : Raft) (hz : SmallR r) (ho : 0 ≤ r.of_ ∧ r.of_ ≤ 5) (hx : r.of_ ≤ r.next.length) (hn : NextOk r) : FnSpec Tryz.prog 83 [(raftA r)] [] (.ref 0) [.arr 51 17 ((sendAll r).map encOut)] := by
 obtain ⟨z1, z2, z3, z4⟩ := id hz
 refine FnSpec.of 23 Tryz.func83 rfl Tryz.ntmps83 (by simp) (AW.weakK ?_)
 refine AW.q 2 ?_
 refine AW.r ?_
 refine At.lit0 (t := 38) (d := 5) (e := 51) (es := 17) (bytes := 168) 105 (by kernel_rfl) (by kernel_rfl) (by kernel_rfl) (by kernel_rfl) ?_
 refine At.z 1 ?_
 refine AW.seq ?_
 refine AW.q 1 ?_
 refine AW.block ?_
 refine AW.loopW (fun (x : Nat × List Out) => match x with | (k, o) => Go.Sy.mk [.un, .ptr 101 0 0, .un, .ref 105, .int .i64 (k : Int)] [(101, .box 29 [.int .i64 r.id, .int .i64 r.of_, .int .i64 r.role, .int .i64 r.commit, .int .i64 r.hard.term, .int .i64 r.hard.vote, .sl false 6 (r.hard.log.map encEnt), .sl false 1 (r.yes.map encI), .sl false 1 (r.next.map encI), .sl false 1 (r.match_.map encI)]), (105, .arr 51 17 (o.map encOut))]) (fun (x : Nat × List Out) => match x with | (k, o) => (k : Int) ≤ r.of_ ∧ o = sendUp r k) (fun (x : Nat × List Out) => match x with | (k, o) => r.of_.toNat - k) (0, []) ⟨by omega, by simp [sendUp]⟩ (Sub.o [(101, 101), (105, 105)] [false, true, false, true, true]) ?_
 rintro ⟨k, o⟩ ⟨hk, hR⟩
 have hlen := sendUp_len r k
 have hlen2 := congrArg List.length hR
 try rw [List.length_append] at hlen2
 refine AW.seq ?_
 refine AW.q 4 ?_
 refine AW.cD ((k : Int) < r.of_) (fun h1 => ?_) (fun h1 => ?_)
 · refine AW.skip ?_
   refine AW.seq ?_
   refine AW.block ?_
   refine AW.q 4 ?_
   refine AW.cU (k : Int) r.id (fun h2 => ?_) (fun h2 => ?_)
   · refine AW.g ?_
     refine At.a 3 ?_
     refine At.c (spec_l10Send_spec  r (k : Int) hz (by omega) hn) Tryz.call112 true [] [(1380, 0)] [] trivial ?_
     refine At.lk 20 51 17 120 (45, 6) [1380] (([(sendOf r (k : Int))]).map encOut) [(45, 6, (((sendOf r (k : Int)).msg.entries).map encEnt))] (by intro p hp; simp only [List.mem_cons, List.not_mem_nil, or_false] at hp; subst hp; all_goals first | exact flatEnts | exact flatInts | (intro x hx; cases hx)) ?_
     refine At.apK 21 51 17 168 121 105 120 encOut o ([(sendOf r (k : Int))]) (by simp only [List.length_map, List.length_append, List.length_take, List.length_drop, List.length_replicate, List.length_set, List.length_cons, List.length_nil]; omega) ?_
     refine At.z 1 ?_
     refine AW.g ?_
     refine At.a 2 ?_
     refine At.sI 11 ((k : Int) + 1) (by omega) ?_
     refine At.z 1 ?_
     exact ⟨(k + 1, (o ++ ([(sendOf r (k : Int))]))), ⟨by omega, by rw [hR, sendUp, if_neg (by grind)]⟩, (by simp only; omega), Sub.o [(101, 101), (121, 105)] [false, true, false, true, true]⟩
   refine AW.skip ?_
   refine AW.g ?_
   refine At.a 2 ?_
   refine At.sI 11 ((k : Int) + 1) (by omega) ?_
   refine At.z 1 ?_
   exact ⟨(k + 1, o), ⟨by omega, by rw [hR, sendUp, if_pos (by grind)]; simp⟩, (by simp only; omega), Sub.o [(101, 101), (105, 105)] [false, true, false, true, true]⟩
 refine AW.exit ?_
 refine AW.q 2 ?_
 refine AW.ret ?_
 refine ⟨_, Sub.refl _ _, ?_⟩
 refine KF.conv (fun w => .ref 0) (fun w => [.arr 51 17 (w.map encOut)]) (show (o) = (sendAll r) from by rw [hR, sendAll, show r.of_.toNat = k from by omega]) ?_
 exact KF.n [(105, 0)]
def K_spec_l10Lead_T (rs : List ResultVar) (r : Raft) (recs : List Rec) (w0_ : Raft) (w1_ : List Rec) (w2_ : List Out) : Exit → Sg → Prop := KF Tryz.prog 5 rs (.tup [.agg [.int .i64 w0_.id, .int .i64 w0_.of_, .int .i64 w0_.role, .int .i64 w0_.commit, .int .i64 w0_.hard.term, .int .i64 w0_.hard.vote, .ref 5, .ref 6, .ref 7, .ref 8], .ref 9, .ref 10]) [.arr 45 6 (r.hard.log.map encEnt), .arr 3 1 (r.yes.map encI), .arr 3 1 (r.next.map encI), .arr 3 1 (r.match_.map encI), .dead, .arr 45 6 (w0_.hard.log.map encEnt), .arr 3 1 (w0_.yes.map encI), .arr 3 1 (w0_.next.map encI), .arr 3 1 (w0_.match_.map encI), .arr 47 10 (w1_.map encRec), .arr 51 17 (w2_.map encOut)]
theorem spec_l10Lead_T_spec  (r : Raft) (recs : List Rec) (hz : SmallR r) (ho : 0 ≤ r.of_ ∧ r.of_ ≤ 5) (hi : 0 ≤ r.id ∧ r.id < r.of_) (hr : recs.length ≤ 1000) (hlt : r.hard.log.length < 80) : FnSpec Tryz.prog 99 [.agg [.int .i64 r.id, .int .i64 r.of_, .int .i64 r.role, .int .i64 r.commit, .int .i64 r.hard.term, .int .i64 r.hard.vote, .ref 0, .ref 1, .ref 2, .ref 3], .ref 4] [.arr 45 6 (r.hard.log.map encEnt), .arr 3 1 (r.yes.map encI), .arr 3 1 (r.next.map encI), .arr 3 1 (r.match_.map encI), .arr 47 10 (recs.map encRec)] (.tup [.agg [.int .i64 ((leadR r).id), .int .i64 ((leadR r).of_), .int .i64 ((leadR r).role), .int .i64 ((leadR r).commit), .int .i64 ((leadR r).hard.term), .int .i64 ((leadR r).hard.vote), .ref 5, .ref 6, .ref 7, .ref 8], .ref 9, .ref 10]) [.arr 45 6 (r.hard.log.map encEnt), .arr 3 1 (r.yes.map encI), .arr 3 1 (r.next.map encI), .arr 3 1 (r.match_.map encI), .dead, .arr 45 6 (((leadR r).hard.log).map encEnt), .arr 3 1 (((leadR r).yes).map encI), .arr 3 1 (((leadR r).next).map encI), .arr 3 1 (((leadR r).match_).map encI), .arr 47 10 ((recs ++ leadRecs r).map encRec), .arr 51 17 ((sendAll (leadR r)).map encOut)] := by
 obtain ⟨z1, z2, z3, z4⟩ := id hz
 refine FnSpec.of 64 Tryz.func99 rfl Tryz.ntmps99 (by simp) (AW.weakK ?_)
 refine AW.q 4 ?_
 refine AW.seq ?_
 refine AW.weak (Sub.nils [⟨true, 104, some 6, 5001, 45, 6⟩, ⟨true, 104, some 7, 5002, 3, 1⟩, ⟨true, 104, some 8, 5003, 3, 1⟩, ⟨true, 104, some 9, 5004, 3, 1⟩] (by kernel_rfl)) ?_
 refine AW.gq 2 ?_
 refine AW.q 2 ?_
 refine AW.seq ?_
 refine AW.weak (Sub.nils [⟨true, 102, some 7, 5005, 3, 1⟩] (by kernel_rfl)) ?_
 refine AW.g ?_
 refine At.lit0 (t := 27) (d := 10) (e := 3) (es := 1) (bytes := 8) 110 (by kernel_rfl) (by kernel_rfl) (by kernel_rfl) (by kernel_rfl) ?_
 refine At.z 2 ?_
 refine AW.r ?_
 refine At.lit0 (t := 27) (d := 12) (e := 3) (es := 1) (bytes := 8) 112 (by kernel_rfl) (by kernel_rfl) (by kernel_rfl) (by kernel_rfl) ?_
 refine At.z 2 ?_
 refine AW.seq ?_
 refine AW.q 1 ?_
 refine AW.block ?_
 refine AW.loopW (fun (k : Nat) => Go.Sy.mk [.un, .ref 4, .ptr 102 0 0, .un, .ptr 104 0 0, .un, .un, .int .i64 (k : Int)] [(0, .arr 45 6 (r.hard.log.map encEnt)), (1, .arr 3 1 (r.yes.map encI)), (2, .arr 3 1 (r.next.map encI)), (3, .arr 3 1 (r.match_.map encI)), (4, .arr 47 10 (recs.map encRec)), (102, .box 29 [.int .i64 r.id, .int .i64 r.of_, .int .i64 3, .int .i64 r.commit, .int .i64 r.hard.term, .int .i64 r.hard.vote, .ref 0, .ref 5005, .ref 110, .ref 112]), (104, .box 29 [.int .i64 0, .int .i64 0, .int .i64 0, .int .i64 0, .int .i64 0, .int .i64 0, .ref 5001, .ref 5002, .ref 5003, .ref 5004]), (110, .arr 3 1 ((List.replicate k ((r.hard.log.length : Int) + 1)).map encI)), (112, .arr 3 1 ((List.replicate k (0 : Int)).map encI)), (5001, .arr 45 6 []), (5002, .arr 3 1 []), (5003, .arr 3 1 []), (5004, .arr 3 1 []), (5005, .arr 3 1 [])]) (fun (k : Nat) => k ≤ r.of_.toNat) (fun (k : Nat) => r.of_.toNat - k) 0 (by omega) (Sub.o [(0, 0), (1, 1), (2, 2), (3, 3), (4, 4), (102, 102), (104, 104), (110, 110), (112, 112), (5001, 5001), (5002, 5002), (5003, 5003), (5004, 5004), (5005, 5005)] [false, true, true, false, true, false, false, true]) ?_
 rintro k hk
 refine AW.seq ?_
 refine AW.q 4 ?_
 refine AW.cD ((k : Int) < r.of_) (fun h1 => ?_) (fun h1 => ?_)
 · refine AW.skip ?_
   refine AW.seq ?_
   refine AW.block ?_
   refine AW.seq ?_
   refine AW.gD Tryz_mix ?_
   refine At.a 3 ?_
   refine At.c (spec_l10End_spec  (⟨r.id, r.of_, 3, r.commit, r.hard, [], List.replicate k ((r.hard.log.length : Int) + 1), List.replicate k (0 : Int)⟩ : Raft) ) Tryz.call65 false [] [] [(0, 6, (r.hard.log.map encEnt)), (5005, 1, []), (110, 1, ((List.replicate k ((r.hard.log.length : Int) + 1)).map encI)), (112, 1, ((List.replicate k (0 : Int)).map encI))] ⟨rfl, ⟨45, (r.hard.log.map encEnt), by kernel_rfl, FrzIs.same (allP_encEnt _)⟩, rfl, ⟨3, [], by kernel_rfl, FrzIs.same (fun _ h => by cases h)⟩, rfl, ⟨3, ((List.replicate k ((r.hard.log.length : Int) + 1)).map encI), by kernel_rfl, FrzIs.same (allP_encI _)⟩, rfl, ⟨3, ((List.replicate k (0 : Int)).map encI), by kernel_rfl, FrzIs.same (allP_encI _)⟩, trivial⟩ ?_
   refine At.a 1 ?_
   refine At.sI 24 ((r.hard.log.length : Int) + 1) (by omega) ?_
   refine At.ll 25 3 1 125 (45, 6) (([(r.hard.log.length : Int) + 1]).map encI) ?_
   refine At.append (t := 27) (d := 26) (e := 3) (es := 1) (bytes := 8) (s := .tmp 21) (x := .tmp 25) (S := .ref 110) (T := .ref 125) (xs := ((List.replicate k ((r.hard.log.length : Int) + 1)).map encI)) (ys := (([(r.hard.log.length : Int) + 1]).map encI)) 126 [110] [125] ((List.replicate (k + 1) ((r.hard.log.length : Int) + 1)).map encI) (by kernel_rfl) (by kernel_rfl) (by kernel_rfl) (by kernel_rfl) ⟨by kernel_rfl, rfl⟩ ⟨by kernel_rfl, .inr rfl⟩ (by kernel_rfl) (by kernel_rfl) (by rw [List.replicate_succ', List.map_append]; try rfl) (by simp only [List.length_map, List.length_append, List.length_take, List.length_drop, List.length_replicate, List.length_set, List.length_cons, List.length_nil]; omega) (by simp only [List.length_map, List.length_append, List.length_take, List.length_drop, List.length_replicate, List.length_set, List.length_cons, List.length_nil]; omega) ?_
   refine At.zD 2 ?_
   refine AW.g ?_
   refine At.a 2 ?_
   refine At.ll 30 3 1 130 (45, 6) (([0]).map encI) ?_
   refine At.append (t := 27) (d := 31) (e := 3) (es := 1) (bytes := 8) (s := .tmp 29) (x := .tmp 30) (S := .ref 112) (T := .ref 130) (xs := ((List.replicate k (0 : Int)).map encI)) (ys := (([0]).map encI)) 131 [112] [130] ((List.replicate (k + 1) (0 : Int)).map encI) (by kernel_rfl) (by kernel_rfl) (by kernel_rfl) (by kernel_rfl) ⟨by kernel_rfl, rfl⟩ ⟨by kernel_rfl, .inr rfl⟩ (by kernel_rfl) (by kernel_rfl) (by rw [List.replicate_succ', List.map_append]; try rfl) (by simp only [List.length_map, List.length_append, List.length_take, List.length_drop, List.length_replicate, List.length_set, List.length_cons, List.length_nil]; omega) (by simp only [List.length_map, List.length_append, List.length_take, List.length_drop, List.length_replicate, List.length_set, List.length_cons, List.length_nil]; omega) ?_
   refine At.z 2 ?_
   refine AW.g ?_
   refine At.a 2 ?_
   refine At.sI 19 ((k : Int) + 1) (by omega) ?_
   refine At.z 1 ?_
   exact ⟨k + 1, (by omega), (by omega), Sub.o [(0, 0), (1, 1), (2, 2), (3, 3), (4, 4), (102, 102), (104, 104), (126, 110), (131, 112), (5001, 5001), (5002, 5002), (5003, 5003), (5004, 5004), (5005, 5005)] [false, true, true, false, true, false, false, true]⟩
 refine AW.exit ?_
 refine AW.seq ?_
 refine AW.r ?_
 refine At.a 1 ?_
 refine At.c (spec_l10End_spec  (⟨r.id, r.of_, 3, r.commit, r.hard, [], List.replicate k ((r.hard.log.length : Int) + 1), List.replicate k (0 : Int)⟩ : Raft) ) Tryz.call65 false [] [] [(0, 6, (r.hard.log.map encEnt)), (5005, 1, []), (110, 1, ((List.replicate k ((r.hard.log.length : Int) + 1)).map encI)), (112, 1, ((List.replicate k (0 : Int)).map encI))] ⟨rfl, ⟨45, (r.hard.log.map encEnt), by kernel_rfl, FrzIs.same (allP_encEnt _)⟩, rfl, ⟨3, [], by kernel_rfl, FrzIs.same (fun _ h => by cases h)⟩, rfl, ⟨3, ((List.replicate k ((r.hard.log.length : Int) + 1)).map encI), by kernel_rfl, FrzIs.same (allP_encI _)⟩, rfl, ⟨3, ((List.replicate k (0 : Int)).map encI), by kernel_rfl, FrzIs.same (allP_encI _)⟩, trivial⟩ ?_
 refine At.z 1 ?_
 refine AW.condT (decide ((r.hard.log.length : Int) < 80)) (by kernel_rfl) (decide_eq_true (by omega)) ?_
 refine AW.g ?_
 refine At.a 7 ?_
 refine At.c (spec_l10Put_spec  (⟨r.id, r.of_, 3, r.commit, r.hard, [], List.replicate k ((r.hard.log.length : Int) + 1), List.replicate k (0 : Int)⟩ : Raft) (⟨r.hard.term, ⟨1, 0, 0, 0, (⟨#[]⟩ : ByteArray)⟩⟩ : Ent) recs (by omega) (by omega)) Tryz.call105 true [(0, 0), (5005, 1), (110, 2), (112, 3), (4, 4)] [(1880, 5), (1881, 6)] [] trivial ?_
 refine At.z 5 ?_
 refine AW.seq ?_
 refine AW.gD Tryz_mix ?_
 refine At.a 5 ?_
 refine At.c (spec_l10End_spec  (⟨r.id, r.of_, 3, r.commit, ⟨r.hard.term, r.hard.vote, r.hard.log ++ [(⟨r.hard.term, ⟨1, 0, 0, 0, (⟨#[]⟩ : ByteArray)⟩⟩ : Ent)]⟩, [], List.replicate k ((r.hard.log.length : Int) + 1), List.replicate k (0 : Int)⟩ : Raft) ) Tryz.call65 false [] [] [(1880, 6, ((r.hard.log ++ [(⟨r.hard.term, ⟨1, 0, 0, 0, (⟨#[]⟩ : ByteArray)⟩⟩ : Ent)]).map encEnt)), (5005, 1, []), (110, 1, ((List.replicate k ((r.hard.log.length : Int) + 1)).map encI)), (112, 1, ((List.replicate k (0 : Int)).map encI))] ⟨rfl, ⟨45, ((r.hard.log ++ [(⟨r.hard.term, ⟨1, 0, 0, 0, (⟨#[]⟩ : ByteArray)⟩⟩ : Ent)]).map encEnt), by kernel_rfl, FrzIs.same (allP_encEnt _)⟩, rfl, ⟨3, [], by kernel_rfl, FrzIs.same (fun _ h => by cases h)⟩, rfl, ⟨3, ((List.replicate k ((r.hard.log.length : Int) + 1)).map encI), by kernel_rfl, FrzIs.same (allP_encI _)⟩, rfl, ⟨3, ((List.replicate k (0 : Int)).map encI), by kernel_rfl, FrzIs.same (allP_encI _)⟩, trivial⟩ ?_
 refine At.iRf 27 53 (.tmp 48) (.tmp 50) 112 ((List.replicate k (0 : Int)).map encI) .i64 r.id 3 1 (by omega) (by simp only [List.length_map, List.length_append, List.length_take, List.length_drop, List.length_replicate, List.length_set, List.length_cons, List.length_nil]; omega) ?_
 refine Exists.elim (gE (List.replicate k (0 : Int)) ((r.id).toNat) (by simp only [List.length_map, List.length_append, List.length_take, List.length_drop, List.length_replicate, List.length_set, List.length_cons, List.length_nil]; omega)) fun e1 he1 => ?_
 refine At.sEl 3 112 3 1 ((r.id).toNat) 0 (.tmp 53) (.tmp 52) ((List.replicate k (0 : Int)).map encI) (((List.replicate k (0 : Int)).set ((r.id).toNat) ((r.hard.log ++ [(⟨r.hard.term, ⟨1, 0, 0, 0, (⟨#[]⟩ : ByteArray)⟩⟩ : Ent)]).length : Int)).map encI) [.int .i64 ((r.hard.log ++ [(⟨r.hard.term, ⟨1, 0, 0, 0, (⟨#[]⟩ : ByteArray)⟩⟩ : Ent)]).length : Int)] (.int .i64 ((r.hard.log ++ [(⟨r.hard.term, ⟨1, 0, 0, 0, (⟨#[]⟩ : ByteArray)⟩⟩ : Ent)]).length : Int)) (encI e1) (encI ((r.hard.log ++ [(⟨r.hard.term, ⟨1, 0, 0, 0, (⟨#[]⟩ : ByteArray)⟩⟩ : Ent)]).length : Int)) (mapGet he1) setV ?_
 refine At.done rfl ⟨by kernel_rfl, ?_⟩
 refine AW.seq ?_
 refine AW.q 3 ?_
 refine AW.cE r.of_ (1 : Int) (fun h2 => ?_) (fun h2 => ?_)
 · refine AW.g ?_
   refine At.a 1 ?_
   refine At.c (spec_l10End_spec  (⟨r.id, r.of_, 3, r.commit, ⟨r.hard.term, r.hard.vote, r.hard.log ++ [(⟨r.hard.term, ⟨1, 0, 0, 0, (⟨#[]⟩ : ByteArray)⟩⟩ : Ent)]⟩, [], List.replicate k ((r.hard.log.length : Int) + 1), (List.replicate k (0 : Int)).set ((r.id).toNat) ((r.hard.log ++ [(⟨r.hard.term, ⟨1, 0, 0, 0, (⟨#[]⟩ : ByteArray)⟩⟩ : Ent)]).length : Int)⟩ : Raft) ) Tryz.call65 false [] [] [(1880, 6, ((r.hard.log ++ [(⟨r.hard.term, ⟨1, 0, 0, 0, (⟨#[]⟩ : ByteArray)⟩⟩ : Ent)]).map encEnt)), (5005, 1, []), (110, 1, ((List.replicate k ((r.hard.log.length : Int) + 1)).map encI)), (112, 1, (((List.replicate k (0 : Int)).set ((r.id).toNat) ((r.hard.log ++ [(⟨r.hard.term, ⟨1, 0, 0, 0, (⟨#[]⟩ : ByteArray)⟩⟩ : Ent)]).length : Int)).map encI))] ⟨rfl, ⟨45, ((r.hard.log ++ [(⟨r.hard.term, ⟨1, 0, 0, 0, (⟨#[]⟩ : ByteArray)⟩⟩ : Ent)]).map encEnt), by kernel_rfl, FrzIs.same (allP_encEnt _)⟩, rfl, ⟨3, [], by kernel_rfl, FrzIs.same (fun _ h => by cases h)⟩, rfl, ⟨3, ((List.replicate k ((r.hard.log.length : Int) + 1)).map encI), by kernel_rfl, FrzIs.same (allP_encI _)⟩, rfl, ⟨3, (((List.replicate k (0 : Int)).set ((r.id).toNat) ((r.hard.log ++ [(⟨r.hard.term, ⟨1, 0, 0, 0, (⟨#[]⟩ : ByteArray)⟩⟩ : Ent)]).length : Int)).map encI), by kernel_rfl, FrzIs.same (allP_encI _)⟩, trivial⟩ ?_
   refine At.z 2 ?_
   refine AW.seq ?_
   refine AW.gD Tryz_mix ?_
   refine At.a 3 ?_
   refine At.c (spec_l10SendAll_spec  (⟨r.id, r.of_, 3, ((r.hard.log ++ [(⟨r.hard.term, ⟨1, 0, 0, 0, (⟨#[]⟩ : ByteArray)⟩⟩ : Ent)]).length : Int), ⟨r.hard.term, r.hard.vote, r.hard.log ++ [(⟨r.hard.term, ⟨1, 0, 0, 0, (⟨#[]⟩ : ByteArray)⟩⟩ : Ent)]⟩, [], List.replicate k ((r.hard.log.length : Int) + 1), (List.replicate k (0 : Int)).set ((r.id).toNat) ((r.hard.log ++ [(⟨r.hard.term, ⟨1, 0, 0, 0, (⟨#[]⟩ : ByteArray)⟩⟩ : Ent)]).length : Int)⟩ : Raft) (by unfold SmallR; simp only [List.length_append, List.length_set, List.length_replicate, List.length_cons, List.length_nil]; omega) (by dsimp only; omega) (by dsimp only; simp only [List.length_replicate]; omega) (nextOk_rep rfl ⟨by omega, by dsimp only; (try simp only [List.length_append]); omega⟩)) Tryz.call83 false [] [(2260, 0)] [(1880, 6, ((r.hard.log ++ [(⟨r.hard.term, ⟨1, 0, 0, 0, (⟨#[]⟩ : ByteArray)⟩⟩ : Ent)]).map encEnt)), (5005, 1, []), (110, 1, ((List.replicate k ((r.hard.log.length : Int) + 1)).map encI)), (112, 1, (((List.replicate k (0 : Int)).set ((r.id).toNat) ((r.hard.log ++ [(⟨r.hard.term, ⟨1, 0, 0, 0, (⟨#[]⟩ : ByteArray)⟩⟩ : Ent)]).length : Int)).map encI))] ⟨rfl, ⟨45, ((r.hard.log ++ [(⟨r.hard.term, ⟨1, 0, 0, 0, (⟨#[]⟩ : ByteArray)⟩⟩ : Ent)]).map encEnt), by kernel_rfl, FrzIs.same (allP_encEnt _)⟩, rfl, ⟨3, [], by kernel_rfl, FrzIs.same (fun _ h => by cases h)⟩, rfl, ⟨3, ((List.replicate k ((r.hard.log.length : Int) + 1)).map encI), by kernel_rfl, FrzIs.same (allP_encI _)⟩, rfl, ⟨3, (((List.replicate k (0 : Int)).set ((r.id).toNat) ((r.hard.log ++ [(⟨r.hard.term, ⟨1, 0, 0, 0, (⟨#[]⟩ : ByteArray)⟩⟩ : Ent)]).length : Int)).map encI), by kernel_rfl, FrzIs.same (allP_encI _)⟩, trivial⟩ ?_
   refine At.zD 3 ?_
   exact AW.ret (rf (k3 (K_spec_l10Lead_T _ r recs) (show ((⟨r.id, r.of_, 3, ((r.hard.log ++ [(⟨r.hard.term, ⟨1, 0, 0, 0, (⟨#[]⟩ : ByteArray)⟩⟩ : Ent)]).length : Int), ⟨r.hard.term, r.hard.vote, r.hard.log ++ [(⟨r.hard.term, ⟨1, 0, 0, 0, (⟨#[]⟩ : ByteArray)⟩⟩ : Ent)]⟩, [], List.replicate k ((r.hard.log.length : Int) + 1), (List.replicate k (0 : Int)).set ((r.id).toNat) ((r.hard.log ++ [(⟨r.hard.term, ⟨1, 0, 0, 0, (⟨#[]⟩ : ByteArray)⟩⟩ : Ent)]).length : Int)⟩ : Raft)) = (leadR r) from by obtain rfl : k = r.of_.toNat := (by omega); have hlt2 := hlt; simp [leadR, leadRecs, had, put, lead0, noneE, putRec, hlt2, h1, h2]) (show (recs ++ [(⟨2, 0, 0, ((r.hard.log ++ [(⟨r.hard.term, ⟨1, 0, 0, 0, (⟨#[]⟩ : ByteArray)⟩⟩ : Ent)]).length : Int), (⟨r.hard.term, ⟨1, 0, 0, 0, (⟨#[]⟩ : ByteArray)⟩⟩ : Ent)⟩ : Rec)]) = (recs ++ leadRecs r) from by obtain rfl : k = r.of_.toNat := (by omega); have hlt2 := hlt; simp [leadR, leadRecs, had, put, lead0, noneE, putRec, hlt2, h1, h2]) (show (sendAll (⟨r.id, r.of_, 3, ((r.hard.log ++ [(⟨r.hard.term, ⟨1, 0, 0, 0, (⟨#[]⟩ : ByteArray)⟩⟩ : Ent)]).length : Int), ⟨r.hard.term, r.hard.vote, r.hard.log ++ [(⟨r.hard.term, ⟨1, 0, 0, 0, (⟨#[]⟩ : ByteArray)⟩⟩ : Ent)]⟩, [], List.replicate k ((r.hard.log.length : Int) + 1), (List.replicate k (0 : Int)).set ((r.id).toNat) ((r.hard.log ++ [(⟨r.hard.term, ⟨1, 0, 0, 0, (⟨#[]⟩ : ByteArray)⟩⟩ : Ent)]).length : Int)⟩ : Raft)) = (sendAll (leadR r)) from by obtain rfl : k = r.of_.toNat := (by omega); have hlt2 := hlt; simp [leadR, leadRecs, had, put, lead0, noneE, putRec, hlt2, h1, h2]) (KF.n [(0, 0), (1, 1), (2, 2), (3, 3), (4, 4), (1880, 5), (5005, 6), (110, 7), (112, 8), (1881, 9), (2260, 10)])))
 refine AW.skip ?_
 refine AW.seq ?_
 refine AW.gD Tryz_mix ?_
 refine At.a 3 ?_
 refine At.c (spec_l10SendAll_spec  (⟨r.id, r.of_, 3, r.commit, ⟨r.hard.term, r.hard.vote, r.hard.log ++ [(⟨r.hard.term, ⟨1, 0, 0, 0, (⟨#[]⟩ : ByteArray)⟩⟩ : Ent)]⟩, [], List.replicate k ((r.hard.log.length : Int) + 1), (List.replicate k (0 : Int)).set ((r.id).toNat) ((r.hard.log ++ [(⟨r.hard.term, ⟨1, 0, 0, 0, (⟨#[]⟩ : ByteArray)⟩⟩ : Ent)]).length : Int)⟩ : Raft) (by unfold SmallR; simp only [List.length_append, List.length_set, List.length_replicate, List.length_cons, List.length_nil]; omega) (by dsimp only; omega) (by dsimp only; simp only [List.length_replicate]; omega) (nextOk_rep rfl ⟨by omega, by dsimp only; (try simp only [List.length_append]); omega⟩)) Tryz.call83 false [] [(2260, 0)] [(1880, 6, ((r.hard.log ++ [(⟨r.hard.term, ⟨1, 0, 0, 0, (⟨#[]⟩ : ByteArray)⟩⟩ : Ent)]).map encEnt)), (5005, 1, []), (110, 1, ((List.replicate k ((r.hard.log.length : Int) + 1)).map encI)), (112, 1, (((List.replicate k (0 : Int)).set ((r.id).toNat) ((r.hard.log ++ [(⟨r.hard.term, ⟨1, 0, 0, 0, (⟨#[]⟩ : ByteArray)⟩⟩ : Ent)]).length : Int)).map encI))] ⟨rfl, ⟨45, ((r.hard.log ++ [(⟨r.hard.term, ⟨1, 0, 0, 0, (⟨#[]⟩ : ByteArray)⟩⟩ : Ent)]).map encEnt), by kernel_rfl, FrzIs.same (allP_encEnt _)⟩, rfl, ⟨3, [], by kernel_rfl, FrzIs.same (fun _ h => by cases h)⟩, rfl, ⟨3, ((List.replicate k ((r.hard.log.length : Int) + 1)).map encI), by kernel_rfl, FrzIs.same (allP_encI _)⟩, rfl, ⟨3, (((List.replicate k (0 : Int)).set ((r.id).toNat) ((r.hard.log ++ [(⟨r.hard.term, ⟨1, 0, 0, 0, (⟨#[]⟩ : ByteArray)⟩⟩ : Ent)]).length : Int)).map encI), by kernel_rfl, FrzIs.same (allP_encI _)⟩, trivial⟩ ?_
 refine At.zD 3 ?_
 exact AW.ret (rf (k3 (K_spec_l10Lead_T _ r recs) (show ((⟨r.id, r.of_, 3, r.commit, ⟨r.hard.term, r.hard.vote, r.hard.log ++ [(⟨r.hard.term, ⟨1, 0, 0, 0, (⟨#[]⟩ : ByteArray)⟩⟩ : Ent)]⟩, [], List.replicate k ((r.hard.log.length : Int) + 1), (List.replicate k (0 : Int)).set ((r.id).toNat) ((r.hard.log ++ [(⟨r.hard.term, ⟨1, 0, 0, 0, (⟨#[]⟩ : ByteArray)⟩⟩ : Ent)]).length : Int)⟩ : Raft)) = (leadR r) from by obtain rfl : k = r.of_.toNat := (by omega); have hlt2 := hlt; simp [leadR, leadRecs, had, put, lead0, noneE, putRec, hlt2, h1, h2]) (show (recs ++ [(⟨2, 0, 0, ((r.hard.log ++ [(⟨r.hard.term, ⟨1, 0, 0, 0, (⟨#[]⟩ : ByteArray)⟩⟩ : Ent)]).length : Int), (⟨r.hard.term, ⟨1, 0, 0, 0, (⟨#[]⟩ : ByteArray)⟩⟩ : Ent)⟩ : Rec)]) = (recs ++ leadRecs r) from by obtain rfl : k = r.of_.toNat := (by omega); have hlt2 := hlt; simp [leadR, leadRecs, had, put, lead0, noneE, putRec, hlt2, h1, h2]) (show (sendAll (⟨r.id, r.of_, 3, r.commit, ⟨r.hard.term, r.hard.vote, r.hard.log ++ [(⟨r.hard.term, ⟨1, 0, 0, 0, (⟨#[]⟩ : ByteArray)⟩⟩ : Ent)]⟩, [], List.replicate k ((r.hard.log.length : Int) + 1), (List.replicate k (0 : Int)).set ((r.id).toNat) ((r.hard.log ++ [(⟨r.hard.term, ⟨1, 0, 0, 0, (⟨#[]⟩ : ByteArray)⟩⟩ : Ent)]).length : Int)⟩ : Raft)) = (sendAll (leadR r)) from by obtain rfl : k = r.of_.toNat := (by omega); have hlt2 := hlt; simp [leadR, leadRecs, had, put, lead0, noneE, putRec, hlt2, h1, h2]) (KF.n [(0, 0), (1, 1), (2, 2), (3, 3), (4, 4), (1880, 5), (5005, 6), (110, 7), (112, 8), (1881, 9), (2260, 10)])))
def K_spec_l10Lead_F (rs : List ResultVar) (r : Raft) (recs : List Rec) (w0_ : Raft) (w1_ : List Rec) (w2_ : List Out) : Exit → Sg → Prop := KF Tryz.prog 5 rs (.tup [.agg [.int .i64 w0_.id, .int .i64 w0_.of_, .int .i64 w0_.role, .int .i64 w0_.commit, .int .i64 w0_.hard.term, .int .i64 w0_.hard.vote, .ref 0, .ref 5, .ref 6, .ref 7], .ref 4, .ref 8]) [.arr 45 6 (r.hard.log.map encEnt), .arr 3 1 (r.yes.map encI), .arr 3 1 (r.next.map encI), .arr 3 1 (r.match_.map encI), .arr 47 10 (recs.map encRec), .arr 3 1 (w0_.yes.map encI), .arr 3 1 (w0_.next.map encI), .arr 3 1 (w0_.match_.map encI), .arr 51 17 (w2_.map encOut)]
theorem spec_l10Lead_F_spec  (r : Raft) (recs : List Rec) (hz : SmallR r) (ho : 0 ≤ r.of_ ∧ r.of_ ≤ 5) (hi : 0 ≤ r.id ∧ r.id < r.of_) (hr : recs.length ≤ 1000) (hlt : ¬ r.hard.log.length < 80) : FnSpec Tryz.prog 99 [.agg [.int .i64 r.id, .int .i64 r.of_, .int .i64 r.role, .int .i64 r.commit, .int .i64 r.hard.term, .int .i64 r.hard.vote, .ref 0, .ref 1, .ref 2, .ref 3], .ref 4] [.arr 45 6 (r.hard.log.map encEnt), .arr 3 1 (r.yes.map encI), .arr 3 1 (r.next.map encI), .arr 3 1 (r.match_.map encI), .arr 47 10 (recs.map encRec)] (.tup [.agg [.int .i64 ((leadR r).id), .int .i64 ((leadR r).of_), .int .i64 ((leadR r).role), .int .i64 ((leadR r).commit), .int .i64 ((leadR r).hard.term), .int .i64 ((leadR r).hard.vote), .ref 0, .ref 5, .ref 6, .ref 7], .ref 4, .ref 8]) [.arr 45 6 (r.hard.log.map encEnt), .arr 3 1 (r.yes.map encI), .arr 3 1 (r.next.map encI), .arr 3 1 (r.match_.map encI), .arr 47 10 (recs.map encRec), .arr 3 1 (((leadR r).yes).map encI), .arr 3 1 (((leadR r).next).map encI), .arr 3 1 (((leadR r).match_).map encI), .arr 51 17 ((sendAll (leadR r)).map encOut)] := by
 obtain ⟨z1, z2, z3, z4⟩ := id hz
 refine FnSpec.of 64 Tryz.func99 rfl Tryz.ntmps99 (by simp) (AW.weakK ?_)
 refine AW.q 4 ?_
 refine AW.seq ?_
 refine AW.weak (Sub.nils [⟨true, 104, some 6, 5001, 45, 6⟩, ⟨true, 104, some 7, 5002, 3, 1⟩, ⟨true, 104, some 8, 5003, 3, 1⟩, ⟨true, 104, some 9, 5004, 3, 1⟩] (by kernel_rfl)) ?_
 refine AW.gq 2 ?_
 refine AW.q 2 ?_
 refine AW.seq ?_
 refine AW.weak (Sub.nils [⟨true, 102, some 7, 5005, 3, 1⟩] (by kernel_rfl)) ?_
 refine AW.g ?_
 refine At.lit0 (t := 27) (d := 10) (e := 3) (es := 1) (bytes := 8) 110 (by kernel_rfl) (by kernel_rfl) (by kernel_rfl) (by kernel_rfl) ?_
 refine At.z 2 ?_
 refine AW.r ?_
 refine At.lit0 (t := 27) (d := 12) (e := 3) (es := 1) (bytes := 8) 112 (by kernel_rfl) (by kernel_rfl) (by kernel_rfl) (by kernel_rfl) ?_
 refine At.z 2 ?_
 refine AW.seq ?_
 refine AW.q 1 ?_
 refine AW.block ?_
 refine AW.loopW (fun (k : Nat) => Go.Sy.mk [.un, .ref 4, .ptr 102 0 0, .un, .ptr 104 0 0, .un, .un, .int .i64 (k : Int)] [(0, .arr 45 6 (r.hard.log.map encEnt)), (1, .arr 3 1 (r.yes.map encI)), (2, .arr 3 1 (r.next.map encI)), (3, .arr 3 1 (r.match_.map encI)), (4, .arr 47 10 (recs.map encRec)), (102, .box 29 [.int .i64 r.id, .int .i64 r.of_, .int .i64 3, .int .i64 r.commit, .int .i64 r.hard.term, .int .i64 r.hard.vote, .ref 0, .ref 5005, .ref 110, .ref 112]), (104, .box 29 [.int .i64 0, .int .i64 0, .int .i64 0, .int .i64 0, .int .i64 0, .int .i64 0, .ref 5001, .ref 5002, .ref 5003, .ref 5004]), (110, .arr 3 1 ((List.replicate k ((r.hard.log.length : Int) + 1)).map encI)), (112, .arr 3 1 ((List.replicate k (0 : Int)).map encI)), (5001, .arr 45 6 []), (5002, .arr 3 1 []), (5003, .arr 3 1 []), (5004, .arr 3 1 []), (5005, .arr 3 1 [])]) (fun (k : Nat) => k ≤ r.of_.toNat) (fun (k : Nat) => r.of_.toNat - k) 0 (by omega) (Sub.o [(0, 0), (1, 1), (2, 2), (3, 3), (4, 4), (102, 102), (104, 104), (110, 110), (112, 112), (5001, 5001), (5002, 5002), (5003, 5003), (5004, 5004), (5005, 5005)] [false, true, true, false, true, false, false, true]) ?_
 rintro k hk
 refine AW.seq ?_
 refine AW.q 4 ?_
 refine AW.cD ((k : Int) < r.of_) (fun h1 => ?_) (fun h1 => ?_)
 · refine AW.skip ?_
   refine AW.seq ?_
   refine AW.block ?_
   refine AW.seq ?_
   refine AW.gD Tryz_mix ?_
   refine At.a 3 ?_
   refine At.c (spec_l10End_spec  (⟨r.id, r.of_, 3, r.commit, r.hard, [], List.replicate k ((r.hard.log.length : Int) + 1), List.replicate k (0 : Int)⟩ : Raft) ) Tryz.call65 false [] [] [(0, 6, (r.hard.log.map encEnt)), (5005, 1, []), (110, 1, ((List.replicate k ((r.hard.log.length : Int) + 1)).map encI)), (112, 1, ((List.replicate k (0 : Int)).map encI))] ⟨rfl, ⟨45, (r.hard.log.map encEnt), by kernel_rfl, FrzIs.same (allP_encEnt _)⟩, rfl, ⟨3, [], by kernel_rfl, FrzIs.same (fun _ h => by cases h)⟩, rfl, ⟨3, ((List.replicate k ((r.hard.log.length : Int) + 1)).map encI), by kernel_rfl, FrzIs.same (allP_encI _)⟩, rfl, ⟨3, ((List.replicate k (0 : Int)).map encI), by kernel_rfl, FrzIs.same (allP_encI _)⟩, trivial⟩ ?_
   refine At.a 1 ?_
   refine At.sI 24 ((r.hard.log.length : Int) + 1) (by omega) ?_
   refine At.ll 25 3 1 125 (45, 6) (([(r.hard.log.length : Int) + 1]).map encI) ?_
   refine At.append (t := 27) (d := 26) (e := 3) (es := 1) (bytes := 8) (s := .tmp 21) (x := .tmp 25) (S := .ref 110) (T := .ref 125) (xs := ((List.replicate k ((r.hard.log.length : Int) + 1)).map encI)) (ys := (([(r.hard.log.length : Int) + 1]).map encI)) 126 [110] [125] ((List.replicate (k + 1) ((r.hard.log.length : Int) + 1)).map encI) (by kernel_rfl) (by kernel_rfl) (by kernel_rfl) (by kernel_rfl) ⟨by kernel_rfl, rfl⟩ ⟨by kernel_rfl, .inr rfl⟩ (by kernel_rfl) (by kernel_rfl) (by rw [List.replicate_succ', List.map_append]; try rfl) (by simp only [List.length_map, List.length_append, List.length_take, List.length_drop, List.length_replicate, List.length_set, List.length_cons, List.length_nil]; omega) (by simp only [List.length_map, List.length_append, List.length_take, List.length_drop, List.length_replicate, List.length_set, List.length_cons, List.length_nil]; omega) ?_
   refine At.zD 2 ?_
   refine AW.g ?_
   refine At.a 2 ?_
   refine At.ll 30 3 1 130 (45, 6) (([0]).map encI) ?_
   refine At.append (t := 27) (d := 31) (e := 3) (es := 1) (bytes := 8) (s := .tmp 29) (x := .tmp 30) (S := .ref 112) (T := .ref 130) (xs := ((List.replicate k (0 : Int)).map encI)) (ys := (([0]).map encI)) 131 [112] [130] ((List.replicate (k + 1) (0 : Int)).map encI) (by kernel_rfl) (by kernel_rfl) (by kernel_rfl) (by kernel_rfl) ⟨by kernel_rfl, rfl⟩ ⟨by kernel_rfl, .inr rfl⟩ (by kernel_rfl) (by kernel_rfl) (by rw [List.replicate_succ', List.map_append]; try rfl) (by simp only [List.length_map, List.length_append, List.length_take, List.length_drop, List.length_replicate, List.length_set, List.length_cons, List.length_nil]; omega) (by simp only [List.length_map, List.length_append, List.length_take, List.length_drop, List.length_replicate, List.length_set, List.length_cons, List.length_nil]; omega) ?_
   refine At.z 2 ?_
   refine AW.g ?_
   refine At.a 2 ?_
   refine At.sI 19 ((k : Int) + 1) (by omega) ?_
   refine At.z 1 ?_
   exact ⟨k + 1, (by omega), (by omega), Sub.o [(0, 0), (1, 1), (2, 2), (3, 3), (4, 4), (102, 102), (104, 104), (126, 110), (131, 112), (5001, 5001), (5002, 5002), (5003, 5003), (5004, 5004), (5005, 5005)] [false, true, true, false, true, false, false, true]⟩
 refine AW.exit ?_
 refine AW.seq ?_
 refine AW.r ?_
 refine At.a 1 ?_
 refine At.c (spec_l10End_spec  (⟨r.id, r.of_, 3, r.commit, r.hard, [], List.replicate k ((r.hard.log.length : Int) + 1), List.replicate k (0 : Int)⟩ : Raft) ) Tryz.call65 false [] [] [(0, 6, (r.hard.log.map encEnt)), (5005, 1, []), (110, 1, ((List.replicate k ((r.hard.log.length : Int) + 1)).map encI)), (112, 1, ((List.replicate k (0 : Int)).map encI))] ⟨rfl, ⟨45, (r.hard.log.map encEnt), by kernel_rfl, FrzIs.same (allP_encEnt _)⟩, rfl, ⟨3, [], by kernel_rfl, FrzIs.same (fun _ h => by cases h)⟩, rfl, ⟨3, ((List.replicate k ((r.hard.log.length : Int) + 1)).map encI), by kernel_rfl, FrzIs.same (allP_encI _)⟩, rfl, ⟨3, ((List.replicate k (0 : Int)).map encI), by kernel_rfl, FrzIs.same (allP_encI _)⟩, trivial⟩ ?_
 refine At.z 1 ?_
 refine AW.condF (decide ((r.hard.log.length : Int) < 80)) (by kernel_rfl) (decide_eq_false (by omega)) ?_
 refine AW.skip ?_
 refine AW.seq ?_
 refine AW.gD Tryz_mix ?_
 refine At.a 5 ?_
 refine At.c (spec_l10End_spec  (⟨r.id, r.of_, 3, r.commit, r.hard, [], List.replicate k ((r.hard.log.length : Int) + 1), List.replicate k (0 : Int)⟩ : Raft) ) Tryz.call65 false [] [] [(0, 6, (r.hard.log.map encEnt)), (5005, 1, []), (110, 1, ((List.replicate k ((r.hard.log.length : Int) + 1)).map encI)), (112, 1, ((List.replicate k (0 : Int)).map encI))] ⟨rfl, ⟨45, (r.hard.log.map encEnt), by kernel_rfl, FrzIs.same (allP_encEnt _)⟩, rfl, ⟨3, [], by kernel_rfl, FrzIs.same (fun _ h => by cases h)⟩, rfl, ⟨3, ((List.replicate k ((r.hard.log.length : Int) + 1)).map encI), by kernel_rfl, FrzIs.same (allP_encI _)⟩, rfl, ⟨3, ((List.replicate k (0 : Int)).map encI), by kernel_rfl, FrzIs.same (allP_encI _)⟩, trivial⟩ ?_
 refine At.iRf 27 53 (.tmp 48) (.tmp 50) 112 ((List.replicate k (0 : Int)).map encI) .i64 r.id 3 1 (by omega) (by simp only [List.length_map, List.length_append, List.length_take, List.length_drop, List.length_replicate, List.length_set, List.length_cons, List.length_nil]; omega) ?_
 refine Exists.elim (gE (List.replicate k (0 : Int)) ((r.id).toNat) (by simp only [List.length_map, List.length_append, List.length_take, List.length_drop, List.length_replicate, List.length_set, List.length_cons, List.length_nil]; omega)) fun e1 he1 => ?_
 refine At.sEl 3 112 3 1 ((r.id).toNat) 0 (.tmp 53) (.tmp 52) ((List.replicate k (0 : Int)).map encI) (((List.replicate k (0 : Int)).set ((r.id).toNat) (r.hard.log.length : Int)).map encI) [.int .i64 (r.hard.log.length : Int)] (.int .i64 (r.hard.log.length : Int)) (encI e1) (encI (r.hard.log.length : Int)) (mapGet he1) setV ?_
 refine At.done rfl ⟨by kernel_rfl, ?_⟩
 refine AW.seq ?_
 refine AW.q 3 ?_
 refine AW.cE r.of_ (1 : Int) (fun h2 => ?_) (fun h2 => ?_)
 · refine AW.g ?_
   refine At.a 1 ?_
   refine At.c (spec_l10End_spec  (⟨r.id, r.of_, 3, r.commit, r.hard, [], List.replicate k ((r.hard.log.length : Int) + 1), (List.replicate k (0 : Int)).set ((r.id).toNat) (r.hard.log.length : Int)⟩ : Raft) ) Tryz.call65 false [] [] [(0, 6, (r.hard.log.map encEnt)), (5005, 1, []), (110, 1, ((List.replicate k ((r.hard.log.length : Int) + 1)).map encI)), (112, 1, (((List.replicate k (0 : Int)).set ((r.id).toNat) (r.hard.log.length : Int)).map encI))] ⟨rfl, ⟨45, (r.hard.log.map encEnt), by kernel_rfl, FrzIs.same (allP_encEnt _)⟩, rfl, ⟨3, [], by kernel_rfl, FrzIs.same (fun _ h => by cases h)⟩, rfl, ⟨3, ((List.replicate k ((r.hard.log.length : Int) + 1)).map encI), by kernel_rfl, FrzIs.same (allP_encI _)⟩, rfl, ⟨3, (((List.replicate k (0 : Int)).set ((r.id).toNat) (r.hard.log.length : Int)).map encI), by kernel_rfl, FrzIs.same (allP_encI _)⟩, trivial⟩ ?_
   refine At.z 2 ?_
   refine AW.seq ?_
   refine AW.gD Tryz_mix ?_
   refine At.a 3 ?_
   refine At.c (spec_l10SendAll_spec  (⟨r.id, r.of_, 3, (r.hard.log.length : Int), r.hard, [], List.replicate k ((r.hard.log.length : Int) + 1), (List.replicate k (0 : Int)).set ((r.id).toNat) (r.hard.log.length : Int)⟩ : Raft) (by unfold SmallR; simp only [List.length_append, List.length_set, List.length_replicate, List.length_cons, List.length_nil]; omega) (by dsimp only; omega) (by dsimp only; simp only [List.length_replicate]; omega) (nextOk_rep rfl ⟨by omega, by dsimp only; (try simp only [List.length_append]); omega⟩)) Tryz.call83 false [] [(2260, 0)] [(0, 6, (r.hard.log.map encEnt)), (5005, 1, []), (110, 1, ((List.replicate k ((r.hard.log.length : Int) + 1)).map encI)), (112, 1, (((List.replicate k (0 : Int)).set ((r.id).toNat) (r.hard.log.length : Int)).map encI))] ⟨rfl, ⟨45, (r.hard.log.map encEnt), by kernel_rfl, FrzIs.same (allP_encEnt _)⟩, rfl, ⟨3, [], by kernel_rfl, FrzIs.same (fun _ h => by cases h)⟩, rfl, ⟨3, ((List.replicate k ((r.hard.log.length : Int) + 1)).map encI), by kernel_rfl, FrzIs.same (allP_encI _)⟩, rfl, ⟨3, (((List.replicate k (0 : Int)).set ((r.id).toNat) (r.hard.log.length : Int)).map encI), by kernel_rfl, FrzIs.same (allP_encI _)⟩, trivial⟩ ?_
   refine At.zD 3 ?_
   exact AW.ret (rf (k3 (K_spec_l10Lead_F _ r recs) (show ((⟨r.id, r.of_, 3, (r.hard.log.length : Int), r.hard, [], List.replicate k ((r.hard.log.length : Int) + 1), (List.replicate k (0 : Int)).set ((r.id).toNat) (r.hard.log.length : Int)⟩ : Raft)) = (leadR r) from by obtain rfl : k = r.of_.toNat := (by omega); have hlt2 := hlt; simp [leadR, leadRecs, had, put, lead0, noneE, putRec, hlt2, h1, h2]) (show (recs) = (recs ++ leadRecs r) from by obtain rfl : k = r.of_.toNat := (by omega); have hlt2 := hlt; simp [leadR, leadRecs, had, put, lead0, noneE, putRec, hlt2, h1, h2]) (show (sendAll (⟨r.id, r.of_, 3, (r.hard.log.length : Int), r.hard, [], List.replicate k ((r.hard.log.length : Int) + 1), (List.replicate k (0 : Int)).set ((r.id).toNat) (r.hard.log.length : Int)⟩ : Raft)) = (sendAll (leadR r)) from by obtain rfl : k = r.of_.toNat := (by omega); have hlt2 := hlt; simp [leadR, leadRecs, had, put, lead0, noneE, putRec, hlt2, h1, h2]) (KF.n [(0, 0), (1, 1), (2, 2), (3, 3), (4, 4), (5005, 5), (110, 6), (112, 7), (2260, 8)])))
 refine AW.skip ?_
 refine AW.seq ?_
 refine AW.gD Tryz_mix ?_
 refine At.a 3 ?_
 refine At.c (spec_l10SendAll_spec  (⟨r.id, r.of_, 3, r.commit, r.hard, [], List.replicate k ((r.hard.log.length : Int) + 1), (List.replicate k (0 : Int)).set ((r.id).toNat) (r.hard.log.length : Int)⟩ : Raft) (by unfold SmallR; simp only [List.length_append, List.length_set, List.length_replicate, List.length_cons, List.length_nil]; omega) (by dsimp only; omega) (by dsimp only; simp only [List.length_replicate]; omega) (nextOk_rep rfl ⟨by omega, by dsimp only; (try simp only [List.length_append]); omega⟩)) Tryz.call83 false [] [(2260, 0)] [(0, 6, (r.hard.log.map encEnt)), (5005, 1, []), (110, 1, ((List.replicate k ((r.hard.log.length : Int) + 1)).map encI)), (112, 1, (((List.replicate k (0 : Int)).set ((r.id).toNat) (r.hard.log.length : Int)).map encI))] ⟨rfl, ⟨45, (r.hard.log.map encEnt), by kernel_rfl, FrzIs.same (allP_encEnt _)⟩, rfl, ⟨3, [], by kernel_rfl, FrzIs.same (fun _ h => by cases h)⟩, rfl, ⟨3, ((List.replicate k ((r.hard.log.length : Int) + 1)).map encI), by kernel_rfl, FrzIs.same (allP_encI _)⟩, rfl, ⟨3, (((List.replicate k (0 : Int)).set ((r.id).toNat) (r.hard.log.length : Int)).map encI), by kernel_rfl, FrzIs.same (allP_encI _)⟩, trivial⟩ ?_
 refine At.zD 3 ?_
 exact AW.ret (rf (k3 (K_spec_l10Lead_F _ r recs) (show ((⟨r.id, r.of_, 3, r.commit, r.hard, [], List.replicate k ((r.hard.log.length : Int) + 1), (List.replicate k (0 : Int)).set ((r.id).toNat) (r.hard.log.length : Int)⟩ : Raft)) = (leadR r) from by obtain rfl : k = r.of_.toNat := (by omega); have hlt2 := hlt; simp [leadR, leadRecs, had, put, lead0, noneE, putRec, hlt2, h1, h2]) (show (recs) = (recs ++ leadRecs r) from by obtain rfl : k = r.of_.toNat := (by omega); have hlt2 := hlt; simp [leadR, leadRecs, had, put, lead0, noneE, putRec, hlt2, h1, h2]) (show (sendAll (⟨r.id, r.of_, 3, r.commit, r.hard, [], List.replicate k ((r.hard.log.length : Int) + 1), (List.replicate k (0 : Int)).set ((r.id).toNat) (r.hard.log.length : Int)⟩ : Raft)) = (sendAll (leadR r)) from by obtain rfl : k = r.of_.toNat := (by omega); have hlt2 := hlt; simp [leadR, leadRecs, had, put, lead0, noneE, putRec, hlt2, h1, h2]) (KF.n [(0, 0), (1, 1), (2, 2), (3, 3), (4, 4), (5005, 5), (110, 6), (112, 7), (2260, 8)])))
theorem spec_l10Asks_spec  (r : Raft) (hz : SmallR r) (ho : 0 ≤ r.of_ ∧ r.of_ ≤ 5) : FnSpec Tryz.prog 84 [(raftA r)] [] (.ref 0) [.arr 51 17 ((asks r).map encOut)] := by
 obtain ⟨z1, z2, z3, z4⟩ := id hz
 refine FnSpec.of 42 Tryz.func84 rfl Tryz.ntmps84 (by simp) (AW.weakK ?_)
 refine AW.q 2 ?_
 refine AW.r ?_
 refine At.lit0 (t := 38) (d := 5) (e := 51) (es := 17) (bytes := 168) 105 (by kernel_rfl) (by kernel_rfl) (by kernel_rfl) (by kernel_rfl) ?_
 refine At.z 1 ?_
 refine AW.seq ?_
 refine AW.q 1 ?_
 refine AW.block ?_
 refine AW.loopW (fun (x : Nat × List Out) => match x with | (k, o) => Go.Sy.mk [.un, .ptr 101 0 0, .un, .ref 105, .int .i64 (k : Int)] [(101, .box 29 [.int .i64 r.id, .int .i64 r.of_, .int .i64 r.role, .int .i64 r.commit, .int .i64 r.hard.term, .int .i64 r.hard.vote, .sl false 6 (r.hard.log.map encEnt), .sl false 1 (r.yes.map encI), .sl false 1 (r.next.map encI), .sl false 1 (r.match_.map encI)]), (105, .arr 51 17 (o.map encOut))]) (fun (x : Nat × List Out) => match x with | (k, o) => (k : Int) ≤ r.of_ ∧ o = askUp r k) (fun (x : Nat × List Out) => match x with | (k, o) => r.of_.toNat - k) (0, []) ⟨by omega, by simp [askUp]⟩ (Sub.o [(101, 101), (105, 105)] [false, true, false, true, true]) ?_
 rintro ⟨k, o⟩ ⟨hk, hR⟩
 have hlen := askUp_len r k
 have hlen2 := congrArg List.length hR
 try rw [List.length_append] at hlen2
 refine AW.seq ?_
 refine AW.q 4 ?_
 refine AW.cD ((k : Int) < r.of_) (fun h1 => ?_) (fun h1 => ?_)
 · refine AW.skip ?_
   refine AW.seq ?_
   refine AW.block ?_
   refine AW.r ?_
   refine At.a 5 ?_
   by_cases h2 : (k : Int) = r.id
   · refine At.sB 16 _ _ (sayUF h2) ?_
     refine At.z 6 ?_
     refine AW.cond false (by kernel_rfl) (fun h => by cases h) (fun _ => ?_)
     refine AW.skip ?_
     refine AW.g ?_
     refine At.a 2 ?_
     refine At.sI 11 ((k : Int) + 1) (by omega) ?_
     refine At.z 1 ?_
     exact ⟨(k + 1, o), ⟨by omega, by rw [hR, askUp, if_pos (by grind)]; simp⟩, (by simp only; omega), Sub.o [(101, 101), (105, 105)] [false, true, false, true, true]⟩
   refine At.sB 16 _ _ (sayUT h2) ?_
   refine At.a 3 ?_
   refine At.c (spec_l7Has_spec  r.yes (k : Int) (by omega)) Tryz.call67 true [] [] [] trivial ?_
   refine At.z 2 ?_
   refine AW.cNB (hasI (k : Int) r.yes) (fun h3 => ?_) (fun h3 => ?_)
   · refine AW.gD Tryz_mix ?_
     refine At.a 8 ?_
     refine At.c (spec_l10End_spec  r ) Tryz.call65 true [] [] [] trivial ?_
     refine At.a 3 ?_
     refine At.c (spec_l10End_spec  r ) Tryz.call65 true [] [] [] trivial ?_
     refine At.c (spec_l10Term_spec  r.hard (r.hard.log.length : Int) (by omega)) Tryz.call115 true [] [] [] trivial ?_
     refine At.a 2 ?_
     refine At.ll 39 51 17 139 (45, 6) (([(⟨(k : Int), ⟨1, r.id, r.hard.term, (r.hard.log.length : Int), termAt r.hard.log (r.hard.log.length : Int), 0, false, 0, 0, (⟨#[]⟩ : ByteArray), ⟨0, 0, 0, 0, (⟨#[]⟩ : ByteArray)⟩, []⟩⟩ : Out)]).map encOut) ?_
     refine At.apK 40 51 17 168 140 105 139 encOut o ([(⟨(k : Int), ⟨1, r.id, r.hard.term, (r.hard.log.length : Int), termAt r.hard.log (r.hard.log.length : Int), 0, false, 0, 0, (⟨#[]⟩ : ByteArray), ⟨0, 0, 0, 0, (⟨#[]⟩ : ByteArray)⟩, []⟩⟩ : Out)]) (by simp only [List.length_map, List.length_append, List.length_take, List.length_drop, List.length_replicate, List.length_set, List.length_cons, List.length_nil]; omega) ?_
     refine At.zD 1 ?_
     refine AW.g ?_
     refine At.a 2 ?_
     refine At.sI 11 ((k : Int) + 1) (by omega) ?_
     refine At.z 1 ?_
     exact ⟨(k + 1, (o ++ ([(⟨(k : Int), ⟨1, r.id, r.hard.term, (r.hard.log.length : Int), termAt r.hard.log (r.hard.log.length : Int), 0, false, 0, 0, (⟨#[]⟩ : ByteArray), ⟨0, 0, 0, 0, (⟨#[]⟩ : ByteArray)⟩, []⟩⟩ : Out)]))), ⟨by omega, by rw [hR, askUp, if_neg (by grind)]; (try rw [termAt_end]); first | rfl | exact List.append_assoc _ _ _⟩, (by simp only; omega), Sub.o [(101, 101), (140, 105)] [false, true, false, true, true]⟩
   refine AW.skip ?_
   refine AW.g ?_
   refine At.a 2 ?_
   refine At.sI 11 ((k : Int) + 1) (by omega) ?_
   refine At.z 1 ?_
   exact ⟨(k + 1, o), ⟨by omega, by rw [hR, askUp, if_pos (by grind)]; simp⟩, (by simp only; omega), Sub.o [(101, 101), (105, 105)] [false, true, false, true, true]⟩
 refine AW.exit ?_
 refine AW.q 2 ?_
 refine AW.ret ?_
 refine ⟨_, Sub.refl _ _, ?_⟩
 refine KF.conv (fun w => .ref 0) (fun w => [.arr 51 17 (w.map encOut)]) (show (o) = (asks r) from by rw [hR, asks, show r.of_.toNat = k from by omega]) ?_
 exact KF.n [(105, 0)]
def K_spec_RaftStand (rs : List ResultVar) (r : Raft) (w0_ : Raft) (w1_ : List Rec) (w2_ : List Out) : Exit → Sg → Prop := KF Tryz.prog 0 rs (.tup [.agg [.int .i64 w0_.id, .int .i64 w0_.of_, .int .i64 w0_.role, .int .i64 w0_.commit, .int .i64 w0_.hard.term, .int .i64 w0_.hard.vote, .ref 0, .ref 1, .ref 2, .ref 3], .ref 4, .ref 5]) [.arr 45 6 (w0_.hard.log.map encEnt), .arr 3 1 (w0_.yes.map encI), .arr 3 1 (w0_.next.map encI), .arr 3 1 (w0_.match_.map encI), .arr 47 10 (w1_.map encRec), .arr 51 17 (w2_.map encOut)]
theorem spec_RaftStand_spec  (r : Raft) (hz : SmallR r) : FnSpec Tryz.prog 30 [(raftA r)] [] (.tup [.agg [.int .i64 (((stands r).1).id), .int .i64 (((stands r).1).of_), .int .i64 (((stands r).1).role), .int .i64 (((stands r).1).commit), .int .i64 (((stands r).1).hard.term), .int .i64 (((stands r).1).hard.vote), .ref 0, .ref 1, .ref 2, .ref 3], .ref 4, .ref 5]) [.arr 45 6 ((((stands r).1).hard.log).map encEnt), .arr 3 1 ((((stands r).1).yes).map encI), .arr 3 1 ((((stands r).1).next).map encI), .arr 3 1 ((((stands r).1).match_).map encI), .arr 47 10 (((stands r).2.1).map encRec), .arr 51 17 (((stands r).2.2).map encOut)] := by
 obtain ⟨z1, z2, z3, z4⟩ := id hz
 refine FnSpec.of 58 Tryz.func30 rfl Tryz.ntmps30 (by simp) (AW.weakK ?_)
 by_cases hok : raftOk r = true
 · have hokn := raftOk1_nums (raftOk_1 hok)
   refine AW.q 4 ?_
   refine AW.seq ?_
   refine AW.weak (Sub.nils [⟨true, 102, some 6, 5001, 45, 6⟩, ⟨true, 102, some 7, 5002, 3, 1⟩, ⟨true, 102, some 8, 5003, 3, 1⟩, ⟨true, 102, some 9, 5004, 3, 1⟩] (by kernel_rfl)) ?_
   refine AW.g ?_
   refine At.a 1 ?_
   refine At.c (spec_l10Same_T_spec  r (by exact hz) hok) Tryz.call97 true [] [(1160, 0), (1161, 1), (1162, 2), (1163, 3)] [] trivial ?_
   refine At.lit0 (t := 37) (d := 9) (e := 47) (es := 10) (bytes := 88) 109 (by kernel_rfl) (by kernel_rfl) (by kernel_rfl) (by kernel_rfl) ?_
   refine At.z 3 ?_
   refine AW.seq ?_
   refine AW.r ?_
   refine At.a 1 ?_
   refine At.c (spec_RaftOk_spec  r (by exact hz)) Tryz.call18 true [] [] [] trivial ?_
   refine At.a 2 ?_
   refine At.sB 13 (!(raftOk r)) false (sayB (by rw [show (raftOk r) = true from hok]; rfl)) ?_
   refine At.a 5 ?_
   by_cases h1 : r.role = 3
   · refine At.sB 18 _ _ (sayET h1) ?_
     refine At.z 5 ?_
     refine AW.cond true (by kernel_rfl) (fun _ => ?_) (fun h => by cases h)
     refine AW.r ?_
     refine At.a 2 ?_
     refine At.lit0 (t := 38) (d := 26) (e := 51) (es := 17) (bytes := 168) 126 (by kernel_rfl) (by kernel_rfl) (by kernel_rfl) (by kernel_rfl) ?_
     refine At.z 3 ?_
     exact AW.ret (rf (k3 (K_spec_RaftStand _ r) (show (r) = ((stands r).1) from by have q : ¬ (raftOk r = true ∧ r.role ≠ 3 ∧ r.hard.term ≠ 1000000000) := (by rintro ⟨_, q1, q2⟩; omega); rw [stands, if_neg q]; (try simp [same, hok])) (show ([]) = ((stands r).2.1) from by have q : ¬ (raftOk r = true ∧ r.role ≠ 3 ∧ r.hard.term ≠ 1000000000) := (by rintro ⟨_, q1, q2⟩; omega); rw [stands, if_neg q]; (try simp [same, hok])) (show ([]) = ((stands r).2.2) from by have q : ¬ (raftOk r = true ∧ r.role ≠ 3 ∧ r.hard.term ≠ 1000000000) := (by rintro ⟨_, q1, q2⟩; omega); rw [stands, if_neg q]; (try simp [same, hok])) (KF.n [(1160, 0), (1161, 1), (1162, 2), (1163, 3), (109, 4), (126, 5)])))
   refine At.sB 18 _ _ (sayEF h1) ?_
   refine At.z 5 ?_
   refine AW.cE r.hard.term (1000000000 : Int) (fun h2 => ?_) (fun h2 => ?_)
   · refine AW.r ?_
     refine At.a 2 ?_
     refine At.lit0 (t := 38) (d := 26) (e := 51) (es := 17) (bytes := 168) 126 (by kernel_rfl) (by kernel_rfl) (by kernel_rfl) (by kernel_rfl) ?_
     refine At.z 3 ?_
     exact AW.ret (rf (k3 (K_spec_RaftStand _ r) (show (r) = ((stands r).1) from by have q : ¬ (raftOk r = true ∧ r.role ≠ 3 ∧ r.hard.term ≠ 1000000000) := (by rintro ⟨_, q1, q2⟩; omega); rw [stands, if_neg q]; (try simp [same, hok])) (show ([]) = ((stands r).2.1) from by have q : ¬ (raftOk r = true ∧ r.role ≠ 3 ∧ r.hard.term ≠ 1000000000) := (by rintro ⟨_, q1, q2⟩; omega); rw [stands, if_neg q]; (try simp [same, hok])) (show ([]) = ((stands r).2.2) from by have q : ¬ (raftOk r = true ∧ r.role ≠ 3 ∧ r.hard.term ≠ 1000000000) := (by rintro ⟨_, q1, q2⟩; omega); rw [stands, if_neg q]; (try simp [same, hok])) (KF.n [(1160, 0), (1161, 1), (1162, 2), (1163, 3), (109, 4), (126, 5)])))
   refine AW.skip ?_
   refine AW.r ?_
   refine At.a 4 ?_
   refine At.sI 30 (r.hard.term + 1) (by omega) ?_
   refine At.z 3 ?_
   refine AW.r ?_
   refine At.a 3 ?_
   refine At.sI 35 (r.id + 1) (by omega) ?_
   refine At.z 3 ?_
   refine AW.q 2 ?_
   refine AW.q 2 ?_
   refine AW.seq ?_
   refine AW.weak (Sub.nils [⟨true, 105, some 7, 5005, 3, 1⟩] (by kernel_rfl)) ?_
   refine AW.g ?_
   refine At.a 2 ?_
   refine At.c (spec_l10Vote_spec  (⟨r.id, r.of_, 2, r.commit, ⟨r.hard.term + 1, r.id + 1, r.hard.log⟩, [], r.next, r.match_⟩ : Raft) ) Tryz.call98 false [] [] [(1160, 6, (r.hard.log.map encEnt)), (5005, 1, []), (1162, 1, (r.next.map encI)), (1163, 1, (r.match_.map encI))] ⟨rfl, ⟨45, (r.hard.log.map encEnt), by kernel_rfl, FrzIs.same (allP_encEnt _)⟩, rfl, ⟨3, [], by kernel_rfl, FrzIs.same (fun _ h => by cases h)⟩, rfl, ⟨3, (r.next.map encI), by kernel_rfl, FrzIs.same (allP_encI _)⟩, rfl, ⟨3, (r.match_.map encI), by kernel_rfl, FrzIs.same (allP_encI _)⟩, trivial⟩ ?_
   refine At.ll 43 47 10 143 (45, 6) (([(⟨1, (r.hard.term + 1), (r.id + 1), 0, ⟨0, ⟨0, 0, 0, 0, (⟨#[]⟩ : ByteArray)⟩⟩⟩ : Rec)]).map encRec) ?_
   refine At.apK 44 47 10 88 144 109 143 encRec ([] : List Rec) ([(⟨1, (r.hard.term + 1), (r.id + 1), 0, ⟨0, ⟨0, 0, 0, 0, (⟨#[]⟩ : ByteArray)⟩⟩⟩ : Rec)]) (by simp only [List.length_map, List.length_append, List.length_take, List.length_drop, List.length_replicate, List.length_set, List.length_cons, List.length_nil]; omega) ?_
   refine At.z 1 ?_
   refine AW.seq ?_
   refine AW.q 3 ?_
   refine AW.cE r.of_ (1 : Int) (fun h3 => ?_) (fun h3 => ?_)
   · refine AW.r ?_
     refine At.a 2 ?_
     by_cases h4 : r.hard.log.length < 80
     · refine At.c (spec_l10Lead_T_spec  (⟨r.id, r.of_, 2, r.commit, ⟨r.hard.term + 1, r.id + 1, r.hard.log⟩, [], r.next, r.match_⟩ : Raft) ([(⟨1, (r.hard.term + 1), (r.id + 1), 0, ⟨0, ⟨0, 0, 0, 0, (⟨#[]⟩ : ByteArray)⟩⟩⟩ : Rec)]) (by unfold SmallR; simp only [List.length_nil]; omega) (by dsimp only; omega) (by dsimp only; omega) (by simp only [List.length_map, List.length_append, List.length_take, List.length_drop, List.length_replicate, List.length_set, List.length_cons, List.length_nil]; omega) h4) Tryz.call99 true [(1160, 0), (5005, 1), (1162, 2), (1163, 3), (144, 4)] [(2000, 5), (2001, 6), (2002, 7), (2003, 8), (2004, 9), (2005, 10)] [] trivial ?_
       refine At.z 6 ?_
       exact AW.ret (rf (k3 (K_spec_RaftStand _ r) (show ((leadR (⟨r.id, r.of_, 2, r.commit, ⟨r.hard.term + 1, r.id + 1, r.hard.log⟩, [], r.next, r.match_⟩ : Raft))) = ((stands r).1) from by have q : raftOk r = true ∧ r.role ≠ 3 ∧ r.hard.term ≠ 1000000000 := (⟨hok, by omega, by omega⟩); simp only [stands, if_pos q]; first | rfl | (rw [endRecs_ne (by dsimp only; first | omega | (rw [leadR_term]; dsimp only; omega))]; simp [h1, h2, h3, h4, voteRec, leadR_term, leadR_vote, standR, zEnt, zCmd, leadRecs]; done) | (simp [h1, h2, h3, h4, standR, voteRec, zEnt, zCmd, leadRecs]; done) | (simp [h1, h2, h3, h4, standR, voteRec, zEnt, zCmd, leadRecs]; rfl) | (simp [h1, h2, h3, h4, standR, leadR, had, lead0]; done) | (simp [h1, h2, h3, h4, standR, leadR, had, lead0]; rfl)) (show (([(⟨1, (r.hard.term + 1), (r.id + 1), 0, ⟨0, ⟨0, 0, 0, 0, (⟨#[]⟩ : ByteArray)⟩⟩⟩ : Rec)]) ++ leadRecs (⟨r.id, r.of_, 2, r.commit, ⟨r.hard.term + 1, r.id + 1, r.hard.log⟩, [], r.next, r.match_⟩ : Raft)) = ((stands r).2.1) from by have q : raftOk r = true ∧ r.role ≠ 3 ∧ r.hard.term ≠ 1000000000 := (⟨hok, by omega, by omega⟩); simp only [stands, if_pos q]; first | rfl | (rw [endRecs_ne (by dsimp only; first | omega | (rw [leadR_term]; dsimp only; omega))]; simp [h1, h2, h3, h4, voteRec, leadR_term, leadR_vote, standR, zEnt, zCmd, leadRecs]; done) | (simp [h1, h2, h3, h4, standR, voteRec, zEnt, zCmd, leadRecs]; done) | (simp [h1, h2, h3, h4, standR, voteRec, zEnt, zCmd, leadRecs]; rfl) | (simp [h1, h2, h3, h4, standR, leadR, had, lead0]; done) | (simp [h1, h2, h3, h4, standR, leadR, had, lead0]; rfl)) (show (sendAll (leadR (⟨r.id, r.of_, 2, r.commit, ⟨r.hard.term + 1, r.id + 1, r.hard.log⟩, [], r.next, r.match_⟩ : Raft))) = ((stands r).2.2) from by have q : raftOk r = true ∧ r.role ≠ 3 ∧ r.hard.term ≠ 1000000000 := (⟨hok, by omega, by omega⟩); simp only [stands, if_pos q]; first | rfl | (rw [endRecs_ne (by dsimp only; first | omega | (rw [leadR_term]; dsimp only; omega))]; simp [h1, h2, h3, h4, voteRec, leadR_term, leadR_vote, standR, zEnt, zCmd, leadRecs]; done) | (simp [h1, h2, h3, h4, standR, voteRec, zEnt, zCmd, leadRecs]; done) | (simp [h1, h2, h3, h4, standR, voteRec, zEnt, zCmd, leadRecs]; rfl) | (simp [h1, h2, h3, h4, standR, leadR, had, lead0]; done) | (simp [h1, h2, h3, h4, standR, leadR, had, lead0]; rfl)) (KF.n [(2000, 0), (2001, 1), (2002, 2), (2003, 3), (2004, 4), (2005, 5)])))
     refine At.c (spec_l10Lead_F_spec  (⟨r.id, r.of_, 2, r.commit, ⟨r.hard.term + 1, r.id + 1, r.hard.log⟩, [], r.next, r.match_⟩ : Raft) ([(⟨1, (r.hard.term + 1), (r.id + 1), 0, ⟨0, ⟨0, 0, 0, 0, (⟨#[]⟩ : ByteArray)⟩⟩⟩ : Rec)]) (by unfold SmallR; simp only [List.length_nil]; omega) (by dsimp only; omega) (by dsimp only; omega) (by simp only [List.length_map, List.length_append, List.length_take, List.length_drop, List.length_replicate, List.length_set, List.length_cons, List.length_nil]; omega) h4) Tryz.call99 true [(1160, 0), (5005, 1), (1162, 2), (1163, 3), (144, 4)] [(2000, 5), (2001, 6), (2002, 7), (2003, 8)] [] trivial ?_
     refine At.z 6 ?_
     exact AW.ret (rf (k3 (K_spec_RaftStand _ r) (show ((⟨(leadR (⟨r.id, r.of_, 2, r.commit, ⟨r.hard.term + 1, r.id + 1, r.hard.log⟩, [], r.next, r.match_⟩ : Raft)).id, (leadR (⟨r.id, r.of_, 2, r.commit, ⟨r.hard.term + 1, r.id + 1, r.hard.log⟩, [], r.next, r.match_⟩ : Raft)).of_, (leadR (⟨r.id, r.of_, 2, r.commit, ⟨r.hard.term + 1, r.id + 1, r.hard.log⟩, [], r.next, r.match_⟩ : Raft)).role, (leadR (⟨r.id, r.of_, 2, r.commit, ⟨r.hard.term + 1, r.id + 1, r.hard.log⟩, [], r.next, r.match_⟩ : Raft)).commit, ⟨(leadR (⟨r.id, r.of_, 2, r.commit, ⟨r.hard.term + 1, r.id + 1, r.hard.log⟩, [], r.next, r.match_⟩ : Raft)).hard.term, (leadR (⟨r.id, r.of_, 2, r.commit, ⟨r.hard.term + 1, r.id + 1, r.hard.log⟩, [], r.next, r.match_⟩ : Raft)).hard.vote, r.hard.log⟩, (leadR (⟨r.id, r.of_, 2, r.commit, ⟨r.hard.term + 1, r.id + 1, r.hard.log⟩, [], r.next, r.match_⟩ : Raft)).yes, (leadR (⟨r.id, r.of_, 2, r.commit, ⟨r.hard.term + 1, r.id + 1, r.hard.log⟩, [], r.next, r.match_⟩ : Raft)).next, (leadR (⟨r.id, r.of_, 2, r.commit, ⟨r.hard.term + 1, r.id + 1, r.hard.log⟩, [], r.next, r.match_⟩ : Raft)).match_⟩ : Raft)) = ((stands r).1) from by have q : raftOk r = true ∧ r.role ≠ 3 ∧ r.hard.term ≠ 1000000000 := (⟨hok, by omega, by omega⟩); simp only [stands, if_pos q]; first | rfl | (rw [endRecs_ne (by dsimp only; first | omega | (rw [leadR_term]; dsimp only; omega))]; simp [h1, h2, h3, h4, voteRec, leadR_term, leadR_vote, standR, zEnt, zCmd, leadRecs]; done) | (simp [h1, h2, h3, h4, standR, voteRec, zEnt, zCmd, leadRecs]; done) | (simp [h1, h2, h3, h4, standR, voteRec, zEnt, zCmd, leadRecs]; rfl) | (simp [h1, h2, h3, h4, standR, leadR, had, lead0]; done) | (simp [h1, h2, h3, h4, standR, leadR, had, lead0]; rfl)) (show (([(⟨1, (r.hard.term + 1), (r.id + 1), 0, ⟨0, ⟨0, 0, 0, 0, (⟨#[]⟩ : ByteArray)⟩⟩⟩ : Rec)])) = ((stands r).2.1) from by have q : raftOk r = true ∧ r.role ≠ 3 ∧ r.hard.term ≠ 1000000000 := (⟨hok, by omega, by omega⟩); simp only [stands, if_pos q]; first | rfl | (rw [endRecs_ne (by dsimp only; first | omega | (rw [leadR_term]; dsimp only; omega))]; simp [h1, h2, h3, h4, voteRec, leadR_term, leadR_vote, standR, zEnt, zCmd, leadRecs]; done) | (simp [h1, h2, h3, h4, standR, voteRec, zEnt, zCmd, leadRecs]; done) | (simp [h1, h2, h3, h4, standR, voteRec, zEnt, zCmd, leadRecs]; rfl) | (simp [h1, h2, h3, h4, standR, leadR, had, lead0]; done) | (simp [h1, h2, h3, h4, standR, leadR, had, lead0]; rfl)) (show (sendAll (leadR (⟨r.id, r.of_, 2, r.commit, ⟨r.hard.term + 1, r.id + 1, r.hard.log⟩, [], r.next, r.match_⟩ : Raft))) = ((stands r).2.2) from by have q : raftOk r = true ∧ r.role ≠ 3 ∧ r.hard.term ≠ 1000000000 := (⟨hok, by omega, by omega⟩); simp only [stands, if_pos q]; first | rfl | (rw [endRecs_ne (by dsimp only; first | omega | (rw [leadR_term]; dsimp only; omega))]; simp [h1, h2, h3, h4, voteRec, leadR_term, leadR_vote, standR, zEnt, zCmd, leadRecs]; done) | (simp [h1, h2, h3, h4, standR, voteRec, zEnt, zCmd, leadRecs]; done) | (simp [h1, h2, h3, h4, standR, voteRec, zEnt, zCmd, leadRecs]; rfl) | (simp [h1, h2, h3, h4, standR, leadR, had, lead0]; done) | (simp [h1, h2, h3, h4, standR, leadR, had, lead0]; rfl)) (KF.n [(1160, 0), (2000, 1), (2001, 2), (2002, 3), (144, 4), (2003, 5)])))
   refine AW.skip ?_
   refine AW.seq ?_
   refine AW.gD Tryz_mix ?_
   refine At.a 3 ?_
   refine At.c (spec_l10Asks_spec  (⟨r.id, r.of_, 2, r.commit, ⟨r.hard.term + 1, r.id + 1, r.hard.log⟩, [], r.next, r.match_⟩ : Raft) (by unfold SmallR; simp only [List.length_nil]; omega) (by dsimp only; omega)) Tryz.call84 false [] [(2140, 0)] [(1160, 6, (r.hard.log.map encEnt)), (5005, 1, []), (1162, 1, (r.next.map encI)), (1163, 1, (r.match_.map encI))] ⟨rfl, ⟨45, (r.hard.log.map encEnt), by kernel_rfl, FrzIs.same (allP_encEnt _)⟩, rfl, ⟨3, [], by kernel_rfl, FrzIs.same (fun _ h => by cases h)⟩, rfl, ⟨3, (r.next.map encI), by kernel_rfl, FrzIs.same (allP_encI _)⟩, rfl, ⟨3, (r.match_.map encI), by kernel_rfl, FrzIs.same (allP_encI _)⟩, trivial⟩ ?_
   refine At.zD 3 ?_
   exact AW.ret (rf (k3 (K_spec_RaftStand _ r) (show ((⟨r.id, r.of_, 2, r.commit, ⟨r.hard.term + 1, r.id + 1, r.hard.log⟩, [], r.next, r.match_⟩ : Raft)) = ((stands r).1) from by have q : raftOk r = true ∧ r.role ≠ 3 ∧ r.hard.term ≠ 1000000000 := (⟨hok, by omega, by omega⟩); simp only [stands, if_pos q]; first | rfl | (rw [endRecs_ne (by dsimp only; first | omega | (rw [leadR_term]; dsimp only; omega))]; simp [h1, h2, h3, voteRec, leadR_term, leadR_vote, standR, zEnt, zCmd, leadRecs]; done) | (simp [h1, h2, h3, standR, voteRec, zEnt, zCmd, leadRecs]; done) | (simp [h1, h2, h3, standR, voteRec, zEnt, zCmd, leadRecs]; rfl) | (simp [h1, h2, h3, standR, leadR, had, lead0]; done) | (simp [h1, h2, h3, standR, leadR, had, lead0]; rfl)) (show ([(⟨1, (r.hard.term + 1), (r.id + 1), 0, ⟨0, ⟨0, 0, 0, 0, (⟨#[]⟩ : ByteArray)⟩⟩⟩ : Rec)]) = ((stands r).2.1) from by have q : raftOk r = true ∧ r.role ≠ 3 ∧ r.hard.term ≠ 1000000000 := (⟨hok, by omega, by omega⟩); simp only [stands, if_pos q]; first | rfl | (rw [endRecs_ne (by dsimp only; first | omega | (rw [leadR_term]; dsimp only; omega))]; simp [h1, h2, h3, voteRec, leadR_term, leadR_vote, standR, zEnt, zCmd, leadRecs]; done) | (simp [h1, h2, h3, standR, voteRec, zEnt, zCmd, leadRecs]; done) | (simp [h1, h2, h3, standR, voteRec, zEnt, zCmd, leadRecs]; rfl) | (simp [h1, h2, h3, standR, leadR, had, lead0]; done) | (simp [h1, h2, h3, standR, leadR, had, lead0]; rfl)) (show (asks (⟨r.id, r.of_, 2, r.commit, ⟨r.hard.term + 1, r.id + 1, r.hard.log⟩, [], r.next, r.match_⟩ : Raft)) = ((stands r).2.2) from by have q : raftOk r = true ∧ r.role ≠ 3 ∧ r.hard.term ≠ 1000000000 := (⟨hok, by omega, by omega⟩); simp only [stands, if_pos q]; first | rfl | (rw [endRecs_ne (by dsimp only; first | omega | (rw [leadR_term]; dsimp only; omega))]; simp [h1, h2, h3, voteRec, leadR_term, leadR_vote, standR, zEnt, zCmd, leadRecs]; done) | (simp [h1, h2, h3, standR, voteRec, zEnt, zCmd, leadRecs]; done) | (simp [h1, h2, h3, standR, voteRec, zEnt, zCmd, leadRecs]; rfl) | (simp [h1, h2, h3, standR, leadR, had, lead0]; done) | (simp [h1, h2, h3, standR, leadR, had, lead0]; rfl)) (KF.n [(1160, 0), (5005, 1), (1162, 2), (1163, 3), (144, 4), (2140, 5)])))
 refine AW.q 4 ?_
 refine AW.seq ?_
 refine AW.weak (Sub.nils [⟨true, 102, some 6, 5001, 45, 6⟩, ⟨true, 102, some 7, 5002, 3, 1⟩, ⟨true, 102, some 8, 5003, 3, 1⟩, ⟨true, 102, some 9, 5004, 3, 1⟩] (by kernel_rfl)) ?_
 refine AW.g ?_
 refine At.a 1 ?_
 refine At.c (spec_l10Same_F_spec  r (by exact hz) hok) Tryz.call97 true [] [(1160, 0), (1161, 1), (1162, 2), (1163, 3)] [] trivial ?_
 refine At.lit0 (t := 37) (d := 9) (e := 47) (es := 10) (bytes := 88) 109 (by kernel_rfl) (by kernel_rfl) (by kernel_rfl) (by kernel_rfl) ?_
 refine At.z 3 ?_
 refine AW.seq ?_
 refine AW.r ?_
 refine At.a 1 ?_
 refine At.c (spec_RaftOk_spec  r (by exact hz)) Tryz.call18 true [] [] [] trivial ?_
 refine At.a 2 ?_
 refine At.sB 13 (!(raftOk r)) true (sayB (by rw [show (raftOk r) = false from (Bool.eq_false_iff.2 hok)]; rfl)) ?_
 refine At.z 10 ?_
 refine AW.cond true (by kernel_rfl) (fun _ => ?_) (fun h => by cases h)
 refine AW.r ?_
 refine At.a 2 ?_
 refine At.lit0 (t := 38) (d := 26) (e := 51) (es := 17) (bytes := 168) 126 (by kernel_rfl) (by kernel_rfl) (by kernel_rfl) (by kernel_rfl) ?_
 refine At.z 3 ?_
 exact AW.ret (rf (k3 (K_spec_RaftStand _ r) (show ((⟨0, 0, 0, 0, ⟨0, 0, []⟩, [], [], []⟩ : Raft)) = ((stands r).1) from by simp [stands, same, hok]; try rfl) (show ([]) = ((stands r).2.1) from by simp [stands, same, hok]; try rfl) (show ([]) = ((stands r).2.2) from by simp [stands, same, hok]; try rfl) (KF.n [(1160, 0), (1161, 1), (1162, 2), (1163, 3), (109, 4), (126, 5)])))
theorem spec_l2Low_spec  (x : Int) : FnSpec Tryz.prog 202 [.int .i64 x] [] (.int .i64 (x % 4294967296)) [] := by
 refine FnSpec.of 5 Tryz.func202 rfl Tryz.ntmps202 (by simp) (AW.weakK ?_)
 refine AW.q 1 ?_
 refine AW.r ?_
 refine At.a 1 ?_
 refine At.bits (t := 3) (u := 3) (d := 4) (op := .and) (x := .tmp 3) (y := .const (.int .i64 4294967295)) (kd := .i64) (a := x) (b := 4294967295) (x % 4294967296) (by kernel_rfl) (by kernel_rfl) (by kernel_rfl) (by kernel_rfl) (andM 32 4294967296 _ _ (by decide) (by decide) (by decide)) ?_
 refine At.z 1 ?_
 exact AW.ret (rf (KF.n []))
theorem spec_l2Low_D_spec  (x : Int) : ∃ rho_ : Int, (True) ∧ FnSpec Tryz.prog 202 [.int .i64 x] [] (.int .i64 rho_) [] := ⟨_, trivial, spec_l2Low_spec x⟩
theorem spec_l2Turn_spec  (x : Int) (n : Int) (hn : 0 ≤ n ∧ n ≤ 32) : FnSpec Tryz.prog 201 [.int .i64 x, .int .i64 n] [] (.int .i64 (bitV .or .i64 (shV .shr .i64 x n) (shV .shl .i64 x (32 - n)) % 4294967296)) [] := by
 refine FnSpec.of 14 Tryz.func201 rfl Tryz.ntmps201 (by simp) (AW.weakK ?_)
 refine AW.q 1 ?_
 refine AW.seq ?_
 refine AW.gD Tryz_mix ?_
 refine At.a 2 ?_
 refine At.shift (t := 3) (u := 3) (d := 7) (op := .shr) (x := .tmp 5) (y := .tmp 6) (kd := .i64) (kd' := .i64) (a := x) (b := n) (shV .shr .i64 x n) (by kernel_rfl) (by kernel_rfl) (by kernel_rfl) (by kernel_rfl) (by omega) (shS_shr _ _ _) ?_
 refine At.a 3 ?_
 refine At.sI 10 (32 - n) (by omega) ?_
 refine At.shift (t := 3) (u := 3) (d := 11) (op := .shl) (x := .tmp 8) (y := .tmp 10) (kd := .i64) (kd' := .i64) (a := x) (b := 32 - n) (shV .shl .i64 x (32 - n)) (by kernel_rfl) (by kernel_rfl) (by kernel_rfl) (by kernel_rfl) (by omega) (shS_shl _ _ _) ?_
 refine At.bits (t := 3) (u := 3) (d := 12) (op := .or) (x := .tmp 7) (y := .tmp 11) (kd := .i64) (a := shV .shr .i64 x n) (b := shV .shl .i64 x (32 - n)) (bitV .or .i64 (shV .shr .i64 x n) (shV .shl .i64 x (32 - n))) (by kernel_rfl) (by kernel_rfl) (by kernel_rfl) (by kernel_rfl) (bitS_or _ _ _) ?_
 refine At.c (spec_l2Low_spec  (bitV .or .i64 (shV .shr .i64 x n) (shV .shl .i64 x (32 - n))) ) Tryz.call202 true [] [] [] trivial ?_
 refine At.zD 1 ?_
 refine AW.ret ?_
 refine ⟨_, Sub.refl _ _, ?_⟩
 refine KF.conv (fun w => .int .i64 w) (fun w => []) (show ((bitV .or .i64 (shV .shr .i64 x n) (shV .shl .i64 x (32 - n))) % 4294967296) = (bitV .or .i64 (shV .shr .i64 x n) (shV .shl .i64 x (32 - n)) % 4294967296) from by simp_all) ?_
 exact KF.n []
theorem spec_l2Turn_D_spec  (x : Int) (n : Int) (hn : 0 ≤ n ∧ n ≤ 32) : ∃ rho_ : Int, (True) ∧ FnSpec Tryz.prog 201 [.int .i64 x, .int .i64 n] [] (.int .i64 rho_) [] := ⟨_, trivial, spec_l2Turn_spec x n hn⟩
end Go.Proofs.YtlmadhahghiedaaGreat
