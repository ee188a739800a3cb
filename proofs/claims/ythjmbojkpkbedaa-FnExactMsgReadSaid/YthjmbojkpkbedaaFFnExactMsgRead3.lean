/- The contracts of the functions that FnExactMsgRead reaches (each: what it answers, said over values), printed by a program of this session (wip/sy/g/gen.py). -/
import Derived.Test.YthjmbojkpkbedaaFFnExactMsgRead2
set_option linter.unusedVariables false
set_option linter.unusedSimpArgs false
set_option maxRecDepth 100000
set_option maxHeartbeats 4000000
namespace Go.Proofs.Ythjmbojkpkbedaa
open Go Go.Sy Go.Proofs
theorem laws_eqEntry_spec  (a : Ent) (b : Ent) : FnSpec Try.prog 71 [.agg [.int .i64 a.term, .int .i64 a.cmd.kind, .int .i64 a.cmd.release, .int .i64 a.cmd.node, .int .i64 a.cmd.size, .str a.cmd.digest], .agg [.int .i64 b.term, .int .i64 b.cmd.kind, .int .i64 b.cmd.release, .int .i64 b.cmd.node, .int .i64 b.cmd.size, .str b.cmd.digest]] [] (.bool (entEq a b)) [] := by
 refine FnSpec.of 16 Try.func71 rfl Try.ntmps71 (by simp) (AW.weakK ?_)
 refine AW.q 3 ?_
 refine AW.seq ?_
 refine AW.q 5 ?_
 refine AW.cU a.term b.term (fun h1 => ?_) (fun h1 => ?_)
 · refine AW.q 1 ?_
   refine AW.ret ?_
   refine ⟨_, Sub.refl _ _, ?_⟩
   refine KF.conv (fun w => .bool w) (fun w => []) (show (false) = (entEq a b) from by simp [entEq, *]) ?_
   exact KF.n []
 refine AW.skip ?_
 refine AW.seq ?_
 refine AW.r ?_
 refine At.a 4 ?_
 refine At.c (laws_eqCmd_spec  a.cmd b.cmd ) Try.call40 true [] [] [] trivial ?_
 refine At.z 1 ?_
 refine AW.cNB (cmdEq a.cmd b.cmd) (fun h2 => ?_) (fun h2 => ?_)
 · refine AW.q 1 ?_
   refine AW.ret ?_
   refine ⟨_, Sub.refl _ _, ?_⟩
   refine KF.conv (fun w => .bool w) (fun w => []) (show (false) = (entEq a b) from by simp [entEq, *]) ?_
   exact KF.n []
 refine AW.skip ?_
 refine AW.q 1 ?_
 refine AW.ret ?_
 refine ⟨_, Sub.refl _ _, ?_⟩
 refine KF.conv (fun w => .bool w) (fun w => []) (show (true) = (entEq a b) from by simp [entEq, *]) ?_
 exact KF.n []
theorem laws_eqEntryS_spec  (a : List Ent) (b : List Ent) (ha : a.length ≤ 1048576) (hb : b.length ≤ 1048576) : FnSpec Try.prog 41 [.sl false 6 (a.map encEnt), .sl false 6 (b.map encEnt)] [] (.bool (listEq entEq a b)) [] := by
 refine FnSpec.of 27 Try.func41 rfl Try.ntmps41 (by simp) (AW.weakK ?_)
 refine AW.q 1 ?_
 refine AW.seq ?_
 refine AW.r ?_
 refine At.a 2 ?_
 refine At.sL 7 encEnt a ?_
 refine At.a 2 ?_
 refine At.sL 9 encEnt b ?_
 refine At.z 1 ?_
 refine AW.cU (a.length : Int) (b.length : Int) (fun h1 => ?_) (fun h1 => ?_)
 · refine AW.q 1 ?_
   refine AW.ret ?_
   refine ⟨_, Sub.refl _ _, ?_⟩
   refine KF.conv (fun w => .bool w) (fun w => []) (show (false) = (listEq entEq a b) from by rw [listEq_len (by omega)]) ?_
   exact KF.n []
 refine AW.skip ?_
 refine AW.seq ?_
 refine AW.q 1 ?_
 refine AW.block ?_
 refine AW.loopW (fun (k : Nat) => Go.Sy.mk [.sl false 6 (a.map encEnt), .sl false 6 (b.map encEnt), .un, .un, .un, .int .i64 (k : Int)] []) (fun (k : Nat) => k ≤ a.length ∧ listEq entEq a b = listEq entEq (a.drop k) (b.drop k)) (fun (k : Nat) => a.length - k) 0 ⟨by omega, by rw [List.drop_zero, List.drop_zero]⟩ (Sub.o [] [true, true, false, false, false, true]) ?_
 rintro k ⟨hk, hR⟩
 refine AW.seq ?_
 refine AW.r ?_
 refine At.a 3 ?_
 refine At.sL 13 encEnt a ?_
 refine At.z 1 ?_
 refine AW.cD ((k : Int) < (a.length : Int)) (fun h2 => ?_) (fun h2 => ?_)
 · refine AW.skip ?_
   refine AW.seq ?_
   refine AW.block ?_
   refine AW.seq ?_
   refine AW.gD Try_mix ?_
   refine At.a 2 ?_
   refine At.iSl 32 19 (.tmp 17) (.tmp 18) false 6 (a.map encEnt) .i64 (k : Int) 56 (by omega) (by simp only [List.length_map]; omega) ?_
   refine Exists.elim (gE a k (by omega)) fun e1 he1 => ?_
   refine At.lVp 56 20 (.tmp 19) false 6 (a.map encEnt) k 0 true 6 (encEnt e1) (.agg [.int .i64 e1.term, .int .i64 e1.cmd.kind, .int .i64 e1.cmd.release, .int .i64 e1.cmd.node, .int .i64 e1.cmd.size, .str e1.cmd.digest]) (mapGet he1) ?_
   refine At.a 2 ?_
   refine At.iSl 32 23 (.tmp 21) (.tmp 22) false 6 (b.map encEnt) .i64 (k : Int) 56 (by omega) (by simp only [List.length_map]; omega) ?_
   refine Exists.elim (gE b k (by omega)) fun e2 he2 => ?_
   refine At.lVp 56 24 (.tmp 23) false 6 (b.map encEnt) k 0 true 6 (encEnt e2) (.agg [.int .i64 e2.term, .int .i64 e2.cmd.kind, .int .i64 e2.cmd.release, .int .i64 e2.cmd.node, .int .i64 e2.cmd.size, .str e2.cmd.digest]) (mapGet he2) ?_
   refine At.c (laws_eqEntry_spec  e1 e2 ) Try.call71 true [] [] [] trivial ?_
   refine At.zD 1 ?_
   refine AW.cNB (entEq e1 e2) (fun h3 => ?_) (fun h3 => ?_)
   · refine AW.q 1 ?_
     refine AW.ret ?_
     refine ⟨_, Sub.refl _ _, ?_⟩
     refine KF.conv (fun w => .bool w) (fun w => []) (show (false) = (listEq entEq a b) from by rw [hR, dropCons he1, dropCons he2, listEq]; simp [eqI, *]) ?_
     exact KF.n []
   refine AW.skip ?_
   refine AW.g ?_
   refine At.a 2 ?_
   refine At.sI 16 ((k : Int) + 1) (by omega) ?_
   refine At.z 1 ?_
   exact ⟨k + 1, ⟨by omega, by rw [hR, dropCons he1, dropCons he2, listEq]; simp [eqI, *]⟩, (by omega), Sub.o [] [true, true, false, false, false, true]⟩
 refine AW.exit ?_
 refine AW.q 1 ?_
 refine AW.ret ?_
 refine ⟨_, Sub.refl _ _, ?_⟩
 refine KF.conv (fun w => .bool w) (fun w => []) (show (true) = (listEq entEq a b) from by rw [hR, List.drop_of_length_le (by omega), List.drop_of_length_le (by omega)]; rfl) ?_
 exact KF.n []
def K_laws_eqMsg (rs : List ResultVar) (a : Msg) (b : Msg) (w0_ : Bool) : Exit → Sg → Prop := KF Try.prog 0 rs (.bool w0_) []
theorem laws_eqMsg_spec  (a : Msg) (b : Msg) (ha : a.entries.length ≤ 1048576) (hb : b.entries.length ≤ 1048576) : FnSpec Try.prog 11 [(msgA a), (msgA b)] [] (.bool (msgEq a b)) [] := by
 refine FnSpec.of 67 Try.func11 rfl Try.ntmps11 (by simp) (AW.weakK ?_)
 refine AW.q 3 ?_
 refine AW.seq ?_
 refine AW.q 5 ?_
 refine AW.cU a.kind b.kind (fun h1 => ?_) (fun h1 => ?_)
 · refine AW.q 1 ?_
   exact AW.ret (rf (k1 (K_laws_eqMsg _ a b) (show (false) = (msgEq a b) from by simp [msgEq, h1]) (KF.n [])))
 refine AW.skip ?_
 refine AW.seq ?_
 refine AW.q 5 ?_
 refine AW.cU a.from_ b.from_ (fun h2 => ?_) (fun h2 => ?_)
 · refine AW.q 1 ?_
   exact AW.ret (rf (k1 (K_laws_eqMsg _ a b) (show (false) = (msgEq a b) from by simp [msgEq, h1, h2]) (KF.n [])))
 refine AW.skip ?_
 refine AW.seq ?_
 refine AW.q 5 ?_
 refine AW.cU a.term b.term (fun h3 => ?_) (fun h3 => ?_)
 · refine AW.q 1 ?_
   exact AW.ret (rf (k1 (K_laws_eqMsg _ a b) (show (false) = (msgEq a b) from by simp [msgEq, h1, h2, h3]) (KF.n [])))
 refine AW.skip ?_
 refine AW.seq ?_
 refine AW.q 5 ?_
 refine AW.cU a.at_ b.at_ (fun h4 => ?_) (fun h4 => ?_)
 · refine AW.q 1 ?_
   exact AW.ret (rf (k1 (K_laws_eqMsg _ a b) (show (false) = (msgEq a b) from by simp [msgEq, h1, h2, h3, h4]) (KF.n [])))
 refine AW.skip ?_
 refine AW.seq ?_
 refine AW.q 5 ?_
 refine AW.cU a.atTerm b.atTerm (fun h5 => ?_) (fun h5 => ?_)
 · refine AW.q 1 ?_
   exact AW.ret (rf (k1 (K_laws_eqMsg _ a b) (show (false) = (msgEq a b) from by simp [msgEq, h1, h2, h3, h4, h5]) (KF.n [])))
 refine AW.skip ?_
 refine AW.seq ?_
 refine AW.q 5 ?_
 refine AW.cU a.commit b.commit (fun h6 => ?_) (fun h6 => ?_)
 · refine AW.q 1 ?_
   exact AW.ret (rf (k1 (K_laws_eqMsg _ a b) (show (false) = (msgEq a b) from by simp [msgEq, h1, h2, h3, h4, h5, h6]) (KF.n [])))
 refine AW.skip ?_
 refine AW.seq ?_
 refine AW.r ?_
 refine At.a 4 ?_
 refine At.eqB (t := 4) (u := 4) (d := 39) (op := .neq) (x := .tmp 36) (y := .tmp 38) (a := a.yes) (b := b.yes) (by kernel_rfl) (by kernel_rfl) (by kernel_rfl) (by kernel_rfl) (by kernel_rfl) (.bool (!(a.yes == b.yes))) (.inr ⟨rfl, rfl⟩) ?_
 refine At.done rfl ?_
 refine AW.cNB (a.yes == b.yes) (fun h7 => ?_) (fun h7 => ?_)
 · refine AW.q 1 ?_
   exact AW.ret (rf (k1 (K_laws_eqMsg _ a b) (show (false) = (msgEq a b) from by simp [msgEq, h1, h2, h3, h4, h5, h6, h7]) (KF.n [])))
 refine AW.skip ?_
 refine AW.seq ?_
 refine AW.q 5 ?_
 refine AW.cU a.release b.release (fun h8 => ?_) (fun h8 => ?_)
 · refine AW.q 1 ?_
   exact AW.ret (rf (k1 (K_laws_eqMsg _ a b) (show (false) = (msgEq a b) from by simp [msgEq, h1, h2, h3, h4, h5, h6, h7, h8]) (KF.n [])))
 refine AW.skip ?_
 refine AW.seq ?_
 refine AW.q 5 ?_
 refine AW.cU a.part b.part (fun h9 => ?_) (fun h9 => ?_)
 · refine AW.q 1 ?_
   exact AW.ret (rf (k1 (K_laws_eqMsg _ a b) (show (false) = (msgEq a b) from by simp [msgEq, h1, h2, h3, h4, h5, h6, h7, h8, h9]) (KF.n [])))
 refine AW.skip ?_
 refine AW.seq ?_
 refine AW.q 5 ?_
 refine AW.cNE (a.bytes.toList) (b.bytes.toList) (fun h10 => ?_) (fun h10 => ?_)
 · refine AW.q 1 ?_
   exact AW.ret (rf (k1 (K_laws_eqMsg _ a b) (show (false) = (msgEq a b) from by simp [msgEq, h1, h2, h3, h4, h5, h6, h7, h8, h9, h10]) (KF.n [])))
 refine AW.skip ?_
 refine AW.seq ?_
 refine AW.r ?_
 refine At.a 4 ?_
 refine At.c (laws_eqCmd_spec  a.cmd b.cmd ) Try.call40 true [] [] [] trivial ?_
 refine At.z 1 ?_
 refine AW.cNB (cmdEq a.cmd b.cmd) (fun h11 => ?_) (fun h11 => ?_)
 · refine AW.q 1 ?_
   exact AW.ret (rf (k1 (K_laws_eqMsg _ a b) (show (false) = (msgEq a b) from by simp [msgEq, h1, h2, h3, h4, h5, h6, h7, h8, h9, h10, h11]) (KF.n [])))
 refine AW.skip ?_
 refine AW.seq ?_
 refine AW.r ?_
 refine At.a 4 ?_
 refine At.c (laws_eqEntryS_spec  a.entries b.entries (by omega) (by omega)) Try.call41 true [] [] [] trivial ?_
 refine At.z 1 ?_
 refine AW.cNB (listEq entEq a.entries b.entries) (fun h12 => ?_) (fun h12 => ?_)
 · refine AW.q 1 ?_
   exact AW.ret (rf (k1 (K_laws_eqMsg _ a b) (show (false) = (msgEq a b) from by simp [msgEq, h1, h2, h3, h4, h5, h6, h7, h8, h9, h10, h11, h12]) (KF.n [])))
 refine AW.skip ?_
 refine AW.q 1 ?_
 exact AW.ret (rf (k1 (K_laws_eqMsg _ a b) (show (true) = (msgEq a b) from by simp [msgEq, h1, h2, h3, h4, h5, h6, h7, h8, h9, h10, h11, h12]) (KF.n [])))
theorem laws_eqByteS_spec  (a : List UInt8) (b : List UInt8) (ha : a.length ≤ 1048576) (hb : b.length ≤ 1048576) : FnSpec Try.prog 10 [.sl false 1 (a.map encU8), .sl false 1 (b.map encU8)] [] (.bool (listEq eqU a b)) [] := by
 refine FnSpec.of 26 Try.func10 rfl Try.ntmps10 (by simp) (AW.weakK ?_)
 refine AW.q 1 ?_
 refine AW.seq ?_
 refine AW.r ?_
 refine At.a 2 ?_
 refine At.sL 7 encU8 a ?_
 refine At.a 2 ?_
 refine At.sL 9 encU8 b ?_
 refine At.z 1 ?_
 refine AW.cU (a.length : Int) (b.length : Int) (fun h1 => ?_) (fun h1 => ?_)
 · refine AW.q 1 ?_
   refine AW.ret ?_
   refine ⟨_, Sub.refl _ _, ?_⟩
   refine KF.conv (fun w => .bool w) (fun w => []) (show (false) = (listEq eqU a b) from by rw [listEq_len (by omega)]) ?_
   exact KF.n []
 refine AW.skip ?_
 refine AW.seq ?_
 refine AW.q 1 ?_
 refine AW.block ?_
 refine AW.loopW (fun (k : Nat) => Go.Sy.mk [.sl false 1 (a.map encU8), .sl false 1 (b.map encU8), .un, .un, .un, .int .i64 (k : Int)] []) (fun (k : Nat) => k ≤ a.length ∧ listEq eqU a b = listEq eqU (a.drop k) (b.drop k)) (fun (k : Nat) => a.length - k) 0 ⟨by omega, by rw [List.drop_zero, List.drop_zero]⟩ (Sub.o [] [true, true, false, false, false, true]) ?_
 rintro k ⟨hk, hR⟩
 refine AW.seq ?_
 refine AW.r ?_
 refine At.a 3 ?_
 refine At.sL 13 encU8 a ?_
 refine At.z 1 ?_
 refine AW.cD ((k : Int) < (a.length : Int)) (fun h2 => ?_) (fun h2 => ?_)
 · refine AW.skip ?_
   refine AW.seq ?_
   refine AW.block ?_
   refine AW.seq ?_
   refine AW.gD Try_mix ?_
   refine At.a 2 ?_
   refine At.iSl 28 19 (.tmp 17) (.tmp 18) false 1 (a.map encU8) .i64 (k : Int) 5 (by omega) (by simp only [List.length_map]; omega) ?_
   refine Exists.elim (gE a k (by omega)) fun e1 he1 => ?_
   refine At.lVp 5 20 (.tmp 19) false 1 (a.map encU8) k 0 false 1 (encU8 e1) (.int .u8 (e1.toNat : Int)) (mapGet he1) ?_
   refine At.a 2 ?_
   refine At.iSl 28 23 (.tmp 21) (.tmp 22) false 1 (b.map encU8) .i64 (k : Int) 5 (by omega) (by simp only [List.length_map]; omega) ?_
   refine Exists.elim (gE b k (by omega)) fun e2 he2 => ?_
   refine At.lVp 5 24 (.tmp 23) false 1 (b.map encU8) k 0 false 1 (encU8 e2) (.int .u8 (e2.toNat : Int)) (mapGet he2) ?_
   refine At.zD 1 ?_
   refine AW.cU (e1.toNat : Int) (e2.toNat : Int) (fun h3 => ?_) (fun h3 => ?_)
   · refine AW.q 1 ?_
     refine AW.ret ?_
     refine ⟨_, Sub.refl _ _, ?_⟩
     refine KF.conv (fun w => .bool w) (fun w => []) (show (false) = (listEq eqU a b) from by rw [hR, dropCons he1, dropCons he2, listEq]; simp [eqU, *]) ?_
     exact KF.n []
   refine AW.skip ?_
   refine AW.g ?_
   refine At.a 2 ?_
   refine At.sI 16 ((k : Int) + 1) (by omega) ?_
   refine At.z 1 ?_
   exact ⟨k + 1, ⟨by omega, by rw [hR, dropCons he1, dropCons he2, listEq]; simp [eqU, *]⟩, (by omega), Sub.o [] [true, true, false, false, false, true]⟩
 refine AW.exit ?_
 refine AW.q 1 ?_
 refine AW.ret ?_
 refine ⟨_, Sub.refl _ _, ?_⟩
 refine KF.conv (fun w => .bool w) (fun w => []) (show (true) = (listEq eqU a b) from by rw [hR, List.drop_of_length_le (by omega), List.drop_of_length_le (by omega)]; rfl) ?_
 exact KF.n []
theorem laws_markByteS_spec  (a : List UInt8) (k : Int) (hk : 0 ≤ k) (ha : a.length ≤ 1048576) (he : ends nxU a k ≤ 4611686018427387904) : FnSpec Try.prog 13 [.ref 0, .int .i64 k] [.arr 5 1 (a.map encU8)] (.int .i64 (ends nxU a k)) [.arr 5 1 ((marks markU nxU a k).map encU8)] := by
 refine FnSpec.of 20 Try.func13 rfl Try.ntmps13 (by simp) (AW.weakK ?_)
 refine AW.q 1 ?_
 refine AW.seq ?_
 refine AW.q 1 ?_
 refine AW.block ?_
 refine AW.loopW (fun (x : Nat × Int × List UInt8) => match x with | (i, kk, o) => Go.Sy.mk [.ref 0, .int .i64 kk, .un, .un, .un, .int .i64 (i : Int)] [(0, .arr 5 1 (o.map encU8))]) (fun (x : Nat × Int × List UInt8) => match x with | (i, kk, o) => 0 ≤ kk ∧ MInv markU nxU a k i kk o) (fun (x : Nat × Int × List UInt8) => match x with | (i, kk, o) => a.length - i) (0, k, a) ⟨hk, MInv.start⟩ (Sub.o [(0, 0)] [true, true, false, false, false, true]) ?_
 rintro ⟨i, kk, o⟩ ⟨hkk, hR⟩
 have hle := hR.ge nxU_ge
 have hlo := hR.2.1
 refine AW.seq ?_
 refine AW.r ?_
 refine At.a 3 ?_
 refine At.sL 8 encU8 o ?_
 refine At.z 1 ?_
 refine AW.cD ((i : Int) < (o.length : Int)) (fun h1 => ?_) (fun h1 => ?_)
 · refine AW.skip ?_
   refine AW.seq ?_
   refine AW.block ?_
   refine AW.r ?_
   refine At.a 3 ?_
   refine At.conv (s := 3) (t := 5) (d := 15) (x := .tmp 14) (kd := .i64) (kd' := .u8) (a := kk) (.int .u8 ((u8Of kk).toNat : Int)) (by kernel_rfl) (by kernel_rfl) (by kernel_rfl) (by kernel_rfl) (sayByte _) ?_
   refine At.iRf 28 16 (.tmp 12) (.tmp 13) 0 (o.map encU8) .i64 (i : Int) 5 1 (by omega) (by simp only [List.length_map]; omega) ?_
   refine Exists.elim (gE o i (by omega)) fun e1 he1 => ?_
   have hlt := hR.le nxU_ge he1
   rw [nxU] at hlt
   refine At.sEl 5 0 5 1 i 0 (.tmp 16) (.tmp 15) (o.map encU8) ((o.set i (u8Of kk)).map encU8) [.int .u8 ((u8Of kk).toNat : Int)] (.int .u8 ((u8Of kk).toNat : Int)) (encU8 e1) (encU8 (u8Of kk)) (mapGet he1) setV ?_
   refine At.done rfl ?_
   refine AW.g ?_
   refine At.a 2 ?_
   refine At.sI 18 (kk + 1) (by omega) ?_
   refine At.z 1 ?_
   refine AW.g ?_
   refine At.a 2 ?_
   refine At.sI 11 ((i : Int) + 1) (by omega) ?_
   refine At.z 1 ?_
   exact ⟨(i + 1, (kk + 1), (o.set i (u8Of kk))), ⟨by omega, hR.step he1 rfl rfl⟩, (by simp only; omega), Sub.o [(0, 0)] [true, true, false, false, false, true]⟩
 refine AW.exit ?_
 refine AW.q 2 ?_
 refine AW.ret ?_
 refine ⟨_, Sub.refl _ _, ?_⟩
 refine KF.conv (fun w => .int .i64 w) (fun w => [.arr 5 1 ((marks markU nxU a k).map encU8)]) (show (kk) = (ends nxU a k) from (hR.done (by omega)).2) ?_
 refine KF.conv (fun w => .int .i64 kk) (fun w => [.arr 5 1 (w.map encU8)]) (show (o) = (marks markU nxU a k) from (hR.done (by omega)).1) ?_
 exact KF.n [(0, 0)]
theorem laws_markText_spec  (k : Int) (hk : k ≤ 4611686018427387904) : FnSpec Try.prog 72 [.int .i64 k] [] (.str (markT k)) [] := by
 refine FnSpec.of 20 Try.func72 rfl Try.ntmps72 (by simp) (AW.weakK ?_)
 refine AW.q 1 ?_
 refine AW.seq ?_
 refine AW.q 2 ?_
 refine AW.cD (k ≤ 0) (fun h1 => ?_) (fun h1 => ?_)
 · refine AW.q 1 ?_
   refine AW.ret ?_
   refine ⟨_, Sub.refl _ _, ?_⟩
   refine KF.conv (fun w => .str w) (fun w => []) (show ((⟨#[109, 48]⟩ : ByteArray)) = (markT k) from by rw [markT, if_pos (by omega)]) ?_
   exact KF.n []
 refine AW.skip ?_
 refine AW.q 1 ?_
 refine AW.seq ?_
 refine AW.block ?_
 refine AW.loopW (fun (x : Int × ByteArray) => match x with | (n, acc) => Go.Sy.mk [.int .i64 n, .un, .un, .str acc] []) (fun (x : Int × ByteArray) => match x with | (n, acc) => 0 ≤ n ∧ (acc.size : Int) + n ≤ k ∧ markGo k.toNat ⟨#[]⟩ = markGo n.toNat acc) (fun (x : Int × ByteArray) => match x with | (n, acc) => n.toNat) (k, ⟨#[]⟩) ⟨by omega, by show ((0 : Nat) : Int) + k ≤ k; omega, rfl⟩ (Sub.o [] [true, false, false, true]) ?_
 rintro ⟨n, acc⟩ ⟨hn, hs, hR⟩
 refine AW.seq ?_
 refine AW.q 2 ?_
 refine AW.cD (n > 0) (fun h2 => ?_) (fun h2 => ?_)
 · refine AW.skip ?_
   refine AW.block ?_
   refine AW.r ?_
   refine At.a 1 ?_
   refine At.div (t := 3) (u := 3) (d := 9) (op := .rem) (x := .tmp 8) (y := .const (.int .i64 10)) (kd := .i64) (a := n) (b := 10) (by kernel_rfl) (by kernel_rfl) (by kernel_rfl) (by kernel_rfl) (by omega) (.int .i64 (n.tmod 10)) (.inr ⟨rfl, rfl⟩) ?_
   refine At.say 9 (.int .i64 (n.tmod 10)) (.int .i64 (n % 10)) (by kernel_rfl) (sayRem (by omega)) ?_
   refine At.a 1 ?_
   refine At.sI 10 (48 + (n % 10)) (by omega) ?_
   refine At.conv (s := 3) (t := 5) (d := 11) (x := .tmp 10) (kd := .i64) (kd' := .u8) (a := 48 + (n % 10)) (.int .u8 ((u8Of (48 + (n % 10))).toNat : Int)) (by kernel_rfl) (by kernel_rfl) (by kernel_rfl) (by kernel_rfl) (sayByte _) ?_
   refine At.ll 12 5 1 112 (56, 6) (([(u8Of (48 + (n % 10)))]).map encU8) ?_
   refine At.b2s (s := 28) (t := 9) (e := 5) (d := 13) (x := .tmp 12) (T := .ref 112) ([(u8Of (48 + (n % 10)))]) [] (by kernel_rfl) (by kernel_rfl) (by kernel_rfl) (by kernel_rfl) ⟨by kernel_rfl, .inl ⟨rfl, (allP_encU8 _)⟩⟩ ?_
   refine At.a 1 ?_
   refine At.cat (t := 9) (u := 9) (d := 15) (x := .tmp 13) (y := .tmp 14) (a := strOf ([(u8Of (48 + (n % 10)))])) (b := acc) (by kernel_rfl) (by kernel_rfl) (by kernel_rfl) (by kernel_rfl) (by simp only [strOf_size, cat_size, List.length_cons, List.length_nil]; omega) ?_
   refine At.z 1 ?_
   refine AW.g ?_
   refine At.a 1 ?_
   refine At.div (t := 3) (u := 3) (d := 17) (op := .quo) (x := .tmp 16) (y := .const (.int .i64 10)) (kd := .i64) (a := n) (b := 10) (by kernel_rfl) (by kernel_rfl) (by kernel_rfl) (by kernel_rfl) (by omega) (.int .i64 (IntKind.i64.wrap (n.tdiv 10))) (.inl ⟨rfl, rfl⟩) ?_
   refine At.say 17 (.int .i64 (IntKind.i64.wrap (n.tdiv 10))) (.int .i64 (n / 10)) (by kernel_rfl) (sayQuo (by omega) (by omega) (by omega)) ?_
   refine At.z 1 ?_
   exact ⟨((n / 10), ((strOf ([(u8Of (48 + (n % 10)))])) ++ acc)), ⟨by omega, by rw [cat_size, strOf_size]; simp only [List.length_cons, List.length_nil]; omega, by rw [hR, markGo_step (by assumption)]⟩, (by simp only; omega), Sub.o [] [true, false, false, true]⟩
 refine AW.exit ?_
 refine AW.r ?_
 refine At.a 1 ?_
 refine At.cat (t := 9) (u := 9) (d := 19) (x := .const (.string ⟨#[109]⟩)) (y := .tmp 18) (a := (⟨#[109]⟩ : ByteArray)) (b := acc) (by kernel_rfl) (by kernel_rfl) (by kernel_rfl) (by kernel_rfl) (by have q : (⟨#[109]⟩ : ByteArray).size = 1 := rfl; rw [q]; omega) ?_
 refine At.z 1 ?_
 refine AW.ret ?_
 refine ⟨_, Sub.refl _ _, ?_⟩
 refine KF.conv (fun w => .str w) (fun w => []) (show ((⟨#[109]⟩ : ByteArray) ++ acc) = (markT k) from by rw [markT, if_neg (by omega), hR, markGo_zero (by assumption)]) ?_
 exact KF.n []
theorem laws_markEntryS_spec  (a : List Ent) (k : Int) (hk : 0 ≤ k) (ha : a.length ≤ 1048576) (he : ends nxE a k ≤ 4611686018427387904) : FnSpec Try.prog 42 [.ref 0, .int .i64 k] [.arr 56 6 (a.map encEnt)] (.int .i64 (ends nxE a k)) [.arr 56 6 ((marks markE nxE a k).map encEnt)] := by
 refine FnSpec.of 61 Try.func42 rfl Try.ntmps42 (by simp) (AW.weakK ?_)
 refine AW.q 1 ?_
 refine AW.seq ?_
 refine AW.q 1 ?_
 refine AW.block ?_
 refine AW.loopW (fun (x : Nat × Int × List Ent) => match x with | (i, kk, o) => Go.Sy.mk [.ref 0, .int .i64 kk, .un, .un, .un, .int .i64 (i : Int)] [(0, .arr 56 6 (o.map encEnt))]) (fun (x : Nat × Int × List Ent) => match x with | (i, kk, o) => 0 ≤ kk ∧ MInv markE nxE a k i kk o) (fun (x : Nat × Int × List Ent) => match x with | (i, kk, o) => a.length - i) (0, k, a) ⟨hk, MInv.start⟩ (Sub.o [(0, 0)] [true, true, false, false, false, true]) ?_
 rintro ⟨i, kk, o⟩ ⟨hkk, hR⟩
 have hle := hR.ge nxE_ge
 have hlo := hR.2.1
 refine AW.seq ?_
 refine AW.r ?_
 refine At.a 3 ?_
 refine At.sL 8 encEnt o ?_
 refine At.z 1 ?_
 refine AW.cD ((i : Int) < (o.length : Int)) (fun h1 => ?_) (fun h1 => ?_)
 · refine AW.skip ?_
   refine AW.seq ?_
   refine AW.block ?_
   refine AW.r ?_
   refine At.a 3 ?_
   refine At.iRf 32 15 (.tmp 12) (.tmp 13) 0 (o.map encEnt) .i64 (i : Int) 56 6 (by omega) (by simp only [List.length_map]; omega) ?_
   refine At.a 1 ?_
   refine Exists.elim (gE o i (by omega)) fun e1 he1 => ?_
   have hlt := hR.le nxE_ge he1
   rw [nxE] at hlt
   refine At.sEl 3 0 56 6 i 0 (.tmp 16) (.tmp 14) (o.map encEnt) ((o.set i (⟨kk, e1.cmd⟩ : Ent)).map encEnt) [.int .i64 kk] (.int .i64 kk) (encEnt e1) (encEnt (⟨kk, e1.cmd⟩ : Ent)) (mapGet he1) setV ?_
   refine At.done rfl ?_
   refine AW.r ?_
   refine At.a 2 ?_
   refine At.sI 18 (kk + 1) (by omega) ?_
   refine At.z 1 ?_
   refine AW.r ?_
   refine At.a 3 ?_
   refine At.iRf 32 22 (.tmp 19) (.tmp 20) 0 ((o.set i (⟨kk, e1.cmd⟩ : Ent)).map encEnt) .i64 (i : Int) 56 6 (by omega) (by simp only [List.length_map, List.length_append, List.length_take, List.length_drop, List.length_replicate, List.length_set, List.length_cons, List.length_nil]; omega) ?_
   refine At.a 2 ?_
   refine At.sEl 3 0 56 6 i 1 (.tmp 24) (.tmp 21) ((o.set i (⟨kk, e1.cmd⟩ : Ent)).map encEnt) ((o.set i (⟨kk, ⟨kk + 1, e1.cmd.release, e1.cmd.node, e1.cmd.size, e1.cmd.digest⟩⟩ : Ent)).map encEnt) [.int .i64 (kk + 1)] (.int .i64 (kk + 1)) (encEnt (⟨kk, e1.cmd⟩ : Ent)) (encEnt (⟨kk, ⟨kk + 1, e1.cmd.release, e1.cmd.node, e1.cmd.size, e1.cmd.digest⟩⟩ : Ent)) (mapGet (setGet he1)) setSetV ?_
   refine At.done rfl ?_
   refine AW.r ?_
   refine At.a 2 ?_
   refine At.sJ 26 ((kk + 1) + 1) (kk + 2) (by omega) (by omega) ?_
   refine At.z 1 ?_
   refine AW.r ?_
   refine At.a 3 ?_
   refine At.iRf 32 30 (.tmp 27) (.tmp 28) 0 ((o.set i (⟨kk, ⟨kk + 1, e1.cmd.release, e1.cmd.node, e1.cmd.size, e1.cmd.digest⟩⟩ : Ent)).map encEnt) .i64 (i : Int) 56 6 (by omega) (by simp only [List.length_map, List.length_append, List.length_take, List.length_drop, List.length_replicate, List.length_set, List.length_cons, List.length_nil]; omega) ?_
   refine At.a 2 ?_
   refine At.sEl 3 0 56 6 i 2 (.tmp 32) (.tmp 29) ((o.set i (⟨kk, ⟨kk + 1, e1.cmd.release, e1.cmd.node, e1.cmd.size, e1.cmd.digest⟩⟩ : Ent)).map encEnt) ((o.set i (⟨kk, ⟨kk + 1, kk + 2, e1.cmd.node, e1.cmd.size, e1.cmd.digest⟩⟩ : Ent)).map encEnt) [.int .i64 (kk + 2)] (.int .i64 (kk + 2)) (encEnt (⟨kk, ⟨kk + 1, e1.cmd.release, e1.cmd.node, e1.cmd.size, e1.cmd.digest⟩⟩ : Ent)) (encEnt (⟨kk, ⟨kk + 1, kk + 2, e1.cmd.node, e1.cmd.size, e1.cmd.digest⟩⟩ : Ent)) (mapGet (setGet he1)) setSetV ?_
   refine At.done rfl ?_
   refine AW.r ?_
   refine At.a 2 ?_
   refine At.sJ 34 ((kk + 2) + 1) (kk + 3) (by omega) (by omega) ?_
   refine At.z 1 ?_
   refine AW.r ?_
   refine At.a 3 ?_
   refine At.iRf 32 38 (.tmp 35) (.tmp 36) 0 ((o.set i (⟨kk, ⟨kk + 1, kk + 2, e1.cmd.node, e1.cmd.size, e1.cmd.digest⟩⟩ : Ent)).map encEnt) .i64 (i : Int) 56 6 (by omega) (by simp only [List.length_map, List.length_append, List.length_take, List.length_drop, List.length_replicate, List.length_set, List.length_cons, List.length_nil]; omega) ?_
   refine At.a 2 ?_
   refine At.sEl 3 0 56 6 i 3 (.tmp 40) (.tmp 37) ((o.set i (⟨kk, ⟨kk + 1, kk + 2, e1.cmd.node, e1.cmd.size, e1.cmd.digest⟩⟩ : Ent)).map encEnt) ((o.set i (⟨kk, ⟨kk + 1, kk + 2, kk + 3, e1.cmd.size, e1.cmd.digest⟩⟩ : Ent)).map encEnt) [.int .i64 (kk + 3)] (.int .i64 (kk + 3)) (encEnt (⟨kk, ⟨kk + 1, kk + 2, e1.cmd.node, e1.cmd.size, e1.cmd.digest⟩⟩ : Ent)) (encEnt (⟨kk, ⟨kk + 1, kk + 2, kk + 3, e1.cmd.size, e1.cmd.digest⟩⟩ : Ent)) (mapGet (setGet he1)) setSetV ?_
   refine At.done rfl ?_
   refine AW.r ?_
   refine At.a 2 ?_
   refine At.sJ 42 ((kk + 3) + 1) (kk + 4) (by omega) (by omega) ?_
   refine At.z 1 ?_
   refine AW.r ?_
   refine At.a 3 ?_
   refine At.iRf 32 46 (.tmp 43) (.tmp 44) 0 ((o.set i (⟨kk, ⟨kk + 1, kk + 2, kk + 3, e1.cmd.size, e1.cmd.digest⟩⟩ : Ent)).map encEnt) .i64 (i : Int) 56 6 (by omega) (by simp only [List.length_map, List.length_append, List.length_take, List.length_drop, List.length_replicate, List.length_set, List.length_cons, List.length_nil]; omega) ?_
   refine At.a 2 ?_
   refine At.sEl 3 0 56 6 i 4 (.tmp 48) (.tmp 45) ((o.set i (⟨kk, ⟨kk + 1, kk + 2, kk + 3, e1.cmd.size, e1.cmd.digest⟩⟩ : Ent)).map encEnt) ((o.set i (⟨kk, ⟨kk + 1, kk + 2, kk + 3, kk + 4, e1.cmd.digest⟩⟩ : Ent)).map encEnt) [.int .i64 (kk + 4)] (.int .i64 (kk + 4)) (encEnt (⟨kk, ⟨kk + 1, kk + 2, kk + 3, e1.cmd.size, e1.cmd.digest⟩⟩ : Ent)) (encEnt (⟨kk, ⟨kk + 1, kk + 2, kk + 3, kk + 4, e1.cmd.digest⟩⟩ : Ent)) (mapGet (setGet he1)) setSetV ?_
   refine At.done rfl ?_
   refine AW.r ?_
   refine At.a 2 ?_
   refine At.sJ 50 ((kk + 4) + 1) (kk + 5) (by omega) (by omega) ?_
   refine At.z 1 ?_
   refine AW.r ?_
   refine At.a 3 ?_
   refine At.c (laws_markText_spec  (kk + 5) (by omega)) Try.call72 true [] [] [] trivial ?_
   refine At.iRf 32 55 (.tmp 51) (.tmp 52) 0 ((o.set i (⟨kk, ⟨kk + 1, kk + 2, kk + 3, kk + 4, e1.cmd.digest⟩⟩ : Ent)).map encEnt) .i64 (i : Int) 56 6 (by omega) (by simp only [List.length_map, List.length_append, List.length_take, List.length_drop, List.length_replicate, List.length_set, List.length_cons, List.length_nil]; omega) ?_
   refine At.a 2 ?_
   refine At.sEl 9 0 56 6 i 5 (.tmp 57) (.tmp 54) ((o.set i (⟨kk, ⟨kk + 1, kk + 2, kk + 3, kk + 4, e1.cmd.digest⟩⟩ : Ent)).map encEnt) ((o.set i (⟨kk, ⟨kk + 1, kk + 2, kk + 3, kk + 4, markT (kk + 5)⟩⟩ : Ent)).map encEnt) [.str (markT (kk + 5))] (.str (markT (kk + 5))) (encEnt (⟨kk, ⟨kk + 1, kk + 2, kk + 3, kk + 4, e1.cmd.digest⟩⟩ : Ent)) (encEnt (⟨kk, ⟨kk + 1, kk + 2, kk + 3, kk + 4, markT (kk + 5)⟩⟩ : Ent)) (mapGet (setGet he1)) setSetV ?_
   refine At.done rfl ?_
   refine AW.g ?_
   refine At.a 2 ?_
   refine At.sJ 59 ((kk + 5) + 1) (kk + 6) (by omega) (by omega) ?_
   refine At.z 1 ?_
   refine AW.g ?_
   refine At.a 2 ?_
   refine At.sI 11 ((i : Int) + 1) (by omega) ?_
   refine At.z 1 ?_
   exact ⟨(i + 1, (kk + 6), (o.set i (⟨kk, ⟨kk + 1, kk + 2, kk + 3, kk + 4, markT (kk + 5)⟩⟩ : Ent))), ⟨by omega, hR.step he1 rfl rfl⟩, (by simp only; omega), Sub.o [(0, 0)] [true, true, false, false, false, true]⟩
 refine AW.exit ?_
 refine AW.q 2 ?_
 refine AW.ret ?_
 refine ⟨_, Sub.refl _ _, ?_⟩
 refine KF.conv (fun w => .int .i64 w) (fun w => [.arr 56 6 ((marks markE nxE a k).map encEnt)]) (show (kk) = (ends nxE a k) from (hR.done (by omega)).2) ?_
 refine KF.conv (fun w => .int .i64 kk) (fun w => [.arr 56 6 (w.map encEnt)]) (show (o) = (marks markE nxE a k) from (hR.done (by omega)).1) ?_
 exact KF.n [(0, 0)]
theorem laws_markMsg_spec  (a : Msg) (k : Int) (hk : 0 ≤ k) (ha : a.entries.length ≤ 1048576) (he : ends nxE a.entries k ≤ 4611686018427387904) : FnSpec Try.prog 12 [.agg [.int .i64 a.kind, .int .i64 a.from_, .int .i64 a.term, .int .i64 a.at_, .int .i64 a.atTerm, .int .i64 a.commit, .bool a.yes, .int .i64 a.release, .int .i64 a.part, .str a.bytes, .int .i64 a.cmd.kind, .int .i64 a.cmd.release, .int .i64 a.cmd.node, .int .i64 a.cmd.size, .str a.cmd.digest, .ref 0], .int .i64 k] [.arr 56 6 (a.entries.map encEnt)] (.int .i64 (ends nxE a.entries k)) [.arr 56 6 ((marks markE nxE a.entries k).map encEnt)] := by
 refine FnSpec.of 10 Try.func12 rfl Try.ntmps12 (by simp) (AW.weakK ?_)
 refine AW.q 2 ?_
 refine AW.r ?_
 refine At.a 3 ?_
 refine At.c (laws_markEntryS_spec  a.entries k (by omega) (by omega) (by omega)) Try.call42 true [(0, 0)] [] [] trivial ?_
 refine At.z 1 ?_
 refine AW.q 2 ?_
 exact AW.ret (rf (KF.n [(0, 0)]))
theorem laws_heldEntryS_spec  (a : List Ent) (k : Int) (ha : a.length ≤ 1048576) (hk : 0 ≤ k ∧ k + 20 * a.length ≤ 4611686018427387904) : FnSpec Try.prog 49 [.sl false 6 (a.map encEnt), .int .i64 k] [] (.int .i64 (held okE nxE a k)) [] := by
 refine FnSpec.of 73 Try.func49 rfl Try.ntmps49 (by simp) (AW.weakK ?_)
 refine AW.q 1 ?_
 refine AW.seq ?_
 refine AW.q 1 ?_
 refine AW.block ?_
 refine AW.loopW (fun (x : Nat × Int) => match x with | (i, kk) => Go.Sy.mk [.sl false 6 (a.map encEnt), .int .i64 kk, .un, .un, .un, .int .i64 (i : Int)] []) (fun (x : Nat × Int) => match x with | (i, kk) => i ≤ a.length ∧ 0 ≤ kk ∧ kk + 20 * ((a.length : Int) - i) ≤ 4611686018427387904 ∧ held okE nxE a k = held okE nxE (a.drop i) kk) (fun (x : Nat × Int) => match x with | (i, kk) => a.length - i) (0, k) ⟨by omega, by omega, by omega, by rw [List.drop_zero]⟩ (Sub.o [] [true, true, false, false, false, true]) ?_
 rintro ⟨i, kk⟩ ⟨hi, hkk, hkb, hR⟩
 refine AW.seq ?_
 refine AW.r ?_
 refine At.a 3 ?_
 refine At.sL 8 encEnt a ?_
 refine At.z 1 ?_
 refine AW.cD ((i : Int) < (a.length : Int)) (fun h1 => ?_) (fun h1 => ?_)
 · refine AW.skip ?_
   refine AW.seq ?_
   refine AW.block ?_
   refine AW.seq ?_
   refine AW.r ?_
   refine At.a 2 ?_
   refine At.iSl 32 14 (.tmp 12) (.tmp 13) false 6 (a.map encEnt) .i64 (i : Int) 56 (by omega) (by simp only [List.length_map]; omega) ?_
   refine At.a 1 ?_
   refine Exists.elim (gE a i (by omega)) fun e1 he1 => ?_
   refine At.lVp 3 16 (.tmp 15) false 6 (a.map encEnt) i 0 false 1 (encEnt e1) (.int .i64 e1.term) (mapGet he1) ?_
   refine At.z 2 ?_
   refine AW.cU e1.term kk (fun h2 => ?_) (fun h2 => ?_)
   · refine AW.q 1 ?_
     refine AW.ret ?_
     refine ⟨_, Sub.refl _ _, ?_⟩
     refine KF.conv (fun w => .int .i64 w) (fun w => []) (show (-1) = (held okE nxE a k) from by rw [hR, dropCons he1, held, if_neg (by simp [okE, h1, h2])]) ?_
     exact KF.n []
   refine AW.skip ?_
   refine AW.r ?_
   refine At.a 2 ?_
   refine At.sI 20 (kk + 1) (by omega) ?_
   refine At.z 1 ?_
   refine AW.seq ?_
   refine AW.r ?_
   refine At.a 2 ?_
   refine At.iSl 32 23 (.tmp 21) (.tmp 22) false 6 (a.map encEnt) .i64 (i : Int) 56 (by omega) (by simp only [List.length_map]; omega) ?_
   refine At.a 2 ?_
   refine At.lVp 3 26 (.tmp 25) false 6 (a.map encEnt) i 1 false 1 (encEnt e1) (.int .i64 e1.cmd.kind) (mapGet he1) ?_
   refine At.z 2 ?_
   refine AW.cU e1.cmd.kind (kk + 1) (fun h3 => ?_) (fun h3 => ?_)
   · refine AW.q 1 ?_
     refine AW.ret ?_
     refine ⟨_, Sub.refl _ _, ?_⟩
     refine KF.conv (fun w => .int .i64 w) (fun w => []) (show (-1) = (held okE nxE a k) from by rw [hR, dropCons he1, held, if_neg (by simp [okE, h1, h2, h3])]) ?_
     exact KF.n []
   refine AW.skip ?_
   refine AW.r ?_
   refine At.a 2 ?_
   refine At.sJ 30 ((kk + 1) + 1) (kk + 2) (by omega) (by omega) ?_
   refine At.z 1 ?_
   refine AW.seq ?_
   refine AW.r ?_
   refine At.a 2 ?_
   refine At.iSl 32 33 (.tmp 31) (.tmp 32) false 6 (a.map encEnt) .i64 (i : Int) 56 (by omega) (by simp only [List.length_map]; omega) ?_
   refine At.a 2 ?_
   refine At.lVp 3 36 (.tmp 35) false 6 (a.map encEnt) i 2 false 1 (encEnt e1) (.int .i64 e1.cmd.release) (mapGet he1) ?_
   refine At.z 2 ?_
   refine AW.cU e1.cmd.release (kk + 2) (fun h4 => ?_) (fun h4 => ?_)
   · refine AW.q 1 ?_
     refine AW.ret ?_
     refine ⟨_, Sub.refl _ _, ?_⟩
     refine KF.conv (fun w => .int .i64 w) (fun w => []) (show (-1) = (held okE nxE a k) from by rw [hR, dropCons he1, held, if_neg (by simp [okE, h1, h2, h3, h4])]) ?_
     exact KF.n []
   refine AW.skip ?_
   refine AW.r ?_
   refine At.a 2 ?_
   refine At.sJ 40 ((kk + 2) + 1) (kk + 3) (by omega) (by omega) ?_
   refine At.z 1 ?_
   refine AW.seq ?_
   refine AW.r ?_
   refine At.a 2 ?_
   refine At.iSl 32 43 (.tmp 41) (.tmp 42) false 6 (a.map encEnt) .i64 (i : Int) 56 (by omega) (by simp only [List.length_map]; omega) ?_
   refine At.a 2 ?_
   refine At.lVp 3 46 (.tmp 45) false 6 (a.map encEnt) i 3 false 1 (encEnt e1) (.int .i64 e1.cmd.node) (mapGet he1) ?_
   refine At.z 2 ?_
   refine AW.cU e1.cmd.node (kk + 3) (fun h5 => ?_) (fun h5 => ?_)
   · refine AW.q 1 ?_
     refine AW.ret ?_
     refine ⟨_, Sub.refl _ _, ?_⟩
     refine KF.conv (fun w => .int .i64 w) (fun w => []) (show (-1) = (held okE nxE a k) from by rw [hR, dropCons he1, held, if_neg (by simp [okE, h1, h2, h3, h4, h5])]) ?_
     exact KF.n []
   refine AW.skip ?_
   refine AW.r ?_
   refine At.a 2 ?_
   refine At.sJ 50 ((kk + 3) + 1) (kk + 4) (by omega) (by omega) ?_
   refine At.z 1 ?_
   refine AW.seq ?_
   refine AW.r ?_
   refine At.a 2 ?_
   refine At.iSl 32 53 (.tmp 51) (.tmp 52) false 6 (a.map encEnt) .i64 (i : Int) 56 (by omega) (by simp only [List.length_map]; omega) ?_
   refine At.a 2 ?_
   refine At.lVp 3 56 (.tmp 55) false 6 (a.map encEnt) i 4 false 1 (encEnt e1) (.int .i64 e1.cmd.size) (mapGet he1) ?_
   refine At.z 2 ?_
   refine AW.cU e1.cmd.size (kk + 4) (fun h6 => ?_) (fun h6 => ?_)
   · refine AW.q 1 ?_
     refine AW.ret ?_
     refine ⟨_, Sub.refl _ _, ?_⟩
     refine KF.conv (fun w => .int .i64 w) (fun w => []) (show (-1) = (held okE nxE a k) from by rw [hR, dropCons he1, held, if_neg (by simp [okE, h1, h2, h3, h4, h5, h6])]) ?_
     exact KF.n []
   refine AW.skip ?_
   refine AW.r ?_
   refine At.a 2 ?_
   refine At.sJ 60 ((kk + 4) + 1) (kk + 5) (by omega) (by omega) ?_
   refine At.z 1 ?_
   refine AW.seq ?_
   refine AW.seq ?_
   refine AW.gD Try_mix ?_
   refine At.a 2 ?_
   refine At.iSl 32 63 (.tmp 61) (.tmp 62) false 6 (a.map encEnt) .i64 (i : Int) 56 (by omega) (by simp only [List.length_map]; omega) ?_
   refine At.a 2 ?_
   refine At.lVp 9 66 (.tmp 65) false 6 (a.map encEnt) i 5 false 1 (encEnt e1) (.str e1.cmd.digest) (mapGet he1) ?_
   refine At.a 1 ?_
   refine At.c (laws_markText_spec  (kk + 5) (by omega)) Try.call72 true [] [] [] trivial ?_
   refine At.zD 1 ?_
   refine AW.cNE (e1.cmd.digest.toList) ((markT (kk + 5)).toList) (fun h7 => ?_) (fun h7 => ?_)
   · refine AW.q 1 ?_
     refine AW.ret ?_
     refine ⟨_, Sub.refl _ _, ?_⟩
     refine KF.conv (fun w => .int .i64 w) (fun w => []) (show (-1) = (held okE nxE a k) from by rw [hR, dropCons he1, held, if_neg (by simp [okE, h1, h2, h3, h4, h5, h6, h7])]) ?_
     exact KF.n []
   refine AW.skip ?_
   refine AW.g ?_
   refine At.a 2 ?_
   refine At.sJ 71 ((kk + 5) + 1) (kk + 6) (by omega) (by omega) ?_
   refine At.z 1 ?_
   refine AW.g ?_
   refine At.a 2 ?_
   refine At.sI 11 ((i : Int) + 1) (by omega) ?_
   refine At.z 1 ?_
   exact ⟨(i + 1, (kk + 6)), ⟨by omega, by omega, by omega, by rw [hR, dropCons he1, held, if_pos (by simp [okE, h1, h2, h3, h4, h5, h6, h7])]; rfl⟩, (by simp only; omega), Sub.o [] [true, true, false, false, false, true]⟩
 refine AW.exit ?_
 refine AW.q 2 ?_
 refine AW.ret ?_
 refine ⟨_, Sub.refl _ _, ?_⟩
 refine KF.conv (fun w => .int .i64 w) (fun w => []) (show (kk) = (held okE nxE a k) from by rw [hR, List.drop_of_length_le (by omega)]; rfl) ?_
 exact KF.n []
theorem laws_heldMsg_spec  (a : Msg) (k : Int) (ha : a.entries.length ≤ 1048576) (hk : 0 ≤ k ∧ k ≤ 4611686018000000000) : FnSpec Try.prog 18 [(msgA a), .int .i64 k] [] (.int .i64 (held okE nxE a.entries k)) [] := by
 refine FnSpec.of 12 Try.func18 rfl Try.ntmps18 (by simp) (AW.weakK ?_)
 refine AW.q 2 ?_
 refine AW.r ?_
 refine At.a 3 ?_
 refine At.c (laws_heldEntryS_spec  a.entries k (by omega) (by omega)) Try.call49 true [] [] [] trivial ?_
 have hhe := heldE_le a.entries k (by omega)
 refine At.z 1 ?_
 refine AW.seq ?_
 refine AW.q 2 ?_
 refine AW.cD ((held okE nxE a.entries k) < 0) (fun h1 => ?_) (fun h1 => ?_)
 · refine AW.q 1 ?_
   refine AW.ret ?_
   refine ⟨_, Sub.refl _ _, ?_⟩
   refine KF.conv (fun w => .int .i64 w) (fun w => []) (show (-1) = (held okE nxE a.entries k) from by exact (held_neg nxE_ge (by omega) (by assumption)).symm) ?_
   exact KF.n []
 refine AW.skip ?_
 refine AW.q 2 ?_
 exact AW.ret (rf (KF.n []))
theorem laws_FnExactMsgRead_spec  (aB : List UInt8) (hl : aB.length ≤ 9223372036854775807) : FnSpec Try.prog 4 [.sl false 1 (aB.map encU8)] [] (.bool true) [] := by
 have hel := msgR_ents aB
 have hme := endsE_eq (msgR aB).1.entries 1
 have hmk := marks_len (mk := markE) (nx := nxE) (msgR aB).1.entries 1
 have heu := endsU_eq aB 1
 refine FnSpec.of 93 Try.func4 rfl Try.ntmps4 (by simp) (AW.weakK ?_)
 refine AW.q 1 ?_
 refine AW.seq ?_
 refine AW.r ?_
 refine At.a 2 ?_
 refine At.sL 14 encU8 aB ?_
 refine At.z 1 ?_
 refine AW.cD ((aB.length : Int) > 1048576) (fun h1 => ?_) (fun h1 => ?_)
 · refine AW.q 1 ?_
   exact AW.ret (rf (KF.n []))
 refine AW.skip ?_
 refine AW.r ?_
 refine At.a 1 ?_
 refine At.c (laws_toByteS_spec  aB (by omega)) Try.call16 true [] [(1360, 0)] [] trivial ?_
 refine At.c (spec_MsgRead_spec  aB (by omega)) Try.call15 false [] [(1380, 0)] [(1360, 1, (aB.map encU8))] ⟨rfl, ⟨5, (aB.map encU8), by kernel_rfl, FrzIs.same (allP_encU8 _)⟩, trivial⟩ ?_
 refine At.z 6 ?_
 refine AW.r ?_
 refine At.a 1 ?_
 refine At.c (laws_toByteS_spec  aB (by omega)) Try.call16 true [] [(1460, 0)] [] trivial ?_
 refine At.z 1 ?_
 refine AW.r ?_
 refine At.a 1 ?_
 refine At.c (impl_MsgRead_spec  aB (by omega)) Try.call17 false [] [(1520, 0)] [(1460, 1, (aB.map encU8))] ⟨rfl, ⟨5, (aB.map encU8), by kernel_rfl, FrzIs.same (allP_encU8 _)⟩, trivial⟩ ?_
 refine At.z 6 ?_
 refine AW.seq ?_
 refine AW.r ?_
 refine At.a 2 ?_
 refine At.c (laws_eqMsg_spec  ((msgR aB).1) ((msgR aB).1) (by omega) (by omega)) Try.call11 false [] [] [(1520, 6, ((((msgR aB).1).entries).map encEnt)), (1380, 6, ((((msgR aB).1).entries).map encEnt))] ⟨rfl, ⟨56, ((((msgR aB).1).entries).map encEnt), by kernel_rfl, FrzIs.same (allP_encEnt _)⟩, rfl, ⟨56, ((((msgR aB).1).entries).map encEnt), by kernel_rfl, FrzIs.same (allP_encEnt _)⟩, trivial⟩ ?_
 refine At.a 2 ?_
 refine At.sB 33 (!(msgEq ((msgR aB).1) ((msgR aB).1))) false (sayB (by rw [show (msgEq ((msgR aB).1) ((msgR aB).1)) = true from (msgEq_refl _)]; rfl)) ?_
 refine At.z 4 ?_
 refine AW.condF (((msgR aB).2) != ((msgR aB).2)) (by kernel_rfl) (by simp) ?_
 refine AW.skip ?_
 refine AW.seq ?_
 refine AW.r ?_
 refine At.a 2 ?_
 refine At.c (laws_toByteS_spec  aB (by omega)) Try.call16 true [] [(1800, 0)] [] trivial ?_
 refine At.c (laws_eqByteS_spec  aB aB (by omega) (by omega)) Try.call10 false [] [] [(1460, 1, (aB.map encU8)), (1800, 1, (aB.map encU8))] ⟨rfl, ⟨5, (aB.map encU8), by kernel_rfl, FrzIs.same (allP_encU8 _)⟩, rfl, ⟨5, (aB.map encU8), by kernel_rfl, FrzIs.same (allP_encU8 _)⟩, trivial⟩ ?_
 refine At.z 1 ?_
 refine AW.condF (!(listEq eqU aB aB)) (by kernel_rfl) (by rw [show (listEq eqU aB aB) = true from (listEqU_refl _)]; rfl) ?_
 refine AW.skip ?_
 refine AW.q 1 ?_
 refine AW.r ?_
 refine At.a 2 ?_
 refine At.c (laws_markByteS_spec  aB 1 (by omega) (by omega) (by omega)) Try.call13 true [(1460, 0)] [] [] trivial ?_
 refine At.z 1 ?_
 refine AW.seq ?_
 refine AW.r ?_
 refine At.a 3 ?_
 refine At.sB 48 (decide ((ends nxU aB 1) < 0)) false (sayB (decide_eq_false (by omega))) ?_
 refine At.a 2 ?_
 refine At.c (laws_eqMsg_spec  ((msgR aB).1) ((msgR aB).1) (by omega) (by omega)) Try.call11 false [] [] [(1520, 6, ((((msgR aB).1).entries).map encEnt)), (1380, 6, ((((msgR aB).1).entries).map encEnt))] ⟨rfl, ⟨56, ((((msgR aB).1).entries).map encEnt), by kernel_rfl, FrzIs.same (allP_encEnt _)⟩, rfl, ⟨56, ((((msgR aB).1).entries).map encEnt), by kernel_rfl, FrzIs.same (allP_encEnt _)⟩, trivial⟩ ?_
 refine At.a 3 ?_
 refine At.sB 54 (!(msgEq ((msgR aB).1) ((msgR aB).1))) false (sayB (by rw [show (msgEq ((msgR aB).1) ((msgR aB).1)) = true from (msgEq_refl _)]; rfl)) ?_
 refine At.z 4 ?_
 refine AW.condF (((msgR aB).2) != ((msgR aB).2)) (by kernel_rfl) (by simp) ?_
 refine AW.skip ?_
 refine AW.q 1 ?_
 refine AW.r ?_
 refine At.a 2 ?_
 refine At.c (laws_markMsg_spec  ((msgR aB).1) 1 (by omega) (by omega) (by omega)) Try.call12 true [(1520, 0)] [] [] trivial ?_
 refine At.z 1 ?_
 refine AW.q 1 ?_
 refine AW.r ?_
 refine At.a 2 ?_
 refine At.c (laws_heldMsg_spec  (⟨((msgR aB).1).kind, ((msgR aB).1).from_, ((msgR aB).1).term, ((msgR aB).1).at_, ((msgR aB).1).atTerm, ((msgR aB).1).commit, ((msgR aB).1).yes, ((msgR aB).1).release, ((msgR aB).1).part, ((msgR aB).1).bytes, ((msgR aB).1).cmd, marks markE nxE ((msgR aB).1).entries 1⟩ : Msg) 1 (by dsimp only; omega) (by omega)) Try.call18 false [] [] [(1520, 6, ((marks markE nxE ((msgR aB).1).entries 1).map encEnt))] ⟨rfl, ⟨56, ((marks markE nxE ((msgR aB).1).entries 1).map encEnt), by kernel_rfl, FrzIs.same (allP_encEnt _)⟩, trivial⟩ ?_
 refine At.say 64 (.int .i64 (held okE nxE (marks markE nxE ((msgR aB).1).entries 1) 1)) (.int .i64 (ends nxE ((msgR aB).1).entries 1)) (by kernel_rfl) (congrArg (V.int .i64) (held_ents _ _ (by omega))) ?_
 have hhm := heldE_le (marks markE nxE ((msgR aB).1).entries 1) 1 (by omega)
 refine At.z 1 ?_
 refine AW.seq ?_
 refine AW.q 2 ?_
 refine AW.condF (decide ((ends nxE ((msgR aB).1).entries 1) < 0)) (by kernel_rfl) (decide_eq_false (by omega)) ?_
 refine AW.skip ?_
 refine AW.seq ?_
 refine AW.q 3 ?_
 refine AW.condF ((ends nxE ((msgR aB).1).entries 1) != (ends nxE ((msgR aB).1).entries 1)) (by kernel_rfl) (by simp) ?_
 refine AW.skip ?_
 refine AW.r ?_
 refine At.a 1 ?_
 refine At.c (laws_toByteS_spec  aB (by omega)) Try.call16 true [] [(2440, 0)] [] trivial ?_
 refine At.c (impl_MsgRead_spec  aB (by omega)) Try.call17 false [] [(2460, 0)] [(2440, 1, (aB.map encU8))] ⟨rfl, ⟨5, (aB.map encU8), by kernel_rfl, FrzIs.same (allP_encU8 _)⟩, trivial⟩ ?_
 refine At.z 6 ?_
 refine AW.seq ?_
 refine AW.r ?_
 refine At.a 2 ?_
 refine At.c (laws_eqMsg_spec  ((msgR aB).1) ((msgR aB).1) (by omega) (by omega)) Try.call11 false [] [] [(2460, 6, ((((msgR aB).1).entries).map encEnt)), (1380, 6, ((((msgR aB).1).entries).map encEnt))] ⟨rfl, ⟨56, ((((msgR aB).1).entries).map encEnt), by kernel_rfl, FrzIs.same (allP_encEnt _)⟩, rfl, ⟨56, ((((msgR aB).1).entries).map encEnt), by kernel_rfl, FrzIs.same (allP_encEnt _)⟩, trivial⟩ ?_
 refine At.a 2 ?_
 refine At.sB 80 (!(msgEq ((msgR aB).1) ((msgR aB).1))) false (sayB (by rw [show (msgEq ((msgR aB).1) ((msgR aB).1)) = true from (msgEq_refl _)]; rfl)) ?_
 refine At.z 4 ?_
 refine AW.condF (((msgR aB).2) != ((msgR aB).2)) (by kernel_rfl) (by simp) ?_
 refine AW.skip ?_
 refine AW.q 1 ?_
 refine AW.r ?_
 refine At.a 2 ?_
 refine At.c (laws_heldMsg_spec  (⟨((msgR aB).1).kind, ((msgR aB).1).from_, ((msgR aB).1).term, ((msgR aB).1).at_, ((msgR aB).1).atTerm, ((msgR aB).1).commit, ((msgR aB).1).yes, ((msgR aB).1).release, ((msgR aB).1).part, ((msgR aB).1).bytes, ((msgR aB).1).cmd, marks markE nxE ((msgR aB).1).entries 1⟩ : Msg) 1 (by dsimp only; omega) (by omega)) Try.call18 false [] [] [(1520, 6, ((marks markE nxE ((msgR aB).1).entries 1).map encEnt))] ⟨rfl, ⟨56, ((marks markE nxE ((msgR aB).1).entries 1).map encEnt), by kernel_rfl, FrzIs.same (allP_encEnt _)⟩, trivial⟩ ?_
 refine At.say 87 (.int .i64 (held okE nxE (marks markE nxE ((msgR aB).1).entries 1) 1)) (.int .i64 (ends nxE ((msgR aB).1).entries 1)) (by kernel_rfl) (congrArg (V.int .i64) (held_ents _ _ (by omega))) ?_
 have hhm := heldE_le (marks markE nxE ((msgR aB).1).entries 1) 1 (by omega)
 refine At.z 1 ?_
 refine AW.seq ?_
 refine AW.q 2 ?_
 refine AW.condF (decide ((ends nxE ((msgR aB).1).entries 1) < 0)) (by kernel_rfl) (decide_eq_false (by omega)) ?_
 refine AW.skip ?_
 refine AW.seq ?_
 refine AW.q 3 ?_
 refine AW.condF ((ends nxE ((msgR aB).1).entries 1) != (ends nxE ((msgR aB).1).entries 1)) (by kernel_rfl) (by simp) ?_
 refine AW.skip ?_
 refine AW.q 1 ?_
 exact AW.ret (rf (KF.n []))
end Go.Proofs.Ythjmbojkpkbedaa
