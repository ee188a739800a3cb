/- The contracts of the functions that FnMsg reaches (each: what it answers, said over values), printed by a program of this session (wip/sy/g/gen.py). -/
import Derived.Test.YthjmbojkpkbedaaFFnMsg1
set_option linter.unusedVariables false
set_option linter.unusedSimpArgs false
set_option maxRecDepth 100000
set_option maxHeartbeats 4000000
namespace Go.Proofs.Ythjmbojkpkbedaa
open Go Go.Sy Go.Proofs
def K_impl_CmdOk (rs : List ResultVar) (c : Cmd) (w0_ : Bool) : Exit → Sg → Prop := KF Try.prog 0 rs (.bool w0_) []
theorem impl_CmdOk_spec  (c : Cmd) : FnSpec Try.prog 88 [.agg [.int .i64 c.kind, .int .i64 c.release, .int .i64 c.node, .int .i64 c.size, .str c.digest]] [] (.bool (cmdOk c)) [] := by
 refine FnSpec.of 52 Try.func88 rfl Try.ntmps88 (by simp) (AW.weakK ?_)
 refine AW.q 2 ?_
 refine AW.q 3 ?_
 refine AW.q 4 ?_
 refine AW.r ?_
 refine At.a 2 ?_
 refine At.c (impl_isRelease_spec  c.release ) Try.call86 true [] [] [] trivial ?_
 refine At.z 1 ?_
 refine AW.seq ?_
 refine AW.q 2 ?_
 refine AW.block ?_
 refine AW.q 2 ?_
 refine AW.cE c.kind (1 : Int) (fun h1 => ?_) (fun h1 => ?_)
 · refine AW.gq 4 ?_
   refine AW.r ?_
   refine At.a 2 ?_
   by_cases h2 : c.release = 0
   · refine At.sB 47 _ _ (sayET h2) ?_
     refine At.a 2 ?_
     refine At.eqA (t := 31) (u := 31) (d := 50) (op := .eql) (x := .tmp 48) (y := .tmp 49) (X := [.int .i64 0, .int .i64 0, .int .i64 c.node, .int .i64 c.size, .str c.digest]) (Y := [.int .i64 0, .int .i64 0, .int .i64 0, .int .i64 0, .str (⟨#[]⟩ : ByteArray)]) (cmdEq (⟨0, 0, c.node, c.size, c.digest⟩ : Cmd) (⟨0, 0, 0, 0, (⟨#[]⟩ : ByteArray)⟩ : Cmd)) (by kernel_rfl) (by kernel_rfl) (by kernel_rfl) (by kernel_rfl) (by kernel_rfl) (.bool (cmdEq (⟨0, 0, c.node, c.size, c.digest⟩ : Cmd) (⟨0, 0, 0, 0, (⟨#[]⟩ : ByteArray)⟩ : Cmd))) (.inl ⟨rfl, rfl⟩) ?_
     refine At.z 2 ?_
     exact AW.ret (rf (k1 (K_impl_CmdOk _ c) (show (cmdEq (⟨0, 0, c.node, c.size, c.digest⟩ : Cmd) (⟨0, 0, 0, 0, (⟨#[]⟩ : ByteArray)⟩ : Cmd)) = (cmdOk c) from by (try simp only [inR_iff, inR_not] at *); rw [Bool.eq_iff_iff]; simp only [cmdOk, cmdEq, noBytes]; (repeat' split) <;> (try simp [inR_iff]) <;> grind) (KF.n [])))
   refine At.sB 47 _ _ (sayEF h2) ?_
   refine At.z 5 ?_
   exact AW.ret (rf (k1 (K_impl_CmdOk _ c) (show (false) = (cmdOk c) from by (try simp only [inR_iff, inR_not] at *); rw [Bool.eq_iff_iff]; simp only [cmdOk, cmdEq, noBytes]; (repeat' split) <;> (try simp [inR_iff]) <;> grind) (KF.n [])))
 refine AW.q 2 ?_
 refine AW.cE c.kind (2 : Int) (fun h3 => ?_) (fun h3 => ?_)
 · refine AW.r ?_
   refine At.a 2 ?_
   by_cases h4 : (inR c.release 1 1000) = true
   · refine At.sB 21 (inR c.release 1 1000) true (sayB h4) ?_
     refine At.a 2 ?_
     refine At.c (impl_isSize_spec  c.size ) Try.call87 true [] [] [] trivial ?_
     refine At.a 2 ?_
     by_cases h5 : (inR c.size 0 1000) = true
     · refine At.sB 26 (inR c.size 0 1000) true (sayB h5) ?_
       refine At.z 6 ?_
       refine AW.gq 4 ?_
       refine AW.r ?_
       refine At.a 2 ?_
       by_cases h6 : (c.digest.size : Int) = 32
       · refine At.sB 47 _ _ (sayET h6) ?_
         refine At.a 2 ?_
         refine At.eqA (t := 31) (u := 31) (d := 50) (op := .eql) (x := .tmp 48) (y := .tmp 49) (X := [.int .i64 0, .int .i64 0, .int .i64 c.node, .int .i64 0, .str (⟨#[]⟩ : ByteArray)]) (Y := [.int .i64 0, .int .i64 0, .int .i64 0, .int .i64 0, .str (⟨#[]⟩ : ByteArray)]) (cmdEq (⟨0, 0, c.node, 0, (⟨#[]⟩ : ByteArray)⟩ : Cmd) (⟨0, 0, 0, 0, (⟨#[]⟩ : ByteArray)⟩ : Cmd)) (by kernel_rfl) (by kernel_rfl) (by kernel_rfl) (by kernel_rfl) (by kernel_rfl) (.bool (cmdEq (⟨0, 0, c.node, 0, (⟨#[]⟩ : ByteArray)⟩ : Cmd) (⟨0, 0, 0, 0, (⟨#[]⟩ : ByteArray)⟩ : Cmd))) (.inl ⟨rfl, rfl⟩) ?_
         refine At.z 2 ?_
         exact AW.ret (rf (k1 (K_impl_CmdOk _ c) (show (cmdEq (⟨0, 0, c.node, 0, (⟨#[]⟩ : ByteArray)⟩ : Cmd) (⟨0, 0, 0, 0, (⟨#[]⟩ : ByteArray)⟩ : Cmd)) = (cmdOk c) from by (try simp only [inR_iff, inR_not] at *); rw [Bool.eq_iff_iff]; simp only [cmdOk, cmdEq, noBytes]; (repeat' split) <;> (try simp [inR_iff]) <;> grind) (KF.n [])))
       refine At.sB 47 _ _ (sayEF h6) ?_
       refine At.z 5 ?_
       exact AW.ret (rf (k1 (K_impl_CmdOk _ c) (show (false) = (cmdOk c) from by (try simp only [inR_iff, inR_not] at *); rw [Bool.eq_iff_iff]; simp only [cmdOk, cmdEq, noBytes]; (repeat' split) <;> (try simp [inR_iff]) <;> grind) (KF.n [])))
     refine At.sB 26 (inR c.size 0 1000) false (sayB (Bool.eq_false_iff.2 h5)) ?_
     replace h5 := Bool.eq_false_iff.2 h5
     refine At.z 6 ?_
     refine AW.gq 4 ?_
     refine AW.q 7 ?_
     exact AW.ret (rf (k1 (K_impl_CmdOk _ c) (show (false) = (cmdOk c) from by (try simp only [inR_iff, inR_not] at *); rw [Bool.eq_iff_iff]; simp only [cmdOk, cmdEq, noBytes]; (repeat' split) <;> (try simp [inR_iff]) <;> grind) (KF.n [])))
   refine At.sB 21 (inR c.release 1 1000) false (sayB (Bool.eq_false_iff.2 h4)) ?_
   replace h4 := Bool.eq_false_iff.2 h4
   refine At.z 11 ?_
   refine AW.gq 4 ?_
   refine AW.q 7 ?_
   exact AW.ret (rf (k1 (K_impl_CmdOk _ c) (show (false) = (cmdOk c) from by (try simp only [inR_iff, inR_not] at *); rw [Bool.eq_iff_iff]; simp only [cmdOk, cmdEq, noBytes]; (repeat' split) <;> (try simp [inR_iff]) <;> grind) (KF.n [])))
 refine AW.q 2 ?_
 refine AW.cE c.kind (3 : Int) (fun h7 => ?_) (fun h7 => ?_)
 · refine AW.r ?_
   refine At.a 2 ?_
   by_cases h8 : (inR c.release 1 1000) = true
   · refine At.sB 37 (inR c.release 1 1000) true (sayB h8) ?_
     refine At.a 2 ?_
     refine At.c (impl_isNode_spec  c.node ) Try.call83 true [] [] [] trivial ?_
     refine At.z 2 ?_
     refine AW.gq 2 ?_
     refine AW.r ?_
     refine At.a 2 ?_
     by_cases h9 : (inR c.node 0 4) = true
     · refine At.sB 47 (inR c.node 0 4) true (sayB h9) ?_
       refine At.a 2 ?_
       refine At.eqA (t := 31) (u := 31) (d := 50) (op := .eql) (x := .tmp 48) (y := .tmp 49) (X := [.int .i64 0, .int .i64 0, .int .i64 0, .int .i64 c.size, .str c.digest]) (Y := [.int .i64 0, .int .i64 0, .int .i64 0, .int .i64 0, .str (⟨#[]⟩ : ByteArray)]) (cmdEq (⟨0, 0, 0, c.size, c.digest⟩ : Cmd) (⟨0, 0, 0, 0, (⟨#[]⟩ : ByteArray)⟩ : Cmd)) (by kernel_rfl) (by kernel_rfl) (by kernel_rfl) (by kernel_rfl) (by kernel_rfl) (.bool (cmdEq (⟨0, 0, 0, c.size, c.digest⟩ : Cmd) (⟨0, 0, 0, 0, (⟨#[]⟩ : ByteArray)⟩ : Cmd))) (.inl ⟨rfl, rfl⟩) ?_
       refine At.z 2 ?_
       exact AW.ret (rf (k1 (K_impl_CmdOk _ c) (show (cmdEq (⟨0, 0, 0, c.size, c.digest⟩ : Cmd) (⟨0, 0, 0, 0, (⟨#[]⟩ : ByteArray)⟩ : Cmd)) = (cmdOk c) from by (try simp only [inR_iff, inR_not] at *); rw [Bool.eq_iff_iff]; simp only [cmdOk, cmdEq, noBytes]; (repeat' split) <;> (try simp [inR_iff]) <;> grind) (KF.n [])))
     refine At.sB 47 (inR c.node 0 4) false (sayB (Bool.eq_false_iff.2 h9)) ?_
     replace h9 := Bool.eq_false_iff.2 h9
     refine At.z 5 ?_
     exact AW.ret (rf (k1 (K_impl_CmdOk _ c) (show (false) = (cmdOk c) from by (try simp only [inR_iff, inR_not] at *); rw [Bool.eq_iff_iff]; simp only [cmdOk, cmdEq, noBytes]; (repeat' split) <;> (try simp [inR_iff]) <;> grind) (KF.n [])))
   refine At.sB 37 (inR c.release 1 1000) false (sayB (Bool.eq_false_iff.2 h8)) ?_
   replace h8 := Bool.eq_false_iff.2 h8
   refine At.z 5 ?_
   refine AW.gq 2 ?_
   refine AW.q 7 ?_
   exact AW.ret (rf (k1 (K_impl_CmdOk _ c) (show (false) = (cmdOk c) from by (try simp only [inR_iff, inR_not] at *); rw [Bool.eq_iff_iff]; simp only [cmdOk, cmdEq, noBytes]; (repeat' split) <;> (try simp [inR_iff]) <;> grind) (KF.n [])))
 refine AW.seq ?_
 refine AW.q 2 ?_
 refine AW.cE c.kind (4 : Int) (fun h10 => ?_) (fun h10 => ?_)
 · refine AW.skip ?_
   refine AW.cE c.kind (4 : Int) (fun h11 => ?_) (fun h11 => ?_)
   · refine AW.skip ?_
     refine AW.r ?_
     refine At.a 2 ?_
     by_cases h12 : (inR c.release 1 1000) = true
     · refine At.sB 47 (inR c.release 1 1000) true (sayB h12) ?_
       refine At.a 2 ?_
       refine At.eqA (t := 31) (u := 31) (d := 50) (op := .eql) (x := .tmp 48) (y := .tmp 49) (X := [.int .i64 0, .int .i64 0, .int .i64 c.node, .int .i64 c.size, .str c.digest]) (Y := [.int .i64 0, .int .i64 0, .int .i64 0, .int .i64 0, .str (⟨#[]⟩ : ByteArray)]) (cmdEq (⟨0, 0, c.node, c.size, c.digest⟩ : Cmd) (⟨0, 0, 0, 0, (⟨#[]⟩ : ByteArray)⟩ : Cmd)) (by kernel_rfl) (by kernel_rfl) (by kernel_rfl) (by kernel_rfl) (by kernel_rfl) (.bool (cmdEq (⟨0, 0, c.node, c.size, c.digest⟩ : Cmd) (⟨0, 0, 0, 0, (⟨#[]⟩ : ByteArray)⟩ : Cmd))) (.inl ⟨rfl, rfl⟩) ?_
       refine At.z 2 ?_
       exact AW.ret (rf (k1 (K_impl_CmdOk _ c) (show (cmdEq (⟨0, 0, c.node, c.size, c.digest⟩ : Cmd) (⟨0, 0, 0, 0, (⟨#[]⟩ : ByteArray)⟩ : Cmd)) = (cmdOk c) from by (try simp only [inR_iff, inR_not] at *); rw [Bool.eq_iff_iff]; simp only [cmdOk, cmdEq, noBytes]; (repeat' split) <;> (try simp [inR_iff]) <;> grind) (KF.n [])))
     refine At.sB 47 (inR c.release 1 1000) false (sayB (Bool.eq_false_iff.2 h12)) ?_
     replace h12 := Bool.eq_false_iff.2 h12
     refine At.z 5 ?_
     exact AW.ret (rf (k1 (K_impl_CmdOk _ c) (show (false) = (cmdOk c) from by (try simp only [inR_iff, inR_not] at *); rw [Bool.eq_iff_iff]; simp only [cmdOk, cmdEq, noBytes]; (repeat' split) <;> (try simp [inR_iff]) <;> grind) (KF.n [])))
   refine AW.q 1 ?_
   exact AW.ret (rf (k1 (K_impl_CmdOk _ c) (show (false) = (cmdOk c) from by (try simp only [inR_iff, inR_not] at *); rw [Bool.eq_iff_iff]; simp only [cmdOk, cmdEq, noBytes]; (repeat' split) <;> (try simp [inR_iff]) <;> grind) (KF.n [])))
 refine AW.gq 2 ?_
 refine AW.cE c.kind (5 : Int) (fun h13 => ?_) (fun h13 => ?_)
 · refine AW.skip ?_
   refine AW.r ?_
   refine At.a 2 ?_
   by_cases h14 : (inR c.release 1 1000) = true
   · refine At.sB 47 (inR c.release 1 1000) true (sayB h14) ?_
     refine At.a 2 ?_
     refine At.eqA (t := 31) (u := 31) (d := 50) (op := .eql) (x := .tmp 48) (y := .tmp 49) (X := [.int .i64 0, .int .i64 0, .int .i64 c.node, .int .i64 c.size, .str c.digest]) (Y := [.int .i64 0, .int .i64 0, .int .i64 0, .int .i64 0, .str (⟨#[]⟩ : ByteArray)]) (cmdEq (⟨0, 0, c.node, c.size, c.digest⟩ : Cmd) (⟨0, 0, 0, 0, (⟨#[]⟩ : ByteArray)⟩ : Cmd)) (by kernel_rfl) (by kernel_rfl) (by kernel_rfl) (by kernel_rfl) (by kernel_rfl) (.bool (cmdEq (⟨0, 0, c.node, c.size, c.digest⟩ : Cmd) (⟨0, 0, 0, 0, (⟨#[]⟩ : ByteArray)⟩ : Cmd))) (.inl ⟨rfl, rfl⟩) ?_
     refine At.z 2 ?_
     exact AW.ret (rf (k1 (K_impl_CmdOk _ c) (show (cmdEq (⟨0, 0, c.node, c.size, c.digest⟩ : Cmd) (⟨0, 0, 0, 0, (⟨#[]⟩ : ByteArray)⟩ : Cmd)) = (cmdOk c) from by (try simp only [inR_iff, inR_not] at *); rw [Bool.eq_iff_iff]; simp only [cmdOk, cmdEq, noBytes]; (repeat' split) <;> (try simp [inR_iff]) <;> grind) (KF.n [])))
   refine At.sB 47 (inR c.release 1 1000) false (sayB (Bool.eq_false_iff.2 h14)) ?_
   replace h14 := Bool.eq_false_iff.2 h14
   refine At.z 5 ?_
   exact AW.ret (rf (k1 (K_impl_CmdOk _ c) (show (false) = (cmdOk c) from by (try simp only [inR_iff, inR_not] at *); rw [Bool.eq_iff_iff]; simp only [cmdOk, cmdEq, noBytes]; (repeat' split) <;> (try simp [inR_iff]) <;> grind) (KF.n [])))
 refine AW.q 1 ?_
 exact AW.ret (rf (k1 (K_impl_CmdOk _ c) (show (false) = (cmdOk c) from by (try simp only [inR_iff, inR_not] at *); rw [Bool.eq_iff_iff]; simp only [cmdOk, cmdEq, noBytes]; (repeat' split) <;> (try simp [inR_iff]) <;> grind) (KF.n [])))
theorem impl_entryOk_spec  (e : Ent) : FnSpec Try.prog 95 [.agg [.int .i64 e.term, .int .i64 e.cmd.kind, .int .i64 e.cmd.release, .int .i64 e.cmd.node, .int .i64 e.cmd.size, .str e.cmd.digest]] [] (.bool (entOk e)) [] := by
 refine FnSpec.of 11 Try.func95 rfl Try.ntmps95 (by simp) (AW.weakK ?_)
 refine AW.q 2 ?_
 refine AW.r ?_
 refine At.a 2 ?_
 refine At.c (impl_within_spec  e.term 1 1000000000 ) Try.call85 true [] [] [] trivial ?_
 refine At.a 1 ?_
 by_cases h1 : (inR e.term 1 1000000000) = true
 · refine At.sB 6 (inR e.term 1 1000000000) true (sayB h1) ?_
   have h1i := inR_iff.1 h1
   refine At.a 2 ?_
   refine At.c (impl_CmdOk_spec  e.cmd ) Try.call88 true [] [] [] trivial ?_
   refine At.z 2 ?_
   refine AW.ret ?_
   refine ⟨_, Sub.refl _ _, ?_⟩
   refine KF.conv (fun w => .bool w) (fun w => []) (show (cmdOk e.cmd) = (entOk e) from by (try simp only [inR_iff, inR_not] at *); rw [Bool.eq_iff_iff]; simp only [entOk, noBytes]; (repeat' split) <;> (try simp [inR_iff]) <;> grind) ?_
   exact KF.n []
 refine At.sB 6 (inR e.term 1 1000000000) false (sayB (Bool.eq_false_iff.2 h1)) ?_
 replace h1 := Bool.eq_false_iff.2 h1
 refine At.z 5 ?_
 refine AW.ret ?_
 refine ⟨_, Sub.refl _ _, ?_⟩
 refine KF.conv (fun w => .bool w) (fun w => []) (show (false) = (entOk e) from by (try simp only [inR_iff, inR_not] at *); rw [Bool.eq_iff_iff]; simp only [entOk, noBytes]; (repeat' split) <;> (try simp [inR_iff]) <;> grind) ?_
 exact KF.n []
theorem impl_entriesOk_spec  (list : List Ent) (hl : list.length ≤ 1048576) : FnSpec Try.prog 89 [.sl false 6 (list.map encEnt)] [] (.bool (entsFit list)) [] := by
 refine FnSpec.of 18 Try.func89 rfl Try.ntmps89 (by simp) (AW.weakK ?_)
 refine AW.q 1 ?_
 refine AW.seq ?_
 refine AW.r ?_
 refine At.a 2 ?_
 refine At.sL 6 encEnt list ?_
 refine At.z 1 ?_
 refine AW.block ?_
 refine AW.loopW (fun (k : Nat) => Go.Sy.mk [.sl false 6 (list.map encEnt), .un, .un, .un, .un, .sl false 6 (list.map encEnt), .int .i64 (list.length : Int), .int .i64 (k : Int)] []) (fun (k : Nat) => k ≤ list.length ∧ entsOk list = entsOk (list.drop k)) (fun (k : Nat) => list.length - k) 0 ⟨by omega, by rw [List.drop_zero]⟩ (Sub.o [] [true, false, false, false, false, true, true, true]) ?_
 rintro k ⟨hk, hR⟩
 refine AW.q 1 ?_
 refine AW.seq ?_
 refine AW.cD ((k : Int) < (list.length : Int)) (fun h1 => ?_) (fun h1 => ?_)
 · refine AW.skip ?_
   refine AW.seq ?_
   refine AW.block ?_
   refine AW.r ?_
   refine At.iSl 32 9 (.tmp 5) (.tmp 7) false 6 (list.map encEnt) .i64 (k : Int) 56 (by omega) (by simp only [List.length_map]; omega) ?_
   refine Exists.elim (gE list k (by omega)) fun e1 he1 => ?_
   refine At.lVp 56 10 (.tmp 9) false 6 (list.map encEnt) k 0 true 6 (encEnt e1) (.agg [.int .i64 e1.term, .int .i64 e1.cmd.kind, .int .i64 e1.cmd.release, .int .i64 e1.cmd.node, .int .i64 e1.cmd.size, .str e1.cmd.digest]) (mapGet he1) ?_
   refine At.z 2 ?_
   refine AW.r ?_
   refine At.a 1 ?_
   refine At.c (impl_entryOk_spec  e1 ) Try.call95 true [] [] [] trivial ?_
   refine At.z 1 ?_
   refine AW.cNB (entOk e1) (fun h2 => ?_) (fun h2 => ?_)
   · refine AW.q 1 ?_
     refine AW.ret ?_
     refine ⟨_, Sub.refl _ _, ?_⟩
     refine KF.conv (fun w => .bool w) (fun w => []) (show (false) = (entsFit list) from by rw [dropCons he1] at hR; grind [entsFit, entsOk]) ?_
     exact KF.n []
   have h2n := entOk_nums h2
   refine AW.skip ?_
   refine AW.g ?_
   refine At.a 1 ?_
   refine At.sI 14 ((k : Int) + 1) (by omega) ?_
   refine At.z 1 ?_
   exact ⟨k + 1, ⟨by omega, by rw [hR, dropCons he1, entsOk]; simp only [*, Bool.true_and]⟩, (by omega), Sub.o [] [true, false, false, false, false, true, true, true]⟩
 refine AW.exit ?_
 refine AW.r ?_
 refine At.a 2 ?_
 refine At.sL 16 encEnt list ?_
 refine At.z 2 ?_
 refine AW.ret ?_
 refine ⟨_, Sub.refl _ _, ?_⟩
 refine KF.conv (fun w => .bool w) (fun w => []) (show (decide ((list.length : Int) ≤ 6)) = (entsFit list) from by rw [List.drop_of_length_le (by omega)] at hR; grind [entsFit, entsOk]) ?_
 exact KF.n []
def K_impl_Msg_take (rs : List ResultVar) (m : Msg) (field : UInt8) (w0_ : Bool) (w1_ : Msg) : Exit → Sg → Prop := KF Try.prog 1 rs (.bool w0_) [.box 34 [.int .i64 w1_.kind, .int .i64 w1_.from_, .int .i64 w1_.term, .int .i64 w1_.at_, .int .i64 w1_.atTerm, .int .i64 w1_.commit, .bool w1_.yes, .int .i64 w1_.release, .int .i64 w1_.part, .str w1_.bytes, .int .i64 w1_.cmd.kind, .int .i64 w1_.cmd.release, .int .i64 w1_.cmd.node, .int .i64 w1_.cmd.size, .str w1_.cmd.digest, .sl false 6 (w1_.entries.map encEnt)]]
theorem impl_Msg_take_spec  (m : Msg) (field : UInt8) (hl : m.entries.length ≤ 1048576) : FnSpec Try.prog 66 [.ptr 0 0 0, .int .u8 (field.toNat : Int)] [.box 34 [.int .i64 m.kind, .int .i64 m.from_, .int .i64 m.term, .int .i64 m.at_, .int .i64 m.atTerm, .int .i64 m.commit, .bool m.yes, .int .i64 m.release, .int .i64 m.part, .str m.bytes, .int .i64 m.cmd.kind, .int .i64 m.cmd.release, .int .i64 m.cmd.node, .int .i64 m.cmd.size, .str m.cmd.digest, .sl false 6 (m.entries.map encEnt)]] (.bool (takeOk m field.toNat)) [.box 34 [.int .i64 ((takeM m field.toNat).kind), .int .i64 ((takeM m field.toNat).from_), .int .i64 ((takeM m field.toNat).term), .int .i64 ((takeM m field.toNat).at_), .int .i64 ((takeM m field.toNat).atTerm), .int .i64 ((takeM m field.toNat).commit), .bool ((takeM m field.toNat).yes), .int .i64 ((takeM m field.toNat).release), .int .i64 ((takeM m field.toNat).part), .str ((takeM m field.toNat).bytes), .int .i64 ((takeM m field.toNat).cmd.kind), .int .i64 ((takeM m field.toNat).cmd.release), .int .i64 ((takeM m field.toNat).cmd.node), .int .i64 ((takeM m field.toNat).cmd.size), .str ((takeM m field.toNat).cmd.digest), .sl false 6 (((takeM m field.toNat).entries).map encEnt)]] := by
 refine FnSpec.of 113 Try.func66 rfl Try.ntmps66 (by simp) (AW.weakK ?_)
 refine AW.q 1 ?_
 refine AW.q 1 ?_
 refine AW.seq ?_
 refine AW.q 1 ?_
 refine AW.block ?_
 refine AW.q 2 ?_
 refine AW.cE (field.toNat : Int) (102 : Int) (fun h1 => ?_) (fun h1 => ?_)
 · refine AW.g ?_
   refine At.a 5 ?_
   refine At.c (impl_isNode_spec  m.from_ ) Try.call83 true [] [] [] trivial ?_
   refine At.z 4 ?_
   refine AW.q 2 ?_
   exact AW.ret (rf (k2 (K_impl_Msg_take _ m field) (show (inR m.from_ 0 4) = (takeOk m field.toNat) from by simp only [takeOk, takeM, h1, if_true, if_false] <;> rfl) (show ((⟨m.kind, 0, m.term, m.at_, m.atTerm, m.commit, m.yes, m.release, m.part, m.bytes, m.cmd, m.entries⟩ : Msg)) = (takeM m field.toNat) from by simp only [takeOk, takeM, h1, if_true, if_false] <;> rfl) (KF.n [(0, 0)])))
 refine AW.q 2 ?_
 refine AW.cE (field.toNat : Int) (116 : Int) (fun h2 => ?_) (fun h2 => ?_)
 · refine AW.g ?_
   refine At.a 5 ?_
   refine At.c (impl_isWhole_spec  m.term ) Try.call84 true [] [] [] trivial ?_
   refine At.z 4 ?_
   refine AW.q 2 ?_
   exact AW.ret (rf (k2 (K_impl_Msg_take _ m field) (show (inR m.term 0 1000000000) = (takeOk m field.toNat) from by simp only [takeOk, takeM, h1, h2, if_true, if_false] <;> rfl) (show ((⟨m.kind, m.from_, 0, m.at_, m.atTerm, m.commit, m.yes, m.release, m.part, m.bytes, m.cmd, m.entries⟩ : Msg)) = (takeM m field.toNat) from by simp only [takeOk, takeM, h1, h2, if_true, if_false] <;> rfl) (KF.n [(0, 0)])))
 refine AW.q 2 ?_
 refine AW.cE (field.toNat : Int) (97 : Int) (fun h3 => ?_) (fun h3 => ?_)
 · refine AW.g ?_
   refine At.a 5 ?_
   refine At.c (impl_within_spec  m.at_ 0 80 ) Try.call85 true [] [] [] trivial ?_
   refine At.z 4 ?_
   refine AW.q 2 ?_
   exact AW.ret (rf (k2 (K_impl_Msg_take _ m field) (show (inR m.at_ 0 80) = (takeOk m field.toNat) from by simp only [takeOk, takeM, h1, h2, h3, if_true, if_false] <;> rfl) (show ((⟨m.kind, m.from_, m.term, 0, m.atTerm, m.commit, m.yes, m.release, m.part, m.bytes, m.cmd, m.entries⟩ : Msg)) = (takeM m field.toNat) from by simp only [takeOk, takeM, h1, h2, h3, if_true, if_false] <;> rfl) (KF.n [(0, 0)])))
 refine AW.q 2 ?_
 refine AW.cE (field.toNat : Int) (120 : Int) (fun h4 => ?_) (fun h4 => ?_)
 · refine AW.g ?_
   refine At.a 5 ?_
   refine At.c (impl_isWhole_spec  m.atTerm ) Try.call84 true [] [] [] trivial ?_
   refine At.z 4 ?_
   refine AW.q 2 ?_
   exact AW.ret (rf (k2 (K_impl_Msg_take _ m field) (show (inR m.atTerm 0 1000000000) = (takeOk m field.toNat) from by simp only [takeOk, takeM, h1, h2, h3, h4, if_true, if_false] <;> rfl) (show ((⟨m.kind, m.from_, m.term, m.at_, 0, m.commit, m.yes, m.release, m.part, m.bytes, m.cmd, m.entries⟩ : Msg)) = (takeM m field.toNat) from by simp only [takeOk, takeM, h1, h2, h3, h4, if_true, if_false] <;> rfl) (KF.n [(0, 0)])))
 refine AW.q 2 ?_
 refine AW.cE (field.toNat : Int) (99 : Int) (fun h5 => ?_) (fun h5 => ?_)
 · refine AW.g ?_
   refine At.a 5 ?_
   refine At.c (impl_within_spec  m.commit 0 80 ) Try.call85 true [] [] [] trivial ?_
   refine At.z 4 ?_
   refine AW.q 2 ?_
   exact AW.ret (rf (k2 (K_impl_Msg_take _ m field) (show (inR m.commit 0 80) = (takeOk m field.toNat) from by simp only [takeOk, takeM, h1, h2, h3, h4, h5, if_true, if_false] <;> rfl) (show ((⟨m.kind, m.from_, m.term, m.at_, m.atTerm, 0, m.yes, m.release, m.part, m.bytes, m.cmd, m.entries⟩ : Msg)) = (takeM m field.toNat) from by simp only [takeOk, takeM, h1, h2, h3, h4, h5, if_true, if_false] <;> rfl) (KF.n [(0, 0)])))
 refine AW.q 2 ?_
 refine AW.cE (field.toNat : Int) (121 : Int) (fun h6 => ?_) (fun h6 => ?_)
 · refine AW.gq 4 ?_
   refine AW.q 2 ?_
   exact AW.ret (rf (k2 (K_impl_Msg_take _ m field) (show (true) = (takeOk m field.toNat) from by simp only [takeOk, takeM, h1, h2, h3, h4, h5, h6, if_true, if_false] <;> rfl) (show ((⟨m.kind, m.from_, m.term, m.at_, m.atTerm, m.commit, false, m.release, m.part, m.bytes, m.cmd, m.entries⟩ : Msg)) = (takeM m field.toNat) from by simp only [takeOk, takeM, h1, h2, h3, h4, h5, h6, if_true, if_false] <;> rfl) (KF.n [(0, 0)])))
 refine AW.q 2 ?_
 refine AW.cE (field.toNat : Int) (114 : Int) (fun h7 => ?_) (fun h7 => ?_)
 · refine AW.g ?_
   refine At.a 5 ?_
   refine At.c (impl_isRelease_spec  m.release ) Try.call86 true [] [] [] trivial ?_
   refine At.z 4 ?_
   refine AW.q 2 ?_
   exact AW.ret (rf (k2 (K_impl_Msg_take _ m field) (show (inR m.release 1 1000) = (takeOk m field.toNat) from by simp only [takeOk, takeM, h1, h2, h3, h4, h5, h6, h7, if_true, if_false] <;> rfl) (show ((⟨m.kind, m.from_, m.term, m.at_, m.atTerm, m.commit, m.yes, 0, m.part, m.bytes, m.cmd, m.entries⟩ : Msg)) = (takeM m field.toNat) from by simp only [takeOk, takeM, h1, h2, h3, h4, h5, h6, h7, if_true, if_false] <;> rfl) (KF.n [(0, 0)])))
 refine AW.q 2 ?_
 refine AW.cE (field.toNat : Int) (112 : Int) (fun h8 => ?_) (fun h8 => ?_)
 · refine AW.g ?_
   refine At.a 5 ?_
   refine At.c (impl_isSize_spec  m.part ) Try.call87 true [] [] [] trivial ?_
   refine At.z 4 ?_
   refine AW.q 2 ?_
   exact AW.ret (rf (k2 (K_impl_Msg_take _ m field) (show (inR m.part 0 1000) = (takeOk m field.toNat) from by simp only [takeOk, takeM, h1, h2, h3, h4, h5, h6, h7, h8, if_true, if_false] <;> rfl) (show ((⟨m.kind, m.from_, m.term, m.at_, m.atTerm, m.commit, m.yes, m.release, 0, m.bytes, m.cmd, m.entries⟩ : Msg)) = (takeM m field.toNat) from by simp only [takeOk, takeM, h1, h2, h3, h4, h5, h6, h7, h8, if_true, if_false] <;> rfl) (KF.n [(0, 0)])))
 refine AW.q 2 ?_
 refine AW.cE (field.toNat : Int) (98 : Int) (fun h9 => ?_) (fun h9 => ?_)
 · refine AW.g ?_
   refine At.a 6 ?_
   refine At.c (impl_within_spec  (m.bytes.size : Int) 1 16 ) Try.call85 true [] [] [] trivial ?_
   refine At.z 4 ?_
   refine AW.q 2 ?_
   exact AW.ret (rf (k2 (K_impl_Msg_take _ m field) (show (inR (m.bytes.size : Int) 1 16) = (takeOk m field.toNat) from by simp only [takeOk, takeM, h1, h2, h3, h4, h5, h6, h7, h8, h9, if_true, if_false] <;> rfl) (show ((⟨m.kind, m.from_, m.term, m.at_, m.atTerm, m.commit, m.yes, m.release, m.part, (⟨#[]⟩ : ByteArray), m.cmd, m.entries⟩ : Msg)) = (takeM m field.toNat) from by simp only [takeOk, takeM, h1, h2, h3, h4, h5, h6, h7, h8, h9, if_true, if_false] <;> rfl) (KF.n [(0, 0)])))
 refine AW.q 2 ?_
 refine AW.cE (field.toNat : Int) (100 : Int) (fun h10 => ?_) (fun h10 => ?_)
 · refine AW.g ?_
   refine At.a 5 ?_
   refine At.c (impl_CmdOk_spec  m.cmd ) Try.call88 true [] [] [] trivial ?_
   refine At.z 5 ?_
   refine AW.q 2 ?_
   exact AW.ret (rf (k2 (K_impl_Msg_take _ m field) (show (cmdOk m.cmd) = (takeOk m field.toNat) from by simp only [takeOk, takeM, h1, h2, h3, h4, h5, h6, h7, h8, h9, h10, if_true, if_false] <;> rfl) (show ((⟨m.kind, m.from_, m.term, m.at_, m.atTerm, m.commit, m.yes, m.release, m.part, m.bytes, ⟨0, 0, 0, 0, (⟨#[]⟩ : ByteArray)⟩, m.entries⟩ : Msg)) = (takeM m field.toNat) from by simp only [takeOk, takeM, h1, h2, h3, h4, h5, h6, h7, h8, h9, h10, if_true, if_false] <;> rfl) (KF.n [(0, 0)])))
 refine AW.g ?_
 refine At.a 5 ?_
 refine At.c (impl_entriesOk_spec  m.entries (by omega)) Try.call89 true [] [] [] trivial ?_
 refine At.z 4 ?_
 refine AW.seq ?_
 refine AW.weak (Sub.nsl 0 15 34 6 [.int .i64 m.kind, .int .i64 m.from_, .int .i64 m.term, .int .i64 m.at_, .int .i64 m.atTerm, .int .i64 m.commit, .bool m.yes, .int .i64 m.release, .int .i64 m.part, .str m.bytes, .int .i64 m.cmd.kind, .int .i64 m.cmd.release, .int .i64 m.cmd.node, .int .i64 m.cmd.size, .str m.cmd.digest, .nil] (by kernel_rfl)) ?_
 refine AW.gq 2 ?_
 exact AW.ret (rf (k2 (K_impl_Msg_take _ m field) (show (entsFit m.entries) = (takeOk m field.toNat) from by simp only [takeOk, takeM, h1, h2, h3, h4, h5, h6, h7, h8, h9, h10, if_true, if_false] <;> rfl) (show ((⟨m.kind, m.from_, m.term, m.at_, m.atTerm, m.commit, m.yes, m.release, m.part, m.bytes, m.cmd, []⟩ : Msg)) = (takeM m field.toNat) from by simp only [takeOk, takeM, h1, h2, h3, h4, h5, h6, h7, h8, h9, h10, if_true, if_false] <;> rfl) (KF.n [(0, 0)])))
theorem slices_Equal_spec  (s1 : List Ent) (s2 : List Ent) (ha : s1.length ≤ 1048576) (hb : s2.length ≤ 1048576) : FnSpec Try.prog 56 [.sl false 6 (s1.map encEnt), .sl false 6 (s2.map encEnt)] [] (.bool (listEq entEq s1 s2)) [] := by
 refine FnSpec.of 26 Try.func56 rfl Try.ntmps56 (by simp) (AW.weakK ?_)
 refine AW.q 1 ?_
 refine AW.seq ?_
 refine AW.r ?_
 refine At.a 2 ?_
 refine At.sL 7 encEnt s1 ?_
 refine At.a 2 ?_
 refine At.sL 9 encEnt s2 ?_
 refine At.z 1 ?_
 refine AW.cU (s1.length : Int) (s2.length : Int) (fun h1 => ?_) (fun h1 => ?_)
 · refine AW.q 1 ?_
   refine AW.ret ?_
   refine ⟨_, Sub.refl _ _, ?_⟩
   refine KF.conv (fun w => .bool w) (fun w => []) (show (false) = (listEq entEq s1 s2) from by rw [listEq_len (by omega)]) ?_
   exact KF.n []
 refine AW.skip ?_
 refine AW.seq ?_
 refine AW.r ?_
 refine At.a 2 ?_
 refine At.sL 12 encEnt s1 ?_
 refine At.z 1 ?_
 refine AW.block ?_
 refine AW.loopW (fun (k : Nat) => Go.Sy.mk [.sl false 6 (s1.map encEnt), .sl false 6 (s2.map encEnt), .un, .un, .un, .un, .un, .un, .un, .un, .un, .un, .int .i64 (s1.length : Int), .int .i64 (k : Int)] []) (fun (k : Nat) => k ≤ s1.length ∧ listEq entEq s1 s2 = listEq entEq (s1.drop k) (s2.drop k)) (fun (k : Nat) => s1.length - k) 0 ⟨by omega, by rw [List.drop_zero, List.drop_zero]⟩ (Sub.o [] [true, true, false, false, false, false, false, false, false, false, false, false, true, true]) ?_
 rintro k ⟨hk, hR⟩
 refine AW.q 1 ?_
 refine AW.seq ?_
 refine AW.cD ((k : Int) < (s1.length : Int)) (fun h2 => ?_) (fun h2 => ?_)
 · refine AW.skip ?_
   refine AW.seq ?_
   refine AW.block ?_
   refine AW.q 2 ?_
   refine AW.seq ?_
   refine AW.gD Try_mix ?_
   refine At.a 2 ?_
   refine At.iSl 32 18 (.tmp 16) (.tmp 17) false 6 (s1.map encEnt) .i64 (k : Int) 56 (by omega) (by simp only [List.length_map]; omega) ?_
   refine Exists.elim (gE s1 k (by omega)) fun e1 he1 => ?_
   refine At.lVp 56 19 (.tmp 18) false 6 (s1.map encEnt) k 0 true 6 (encEnt e1) (.agg [.int .i64 e1.term, .int .i64 e1.cmd.kind, .int .i64 e1.cmd.release, .int .i64 e1.cmd.node, .int .i64 e1.cmd.size, .str e1.cmd.digest]) (mapGet he1) ?_
   refine At.a 2 ?_
   refine At.iSl 32 22 (.tmp 20) (.tmp 21) false 6 (s2.map encEnt) .i64 (k : Int) 56 (by omega) (by simp only [List.length_map]; omega) ?_
   refine Exists.elim (gE s2 k (by omega)) fun e2 he2 => ?_
   refine At.lVp 56 23 (.tmp 22) false 6 (s2.map encEnt) k 0 true 6 (encEnt e2) (.agg [.int .i64 e2.term, .int .i64 e2.cmd.kind, .int .i64 e2.cmd.release, .int .i64 e2.cmd.node, .int .i64 e2.cmd.size, .str e2.cmd.digest]) (mapGet he2) ?_
   refine At.eqA (t := 56) (u := 56) (d := 24) (op := .neq) (x := .tmp 19) (y := .tmp 23) (X := [.int .i64 e1.term, .int .i64 e1.cmd.kind, .int .i64 e1.cmd.release, .int .i64 e1.cmd.node, .int .i64 e1.cmd.size, .str e1.cmd.digest]) (Y := [.int .i64 e2.term, .int .i64 e2.cmd.kind, .int .i64 e2.cmd.release, .int .i64 e2.cmd.node, .int .i64 e2.cmd.size, .str e2.cmd.digest]) (entEq e1 e2) (by kernel_rfl) (by kernel_rfl) (by kernel_rfl) (by kernel_rfl) (by kernel_rfl) (.bool (!(entEq e1 e2))) (.inr ⟨rfl, rfl⟩) ?_
   refine At.done rfl ⟨by kernel_rfl, ?_⟩
   refine AW.cNB (entEq e1 e2) (fun h3 => ?_) (fun h3 => ?_)
   · refine AW.q 1 ?_
     refine AW.ret ?_
     refine ⟨_, Sub.refl _ _, ?_⟩
     refine KF.conv (fun w => .bool w) (fun w => []) (show (false) = (listEq entEq s1 s2) from by rw [hR, dropCons he1, dropCons he2, listEq]; simp [*]) ?_
     exact KF.n []
   refine AW.skip ?_
   refine AW.g ?_
   refine At.a 1 ?_
   refine At.sI 25 ((k : Int) + 1) (by omega) ?_
   refine At.z 1 ?_
   exact ⟨k + 1, ⟨by omega, by rw [hR, dropCons he1, dropCons he2, listEq]; simp [*]⟩, (by omega), Sub.o [] [true, true, false, false, false, false, false, false, false, false, false, false, true, true]⟩
 refine AW.exit ?_
 refine AW.q 1 ?_
 refine AW.ret ?_
 refine ⟨_, Sub.refl _ _, ?_⟩
 refine KF.conv (fun w => .bool w) (fun w => []) (show (true) = (listEq entEq s1 s2) from by rw [hR, List.drop_of_length_le (by omega), List.drop_of_length_le (by omega)]; rfl) ?_
 exact KF.n []
def K_impl_MsgSame (rs : List ResultVar) (a : Msg) (b : Msg) (w0_ : Bool) : Exit → Sg → Prop := KF Try.prog 0 rs (.bool w0_) []
theorem impl_MsgSame_spec  (a : Msg) (b : Msg) (ha : a.entries.length ≤ 1048576) (hb : b.entries.length ≤ 1048576) : FnSpec Try.prog 23 [(msgA a), (msgA b)] [] (.bool (msgEq a b)) [] := by
 refine FnSpec.of 91 Try.func23 rfl Try.ntmps23 (by simp) (AW.weakK ?_)
 refine AW.q 3 ?_
 refine AW.r ?_
 refine At.a 6 ?_
 by_cases h1 : a.kind = b.kind
 · refine At.sB 12 _ _ (sayET h1) ?_
   refine At.a 7 ?_
   by_cases h2 : a.from_ = b.from_
   · refine At.sB 19 _ _ (sayET h2) ?_
     refine At.a 7 ?_
     by_cases h3 : a.term = b.term
     · refine At.sB 26 _ _ (sayET h3) ?_
       refine At.a 7 ?_
       by_cases h4 : a.at_ = b.at_
       · refine At.sB 33 _ _ (sayET h4) ?_
         refine At.a 7 ?_
         by_cases h5 : a.atTerm = b.atTerm
         · refine At.sB 40 _ _ (sayET h5) ?_
           refine At.z 7 ?_
           refine AW.r ?_
           refine At.a 4 ?_
           refine At.eqB (t := 4) (u := 4) (d := 51) (op := .eql) (x := .tmp 48) (y := .tmp 50) (a := a.yes) (b := b.yes) (by kernel_rfl) (by kernel_rfl) (by kernel_rfl) (by kernel_rfl) (by kernel_rfl) (.bool (a.yes == b.yes)) (.inl ⟨rfl, rfl⟩) ?_
           refine At.a 1 ?_
           by_cases h6 : (a.yes == b.yes) = true
           · refine At.sB 52 (a.yes == b.yes) true (sayB h6) ?_
             refine At.a 7 ?_
             by_cases h7 : a.release = b.release
             · refine At.sB 59 _ _ (sayET h7) ?_
               refine At.a 7 ?_
               by_cases h8 : a.part = b.part
               · refine At.sB 66 _ _ (sayET h8) ?_
                 refine At.a 7 ?_
                 by_cases h9 : a.bytes.toList = b.bytes.toList
                 · refine At.sB 73 _ _ (sayET h9) ?_
                   refine At.a 4 ?_
                   refine At.eqA (t := 31) (u := 31) (d := 78) (op := .eql) (x := .tmp 75) (y := .tmp 77) (X := [.int .i64 a.cmd.kind, .int .i64 a.cmd.release, .int .i64 a.cmd.node, .int .i64 a.cmd.size, .str a.cmd.digest]) (Y := [.int .i64 b.cmd.kind, .int .i64 b.cmd.release, .int .i64 b.cmd.node, .int .i64 b.cmd.size, .str b.cmd.digest]) (cmdEq a.cmd b.cmd) (by kernel_rfl) (by kernel_rfl) (by kernel_rfl) (by kernel_rfl) (by kernel_rfl) (.bool (cmdEq a.cmd b.cmd)) (.inl ⟨rfl, rfl⟩) ?_
                   refine At.z 2 ?_
                   refine AW.r ?_
                   refine At.a 2 ?_
                   by_cases h10 : a.commit = b.commit
                   · refine At.sB 81 _ _ (sayET h10) ?_
                     refine At.a 3 ?_
                     by_cases h11 : (cmdEq a.cmd b.cmd) = true
                     · refine At.sB 84 (cmdEq a.cmd b.cmd) true (sayB h11) ?_
                       refine At.a 4 ?_
                       refine At.c (slices_Equal_spec  a.entries b.entries (by omega) (by omega)) Try.call56 true [] [] [] trivial ?_
                       refine At.z 2 ?_
                       exact AW.ret (rf (k1 (K_impl_MsgSame _ a b) (show (listEq entEq a.entries b.entries) = (msgEq a b) from by grind [msgEq]) (KF.n [])))
                     refine At.sB 84 (cmdEq a.cmd b.cmd) false (sayB (Bool.eq_false_iff.2 h11)) ?_
                     replace h11 := Bool.eq_false_iff.2 h11
                     refine At.z 7 ?_
                     exact AW.ret (rf (k1 (K_impl_MsgSame _ a b) (show (false) = (msgEq a b) from by grind [msgEq]) (KF.n [])))
                   refine At.sB 81 _ _ (sayEF h10) ?_
                   refine At.z 10 ?_
                   exact AW.ret (rf (k1 (K_impl_MsgSame _ a b) (show (false) = (msgEq a b) from by grind [msgEq]) (KF.n [])))
                 refine At.sB 73 _ _ (sayEF h9) ?_
                 refine At.z 7 ?_
                 refine AW.r ?_
                 refine At.a 2 ?_
                 by_cases h12 : a.commit = b.commit
                 · refine At.sB 81 _ _ (sayET h12) ?_
                   refine At.z 10 ?_
                   exact AW.ret (rf (k1 (K_impl_MsgSame _ a b) (show (false) = (msgEq a b) from by grind [msgEq]) (KF.n [])))
                 refine At.sB 81 _ _ (sayEF h12) ?_
                 refine At.z 10 ?_
                 exact AW.ret (rf (k1 (K_impl_MsgSame _ a b) (show (false) = (msgEq a b) from by grind [msgEq]) (KF.n [])))
               refine At.sB 66 _ _ (sayEF h8) ?_
               refine At.z 14 ?_
               refine AW.r ?_
               refine At.a 2 ?_
               by_cases h13 : a.commit = b.commit
               · refine At.sB 81 _ _ (sayET h13) ?_
                 refine At.z 10 ?_
                 exact AW.ret (rf (k1 (K_impl_MsgSame _ a b) (show (false) = (msgEq a b) from by grind [msgEq]) (KF.n [])))
               refine At.sB 81 _ _ (sayEF h13) ?_
               refine At.z 10 ?_
               exact AW.ret (rf (k1 (K_impl_MsgSame _ a b) (show (false) = (msgEq a b) from by grind [msgEq]) (KF.n [])))
             refine At.sB 59 _ _ (sayEF h7) ?_
             refine At.z 21 ?_
             refine AW.r ?_
             refine At.a 2 ?_
             by_cases h14 : a.commit = b.commit
             · refine At.sB 81 _ _ (sayET h14) ?_
               refine At.z 10 ?_
               exact AW.ret (rf (k1 (K_impl_MsgSame _ a b) (show (false) = (msgEq a b) from by grind [msgEq]) (KF.n [])))
             refine At.sB 81 _ _ (sayEF h14) ?_
             refine At.z 10 ?_
             exact AW.ret (rf (k1 (K_impl_MsgSame _ a b) (show (false) = (msgEq a b) from by grind [msgEq]) (KF.n [])))
           refine At.sB 52 (a.yes == b.yes) false (sayB (Bool.eq_false_iff.2 h6)) ?_
           replace h6 := Bool.eq_false_iff.2 h6
           refine At.z 28 ?_
           refine AW.r ?_
           refine At.a 2 ?_
           by_cases h15 : a.commit = b.commit
           · refine At.sB 81 _ _ (sayET h15) ?_
             refine At.z 10 ?_
             exact AW.ret (rf (k1 (K_impl_MsgSame _ a b) (show (false) = (msgEq a b) from by grind [msgEq]) (KF.n [])))
           refine At.sB 81 _ _ (sayEF h15) ?_
           refine At.z 10 ?_
           exact AW.ret (rf (k1 (K_impl_MsgSame _ a b) (show (false) = (msgEq a b) from by grind [msgEq]) (KF.n [])))
         refine At.sB 40 _ _ (sayEF h5) ?_
         refine At.z 7 ?_
         refine AW.r ?_
         refine At.a 4 ?_
         refine At.eqB (t := 4) (u := 4) (d := 51) (op := .eql) (x := .tmp 48) (y := .tmp 50) (a := a.yes) (b := b.yes) (by kernel_rfl) (by kernel_rfl) (by kernel_rfl) (by kernel_rfl) (by kernel_rfl) (.bool (a.yes == b.yes)) (.inl ⟨rfl, rfl⟩) ?_
         refine At.a 1 ?_
         by_cases h16 : (a.yes == b.yes) = true
         · refine At.sB 52 (a.yes == b.yes) true (sayB h16) ?_
           refine At.a 7 ?_
           by_cases h17 : a.release = b.release
           · refine At.sB 59 _ _ (sayET h17) ?_
             refine At.a 7 ?_
             by_cases h18 : a.part = b.part
             · refine At.sB 66 _ _ (sayET h18) ?_
               refine At.a 7 ?_
               by_cases h19 : a.bytes.toList = b.bytes.toList
               · refine At.sB 73 _ _ (sayET h19) ?_
                 refine At.a 4 ?_
                 refine At.eqA (t := 31) (u := 31) (d := 78) (op := .eql) (x := .tmp 75) (y := .tmp 77) (X := [.int .i64 a.cmd.kind, .int .i64 a.cmd.release, .int .i64 a.cmd.node, .int .i64 a.cmd.size, .str a.cmd.digest]) (Y := [.int .i64 b.cmd.kind, .int .i64 b.cmd.release, .int .i64 b.cmd.node, .int .i64 b.cmd.size, .str b.cmd.digest]) (cmdEq a.cmd b.cmd) (by kernel_rfl) (by kernel_rfl) (by kernel_rfl) (by kernel_rfl) (by kernel_rfl) (.bool (cmdEq a.cmd b.cmd)) (.inl ⟨rfl, rfl⟩) ?_
                 refine At.z 2 ?_
                 refine AW.q 12 ?_
                 exact AW.ret (rf (k1 (K_impl_MsgSame _ a b) (show (false) = (msgEq a b) from by grind [msgEq]) (KF.n [])))
               refine At.sB 73 _ _ (sayEF h19) ?_
               refine At.z 7 ?_
               refine AW.q 12 ?_
               exact AW.ret (rf (k1 (K_impl_MsgSame _ a b) (show (false) = (msgEq a b) from by grind [msgEq]) (KF.n [])))
             refine At.sB 66 _ _ (sayEF h18) ?_
             refine At.z 14 ?_
             refine AW.q 12 ?_
             exact AW.ret (rf (k1 (K_impl_MsgSame _ a b) (show (false) = (msgEq a b) from by grind [msgEq]) (KF.n [])))
           refine At.sB 59 _ _ (sayEF h17) ?_
           refine At.z 21 ?_
           refine AW.q 12 ?_
           exact AW.ret (rf (k1 (K_impl_MsgSame _ a b) (show (false) = (msgEq a b) from by grind [msgEq]) (KF.n [])))
         refine At.sB 52 (a.yes == b.yes) false (sayB (Bool.eq_false_iff.2 h16)) ?_
         replace h16 := Bool.eq_false_iff.2 h16
         refine At.z 28 ?_
         refine AW.q 12 ?_
         exact AW.ret (rf (k1 (K_impl_MsgSame _ a b) (show (false) = (msgEq a b) from by grind [msgEq]) (KF.n [])))
       refine At.sB 33 _ _ (sayEF h4) ?_
       refine At.z 14 ?_
       refine AW.r ?_
       refine At.a 4 ?_
       refine At.eqB (t := 4) (u := 4) (d := 51) (op := .eql) (x := .tmp 48) (y := .tmp 50) (a := a.yes) (b := b.yes) (by kernel_rfl) (by kernel_rfl) (by kernel_rfl) (by kernel_rfl) (by kernel_rfl) (.bool (a.yes == b.yes)) (.inl ⟨rfl, rfl⟩) ?_
       refine At.a 1 ?_
       by_cases h20 : (a.yes == b.yes) = true
       · refine At.sB 52 (a.yes == b.yes) true (sayB h20) ?_
         refine At.a 7 ?_
         by_cases h21 : a.release = b.release
         · refine At.sB 59 _ _ (sayET h21) ?_
           refine At.a 7 ?_
           by_cases h22 : a.part = b.part
           · refine At.sB 66 _ _ (sayET h22) ?_
             refine At.a 7 ?_
             by_cases h23 : a.bytes.toList = b.bytes.toList
             · refine At.sB 73 _ _ (sayET h23) ?_
               refine At.a 4 ?_
               refine At.eqA (t := 31) (u := 31) (d := 78) (op := .eql) (x := .tmp 75) (y := .tmp 77) (X := [.int .i64 a.cmd.kind, .int .i64 a.cmd.release, .int .i64 a.cmd.node, .int .i64 a.cmd.size, .str a.cmd.digest]) (Y := [.int .i64 b.cmd.kind, .int .i64 b.cmd.release, .int .i64 b.cmd.node, .int .i64 b.cmd.size, .str b.cmd.digest]) (cmdEq a.cmd b.cmd) (by kernel_rfl) (by kernel_rfl) (by kernel_rfl) (by kernel_rfl) (by kernel_rfl) (.bool (cmdEq a.cmd b.cmd)) (.inl ⟨rfl, rfl⟩) ?_
               refine At.z 2 ?_
               refine AW.q 12 ?_
               exact AW.ret (rf (k1 (K_impl_MsgSame _ a b) (show (false) = (msgEq a b) from by grind [msgEq]) (KF.n [])))
             refine At.sB 73 _ _ (sayEF h23) ?_
             refine At.z 7 ?_
             refine AW.q 12 ?_
             exact AW.ret (rf (k1 (K_impl_MsgSame _ a b) (show (false) = (msgEq a b) from by grind [msgEq]) (KF.n [])))
           refine At.sB 66 _ _ (sayEF h22) ?_
           refine At.z 14 ?_
           refine AW.q 12 ?_
           exact AW.ret (rf (k1 (K_impl_MsgSame _ a b) (show (false) = (msgEq a b) from by grind [msgEq]) (KF.n [])))
         refine At.sB 59 _ _ (sayEF h21) ?_
         refine At.z 21 ?_
         refine AW.q 12 ?_
         exact AW.ret (rf (k1 (K_impl_MsgSame _ a b) (show (false) = (msgEq a b) from by grind [msgEq]) (KF.n [])))
       refine At.sB 52 (a.yes == b.yes) false (sayB (Bool.eq_false_iff.2 h20)) ?_
       replace h20 := Bool.eq_false_iff.2 h20
       refine At.z 28 ?_
       refine AW.q 12 ?_
       exact AW.ret (rf (k1 (K_impl_MsgSame _ a b) (show (false) = (msgEq a b) from by grind [msgEq]) (KF.n [])))
     refine At.sB 26 _ _ (sayEF h3) ?_
     refine At.z 21 ?_
     refine AW.r ?_
     refine At.a 4 ?_
     refine At.eqB (t := 4) (u := 4) (d := 51) (op := .eql) (x := .tmp 48) (y := .tmp 50) (a := a.yes) (b := b.yes) (by kernel_rfl) (by kernel_rfl) (by kernel_rfl) (by kernel_rfl) (by kernel_rfl) (.bool (a.yes == b.yes)) (.inl ⟨rfl, rfl⟩) ?_
     refine At.a 1 ?_
     by_cases h24 : (a.yes == b.yes) = true
     · refine At.sB 52 (a.yes == b.yes) true (sayB h24) ?_
       refine At.a 7 ?_
       by_cases h25 : a.release = b.release
       · refine At.sB 59 _ _ (sayET h25) ?_
         refine At.a 7 ?_
         by_cases h26 : a.part = b.part
         · refine At.sB 66 _ _ (sayET h26) ?_
           refine At.a 7 ?_
           by_cases h27 : a.bytes.toList = b.bytes.toList
           · refine At.sB 73 _ _ (sayET h27) ?_
             refine At.a 4 ?_
             refine At.eqA (t := 31) (u := 31) (d := 78) (op := .eql) (x := .tmp 75) (y := .tmp 77) (X := [.int .i64 a.cmd.kind, .int .i64 a.cmd.release, .int .i64 a.cmd.node, .int .i64 a.cmd.size, .str a.cmd.digest]) (Y := [.int .i64 b.cmd.kind, .int .i64 b.cmd.release, .int .i64 b.cmd.node, .int .i64 b.cmd.size, .str b.cmd.digest]) (cmdEq a.cmd b.cmd) (by kernel_rfl) (by kernel_rfl) (by kernel_rfl) (by kernel_rfl) (by kernel_rfl) (.bool (cmdEq a.cmd b.cmd)) (.inl ⟨rfl, rfl⟩) ?_
             refine At.z 2 ?_
             refine AW.q 12 ?_
             exact AW.ret (rf (k1 (K_impl_MsgSame _ a b) (show (false) = (msgEq a b) from by grind [msgEq]) (KF.n [])))
           refine At.sB 73 _ _ (sayEF h27) ?_
           refine At.z 7 ?_
           refine AW.q 12 ?_
           exact AW.ret (rf (k1 (K_impl_MsgSame _ a b) (show (false) = (msgEq a b) from by grind [msgEq]) (KF.n [])))
         refine At.sB 66 _ _ (sayEF h26) ?_
         refine At.z 14 ?_
         refine AW.q 12 ?_
         exact AW.ret (rf (k1 (K_impl_MsgSame _ a b) (show (false) = (msgEq a b) from by grind [msgEq]) (KF.n [])))
       refine At.sB 59 _ _ (sayEF h25) ?_
       refine At.z 21 ?_
       refine AW.q 12 ?_
       exact AW.ret (rf (k1 (K_impl_MsgSame _ a b) (show (false) = (msgEq a b) from by grind [msgEq]) (KF.n [])))
     refine At.sB 52 (a.yes == b.yes) false (sayB (Bool.eq_false_iff.2 h24)) ?_
     replace h24 := Bool.eq_false_iff.2 h24
     refine At.z 28 ?_
     refine AW.q 12 ?_
     exact AW.ret (rf (k1 (K_impl_MsgSame _ a b) (show (false) = (msgEq a b) from by grind [msgEq]) (KF.n [])))
   refine At.sB 19 _ _ (sayEF h2) ?_
   refine At.z 28 ?_
   refine AW.r ?_
   refine At.a 4 ?_
   refine At.eqB (t := 4) (u := 4) (d := 51) (op := .eql) (x := .tmp 48) (y := .tmp 50) (a := a.yes) (b := b.yes) (by kernel_rfl) (by kernel_rfl) (by kernel_rfl) (by kernel_rfl) (by kernel_rfl) (.bool (a.yes == b.yes)) (.inl ⟨rfl, rfl⟩) ?_
   refine At.a 1 ?_
   by_cases h28 : (a.yes == b.yes) = true
   · refine At.sB 52 (a.yes == b.yes) true (sayB h28) ?_
     refine At.a 7 ?_
     by_cases h29 : a.release = b.release
     · refine At.sB 59 _ _ (sayET h29) ?_
       refine At.a 7 ?_
       by_cases h30 : a.part = b.part
       · refine At.sB 66 _ _ (sayET h30) ?_
         refine At.a 7 ?_
         by_cases h31 : a.bytes.toList = b.bytes.toList
         · refine At.sB 73 _ _ (sayET h31) ?_
           refine At.a 4 ?_
           refine At.eqA (t := 31) (u := 31) (d := 78) (op := .eql) (x := .tmp 75) (y := .tmp 77) (X := [.int .i64 a.cmd.kind, .int .i64 a.cmd.release, .int .i64 a.cmd.node, .int .i64 a.cmd.size, .str a.cmd.digest]) (Y := [.int .i64 b.cmd.kind, .int .i64 b.cmd.release, .int .i64 b.cmd.node, .int .i64 b.cmd.size, .str b.cmd.digest]) (cmdEq a.cmd b.cmd) (by kernel_rfl) (by kernel_rfl) (by kernel_rfl) (by kernel_rfl) (by kernel_rfl) (.bool (cmdEq a.cmd b.cmd)) (.inl ⟨rfl, rfl⟩) ?_
           refine At.z 2 ?_
           refine AW.q 12 ?_
           exact AW.ret (rf (k1 (K_impl_MsgSame _ a b) (show (false) = (msgEq a b) from by grind [msgEq]) (KF.n [])))
         refine At.sB 73 _ _ (sayEF h31) ?_
         refine At.z 7 ?_
         refine AW.q 12 ?_
         exact AW.ret (rf (k1 (K_impl_MsgSame _ a b) (show (false) = (msgEq a b) from by grind [msgEq]) (KF.n [])))
       refine At.sB 66 _ _ (sayEF h30) ?_
       refine At.z 14 ?_
       refine AW.q 12 ?_
       exact AW.ret (rf (k1 (K_impl_MsgSame _ a b) (show (false) = (msgEq a b) from by grind [msgEq]) (KF.n [])))
     refine At.sB 59 _ _ (sayEF h29) ?_
     refine At.z 21 ?_
     refine AW.q 12 ?_
     exact AW.ret (rf (k1 (K_impl_MsgSame _ a b) (show (false) = (msgEq a b) from by grind [msgEq]) (KF.n [])))
   refine At.sB 52 (a.yes == b.yes) false (sayB (Bool.eq_false_iff.2 h28)) ?_
   replace h28 := Bool.eq_false_iff.2 h28
   refine At.z 28 ?_
   refine AW.q 12 ?_
   exact AW.ret (rf (k1 (K_impl_MsgSame _ a b) (show (false) = (msgEq a b) from by grind [msgEq]) (KF.n [])))
 refine At.sB 12 _ _ (sayEF h1) ?_
 refine At.z 35 ?_
 refine AW.r ?_
 refine At.a 4 ?_
 refine At.eqB (t := 4) (u := 4) (d := 51) (op := .eql) (x := .tmp 48) (y := .tmp 50) (a := a.yes) (b := b.yes) (by kernel_rfl) (by kernel_rfl) (by kernel_rfl) (by kernel_rfl) (by kernel_rfl) (.bool (a.yes == b.yes)) (.inl ⟨rfl, rfl⟩) ?_
 refine At.a 1 ?_
 by_cases h32 : (a.yes == b.yes) = true
 · refine At.sB 52 (a.yes == b.yes) true (sayB h32) ?_
   refine At.a 7 ?_
   by_cases h33 : a.release = b.release
   · refine At.sB 59 _ _ (sayET h33) ?_
     refine At.a 7 ?_
     by_cases h34 : a.part = b.part
     · refine At.sB 66 _ _ (sayET h34) ?_
       refine At.a 7 ?_
       by_cases h35 : a.bytes.toList = b.bytes.toList
       · refine At.sB 73 _ _ (sayET h35) ?_
         refine At.a 4 ?_
         refine At.eqA (t := 31) (u := 31) (d := 78) (op := .eql) (x := .tmp 75) (y := .tmp 77) (X := [.int .i64 a.cmd.kind, .int .i64 a.cmd.release, .int .i64 a.cmd.node, .int .i64 a.cmd.size, .str a.cmd.digest]) (Y := [.int .i64 b.cmd.kind, .int .i64 b.cmd.release, .int .i64 b.cmd.node, .int .i64 b.cmd.size, .str b.cmd.digest]) (cmdEq a.cmd b.cmd) (by kernel_rfl) (by kernel_rfl) (by kernel_rfl) (by kernel_rfl) (by kernel_rfl) (.bool (cmdEq a.cmd b.cmd)) (.inl ⟨rfl, rfl⟩) ?_
         refine At.z 2 ?_
         refine AW.q 12 ?_
         exact AW.ret (rf (k1 (K_impl_MsgSame _ a b) (show (false) = (msgEq a b) from by grind [msgEq]) (KF.n [])))
       refine At.sB 73 _ _ (sayEF h35) ?_
       refine At.z 7 ?_
       refine AW.q 12 ?_
       exact AW.ret (rf (k1 (K_impl_MsgSame _ a b) (show (false) = (msgEq a b) from by grind [msgEq]) (KF.n [])))
     refine At.sB 66 _ _ (sayEF h34) ?_
     refine At.z 14 ?_
     refine AW.q 12 ?_
     exact AW.ret (rf (k1 (K_impl_MsgSame _ a b) (show (false) = (msgEq a b) from by grind [msgEq]) (KF.n [])))
   refine At.sB 59 _ _ (sayEF h33) ?_
   refine At.z 21 ?_
   refine AW.q 12 ?_
   exact AW.ret (rf (k1 (K_impl_MsgSame _ a b) (show (false) = (msgEq a b) from by grind [msgEq]) (KF.n [])))
 refine At.sB 52 (a.yes == b.yes) false (sayB (Bool.eq_false_iff.2 h32)) ?_
 replace h32 := Bool.eq_false_iff.2 h32
 refine At.z 28 ?_
 refine AW.q 12 ?_
 exact AW.ret (rf (k1 (K_impl_MsgSame _ a b) (show (false) = (msgEq a b) from by grind [msgEq]) (KF.n [])))
theorem impl_MsgFits_spec  (m : Msg) (hl : m.entries.length ≤ 1048576) : FnSpec Try.prog 35 [(msgA m)] [] (.bool (msgFits m)) [] := by
 have hfs := fieldsL_small m.kind
 refine FnSpec.of 30 Try.func35 rfl Try.ntmps35 (by simp) (AW.weakK ?_)
 refine AW.q 2 ?_
 refine AW.r ?_
 refine At.a 2 ?_
 refine At.c (impl_fieldsOf_spec  m.kind ) Try.call37 true [] [] [] trivial ?_
 refine At.z 1 ?_
 refine AW.q 3 ?_
 refine AW.seq ?_
 refine AW.q 3 ?_
 refine AW.block ?_
 refine AW.loopW (fun (x : Nat × Msg) => match x with | (k, q) => Go.Sy.mk [.un, .ptr 101 0 0, .un, .str (fieldsL m.kind), .ptr 104 0 0, .un, .un, .un, .un, .un, .un, .int .i64 ((fieldsL m.kind).size : Int), .int .i64 (k : Int)] [(101, .box 34 [.int .i64 m.kind, .int .i64 m.from_, .int .i64 m.term, .int .i64 m.at_, .int .i64 m.atTerm, .int .i64 m.commit, .bool m.yes, .int .i64 m.release, .int .i64 m.part, .str m.bytes, .int .i64 m.cmd.kind, .int .i64 m.cmd.release, .int .i64 m.cmd.node, .int .i64 m.cmd.size, .str m.cmd.digest, .sl false 6 (m.entries.map encEnt)]), (104, .box 34 [.int .i64 q.kind, .int .i64 q.from_, .int .i64 q.term, .int .i64 q.at_, .int .i64 q.atTerm, .int .i64 q.commit, .bool q.yes, .int .i64 q.release, .int .i64 q.part, .str q.bytes, .int .i64 q.cmd.kind, .int .i64 q.cmd.release, .int .i64 q.cmd.node, .int .i64 q.cmd.size, .str q.cmd.digest, .sl false 6 (q.entries.map encEnt)])]) (fun (x : Nat × Msg) => match x with | (k, q) => k ≤ (fieldsL m.kind).size ∧ q.entries.length ≤ 1048576 ∧ runTake m.kind (fieldsL m.kind).data.toList m = runTake m.kind ((fieldsL m.kind).data.toList.drop k) q) (fun (x : Nat × Msg) => match x with | (k, q) => (fieldsL m.kind).size - k) (0, m) ⟨by omega, hl, by rw [List.drop_zero]⟩ (Sub.o [(101, 101), (104, 104)] [false, true, false, true, true, false, false, false, false, false, false, true, true]) ?_
 rintro ⟨k, q⟩ ⟨hk, hq, hR⟩
 refine AW.q 1 ?_
 refine AW.seq ?_
 refine AW.cD ((k : Int) < ((fieldsL m.kind).size : Int)) (fun h1 => ?_) (fun h1 => ?_)
 · refine AW.skip ?_
   refine AW.seq ?_
   refine AW.block ?_
   refine AW.q 2 ?_
   refine AW.r ?_
   refine At.a 2 ?_
   refine Exists.elim (show ∃ e, (fieldsL m.kind).data[k]? = some e from ⟨_, Array.getElem?_eq_getElem (by show _ < (fieldsL m.kind).size; omega)⟩) fun e1 he1 => ?_
   have hl1 : (fieldsL m.kind).data.toList[k]? = some e1 := by simpa using he1
   refine At.idxStr (t := 9) (d := 17) (x := .tmp 15) (y := .tmp 16) (s := fieldsL m.kind) (kd := .i64) (i := (k : Int)) e1 (by kernel_rfl) (by kernel_rfl) (by kernel_rfl) (by kernel_rfl) (by omega) he1 ?_
   refine At.c (impl_Msg_take_spec  q e1 (by omega)) Try.call66 true [(104, 0)] [] [] trivial ?_
   refine At.z 1 ?_
   refine AW.cNB (takeOk q e1.toNat) (fun h2 => ?_) (fun h2 => ?_)
   · refine AW.q 1 ?_
     refine AW.ret ?_
     refine ⟨_, Sub.refl _ _, ?_⟩
     refine KF.conv (fun w => .bool w) (fun w => []) (show (false) = (msgFits m) from by rw [fits_run, hR, dropCons hl1, runTake]; simp [h1, h2]) ?_
     exact KF.n []
   refine AW.skip ?_
   refine AW.g ?_
   refine At.a 1 ?_
   refine At.sI 20 ((k : Int) + 1) (by omega) ?_
   refine At.z 1 ?_
   exact ⟨(k + 1, (takeM q e1.toNat)), ⟨by omega, takeM_small hq _, by rw [hR, dropCons hl1, runTake]; simp only [*, Bool.true_and]⟩, (by simp only; omega), Sub.o [(101, 101), (104, 104)] [false, true, false, true, true, false, false, false, false, false, false, true, true]⟩
 refine AW.exit ?_
 refine AW.r ?_
 refine At.a 3 ?_
 by_cases h3 : (fieldsL m.kind).toList = (⟨#[]⟩ : ByteArray).toList
 · refine At.sB 23 (!((fieldsL m.kind).toList == (⟨#[]⟩ : ByteArray).toList)) false (sayNF (sayET h3)) ?_
   refine At.z 7 ?_
   refine AW.ret ?_
   refine ⟨_, Sub.refl _ _, ?_⟩
   refine KF.conv (fun w => .bool w) (fun w => []) (show (false) = (msgFits m) from by rw [fits_run, show ((fieldsL m.kind).toList == []) = true from beq_iff_eq.2 (by rw [← noBytes]; assumption)]; rfl) ?_
   exact KF.n []
 refine At.sB 23 (!((fieldsL m.kind).toList == (⟨#[]⟩ : ByteArray).toList)) true (sayNT (sayEF h3)) ?_
 refine At.a 4 ?_
 refine At.c (FnSpec.nz (As := [.agg [.int .i64 q.kind, .int .i64 q.from_, .int .i64 q.term, .int .i64 q.at_, .int .i64 q.atTerm, .int .i64 q.commit, .bool q.yes, .int .i64 q.release, .int .i64 q.part, .str q.bytes, .int .i64 q.cmd.kind, .int .i64 q.cmd.release, .int .i64 q.cmd.node, .int .i64 q.cmd.size, .str q.cmd.digest, .sl false 6 (q.entries.map encEnt)], .agg [.int .i64 m.kind, .int .i64 0, .int .i64 0, .int .i64 0, .int .i64 0, .int .i64 0, .bool false, .int .i64 0, .int .i64 0, .str (⟨#[]⟩ : ByteArray), .int .i64 0, .int .i64 0, .int .i64 0, .int .i64 0, .str (⟨#[]⟩ : ByteArray), .nil]]) 6 (impl_MsgSame_spec  q (⟨m.kind, 0, 0, 0, 0, 0, false, 0, 0, (⟨#[]⟩ : ByteArray), ⟨0, 0, 0, 0, (⟨#[]⟩ : ByteArray)⟩, []⟩ : Msg) (by omega) (by simp only [List.length_map, List.length_append, List.length_take, List.length_drop, List.length_replicate, List.length_set, List.length_cons, List.length_nil]; omega))) Try.call23 true [] [] [] trivial ?_
 refine At.z 2 ?_
 refine AW.ret ?_
 refine ⟨_, Sub.refl _ _, ?_⟩
 refine KF.conv (fun w => .bool w) (fun w => []) (show (msgEq q (⟨m.kind, 0, 0, 0, 0, 0, false, 0, 0, (⟨#[]⟩ : ByteArray), ⟨0, 0, 0, 0, (⟨#[]⟩ : ByteArray)⟩, []⟩ : Msg)) = (msgFits m) from by rw [fits_run, hR, List.drop_of_length_le (by rw [Array.length_toList]; show (fieldsL m.kind).size ≤ _; omega), runTake, beq_eq_false_iff_ne.2 (by rw [← noBytes]; assumption)]; rfl) ?_
 exact KF.n []
theorem impl_PutNum_spec  (x : Int) (hx : x ≤ 4611686018427387904) : FnSpec Try.prog 36 [.int .i64 x] [] (.ref 0) [.arr 5 1 ((putI x).map encU8)] := by
 refine FnSpec.of 23 Try.func36 rfl Try.ntmps36 (by simp) (AW.weakK ?_)
 refine AW.q 1 ?_
 refine AW.seq ?_
 refine AW.q 2 ?_
 refine AW.cD (x < 0) (fun h1 => ?_) (fun h1 => ?_)
 · refine AW.q 1 ?_
   refine AW.ret ?_
   refine ⟨_, Sub.nils [⟨false, 2, none, 5001, 5, 1⟩] (by kernel_rfl), ?_⟩
   refine KF.conv (fun w => .ref 0) (fun w => [.arr 5 1 (w.map encU8)]) (show ([]) = (putI x) from by unfold putI; rw [if_pos (by omega)]) ?_
   exact KF.n [(5001, 0)]
 refine AW.skip ?_
 refine AW.r ?_
 refine At.lit0 (t := 28) (d := 6) (e := 5) (es := 1) (bytes := 1) 106 (by kernel_rfl) (by kernel_rfl) (by kernel_rfl) (by kernel_rfl) ?_
 refine At.z 1 ?_
 refine AW.seq ?_
 refine AW.block ?_
 refine AW.loopW (fun (z_ : Int × List UInt8) => match z_ with | (y, o) => Go.Sy.mk [.int .i64 y, .un, .un, .ref 106] [(106, .arr 5 1 (o.map encU8))]) (fun (z_ : Int × List UInt8) => match z_ with | (y, o) => (0 ≤ y ∧ y ≤ x) ∧ putI x = o ++ putN y) (fun (z_ : Int × List UInt8) => match z_ with | (y, o) => y.toNat) (x, []) ⟨⟨by omega, by omega⟩, by unfold putI; rw [if_neg (by omega)]; rfl⟩ (Sub.o [(106, 106)] [true, false, false, true]) ?_
 rintro ⟨y, o⟩ ⟨⟨hy, hyx⟩, hR⟩
 have hl9 := putI_len hx
 have hle := congrArg List.length hR
 rw [List.length_append] at hle
 refine AW.seq ?_
 refine AW.q 2 ?_
 refine AW.cD (y > 127) (fun h2 => ?_) (fun h2 => ?_)
 · refine AW.skip ?_
   refine AW.block ?_
   refine AW.r ?_
   refine At.a 2 ?_
   refine At.bits (t := 3) (u := 3) (d := 11) (op := .and) (x := .tmp 10) (y := .const (.int .i64 127)) (kd := .i64) (a := y) (b := 127) (y % 128) (by kernel_rfl) (by kernel_rfl) (by kernel_rfl) (by kernel_rfl) (andM 7 128 _ _ (by decide) (by decide) (by decide)) ?_
   refine At.bits (t := 3) (u := 3) (d := 12) (op := .or) (x := .tmp 11) (y := .const (.int .i64 128)) (kd := .i64) (a := y % 128) (b := 128) (bitV .or .i64 (y % 128) 128) (by kernel_rfl) (by kernel_rfl) (by kernel_rfl) (by kernel_rfl) (bitS_or _ _ _) ?_
   refine At.conv (s := 3) (t := 5) (d := 13) (x := .tmp 12) (kd := .i64) (kd' := .u8) (a := bitV .or .i64 (y % 128) 128) (.int .u8 ((u8Of (bitV .or .i64 (y % 128) 128)).toNat : Int)) (by kernel_rfl) (by kernel_rfl) (by kernel_rfl) (by kernel_rfl) (sayByte _) ?_
   refine At.ll 14 5 1 114 (56, 6) (([(u8Of (bitV .or .i64 (y % 128) 128))]).map encU8) ?_
   refine At.apK 15 5 1 1 115 106 114 encU8 o ([(u8Of (bitV .or .i64 (y % 128) 128))]) (by simp only [List.length_map, List.length_append, List.length_take, List.length_drop, List.length_replicate, List.length_set, List.length_cons, List.length_nil]; omega) ?_
   refine At.z 1 ?_
   refine AW.g ?_
   refine At.a 1 ?_
   refine At.shift (t := 3) (u := 93) (d := 17) (op := .shr) (x := .tmp 16) (y := .const (.int .u64 7)) (kd := .i64) (kd' := .u64) (a := y) (b := 7) (shV .shr .i64 y 7) (by kernel_rfl) (by kernel_rfl) (by kernel_rfl) (by kernel_rfl) (by omega) (shS_shr _ _ _) ?_
   refine At.z 1 ?_
   exact ⟨((shV .shr .i64 y 7), (o ++ ([(u8Of (bitV .or .i64 (y % 128) 128))]))), ⟨by rw [shr7]; omega, by (try rw [shr7, or128 hy]); exact putI_step hR (by omega)⟩, (by (try rw [shr7]); simp only; omega), Sub.o [(115, 106)] [true, false, false, true]⟩
 refine AW.exit ?_
 refine AW.r ?_
 refine At.a 2 ?_
 refine At.conv (s := 3) (t := 5) (d := 20) (x := .tmp 19) (kd := .i64) (kd' := .u8) (a := y) (.int .u8 ((u8Of y).toNat : Int)) (by kernel_rfl) (by kernel_rfl) (by kernel_rfl) (by kernel_rfl) (sayByte _) ?_
 refine At.ll 21 5 1 121 (56, 6) (([(u8Of y)]).map encU8) ?_
 refine At.apK 22 5 1 1 122 106 121 encU8 o ([(u8Of y)]) (by simp only [List.length_map, List.length_append, List.length_take, List.length_drop, List.length_replicate, List.length_set, List.length_cons, List.length_nil]; omega) ?_
 refine At.z 1 ?_
 refine AW.ret ?_
 refine ⟨_, Sub.refl _ _, ?_⟩
 refine KF.conv (fun w => .ref 0) (fun w => [.arr 5 1 (w.map encU8)]) (show (o ++ ([(u8Of y)])) = (putI x) from by exact putI_end hR (by omega)) ?_
 exact KF.n [(122, 0)]
theorem impl_PutText_spec  (s : ByteArray) (hs : s.size ≤ 1048576) : FnSpec Try.prog 67 [.str s] [] (.ref 0) [.arr 5 1 ((putT s).map encU8)] := by
 have hpl := putI_len (x := (s.size : Int)) (by omega)
 have hsl : s.data.toList.length = s.size := Array.length_toList
 refine FnSpec.of 11 Try.func67 rfl Try.ntmps67 (by simp) (AW.weakK ?_)
 refine AW.q 1 ?_
 refine AW.seq ?_
 refine AW.q 3 ?_
 refine AW.cD ((s.size : Int) > 3000) (fun h1 => ?_) (fun h1 => ?_)
 · refine AW.q 1 ?_
   refine AW.ret ?_
   refine ⟨_, Sub.nils [⟨false, 2, none, 5001, 5, 1⟩] (by kernel_rfl), ?_⟩
   refine KF.conv (fun w => .ref 0) (fun w => [.arr 5 1 (w.map encU8)]) (show ([]) = (putT s) from by rw [putT_no (by assumption)]) ?_
   exact KF.n [(5001, 0)]
 refine AW.skip ?_
 refine AW.r ?_
 refine At.a 2 ?_
 refine At.c (impl_PutNum_spec  (s.size : Int) (by omega)) Try.call36 true [] [(1160, 0)] [] trivial ?_
 refine At.a 1 ?_
 refine At.appStr (t := 28) (u := 9) (d := 10) (e := 5) (s := .tmp 8) (x := .tmp 9) (S := .ref 1160) (b := s) (xs := ((putI (s.size : Int)).map encU8)) 110 [1160] (((putI (s.size : Int)) ++ s.data.toList).map encU8) (by kernel_rfl) (by kernel_rfl) (by kernel_rfl) (by kernel_rfl) (by kernel_rfl) ⟨by kernel_rfl, rfl⟩ (by kernel_rfl) (by kernel_rfl) (by simp) (by simp only [List.length_map]; omega) ?_
 refine At.z 1 ?_
 refine AW.ret ?_
 refine ⟨_, Sub.refl _ _, ?_⟩
 refine KF.conv (fun w => .ref 0) (fun w => [.arr 5 1 (w.map encU8)]) (show ((putI (s.size : Int)) ++ s.data.toList) = (putT s) from by rw [putT_yes (by assumption)]) ?_
 exact KF.n [(110, 0)]
theorem impl_putNums_spec  (list : List Int) (hl : list.length ≤ 3) (hb : ∀ x ∈ list, x ≤ 4611686018427387904) : FnSpec Try.prog 90 [.sl false 1 (list.map encI)] [] (.ref 0) [.arr 5 1 ((putAll list).map encU8)] := by
 refine FnSpec.of 19 Try.func90 rfl Try.ntmps90 (by simp) (AW.weakK ?_)
 refine AW.q 1 ?_
 refine AW.r ?_
 refine At.lit0 (t := 28) (d := 6) (e := 5) (es := 1) (bytes := 1) 106 (by kernel_rfl) (by kernel_rfl) (by kernel_rfl) (by kernel_rfl) ?_
 refine At.z 1 ?_
 refine AW.seq ?_
 refine AW.r ?_
 refine At.a 2 ?_
 refine At.sL 8 encI list ?_
 refine At.z 1 ?_
 refine AW.block ?_
 refine AW.loopW (fun (x : Nat × List UInt8) => match x with | (k, o) => Go.Sy.mk [.un, .un, .un, .ref 106, .un, .un, .un, .sl false 1 (list.map encI), .int .i64 (list.length : Int), .int .i64 (k : Int)] [(106, .arr 5 1 (o.map encU8))]) (fun (x : Nat × List UInt8) => match x with | (k, o) => k ≤ list.length ∧ o.length ≤ 9 * k ∧ putAll list = o ++ putAll (list.drop k)) (fun (x : Nat × List UInt8) => match x with | (k, o) => list.length - k) (0, []) ⟨by omega, by simp, by rw [List.drop_zero]; rfl⟩ (Sub.o [(106, 106)] [false, false, false, true, false, false, false, true, true, true]) ?_
 rintro ⟨k, o⟩ ⟨hk, ho, hR⟩
 refine AW.q 1 ?_
 refine AW.seq ?_
 refine AW.cD ((k : Int) < (list.length : Int)) (fun h1 => ?_) (fun h1 => ?_)
 · refine AW.skip ?_
   refine AW.seq ?_
   refine AW.block ?_
   refine AW.r ?_
   refine At.iSl 85 11 (.tmp 7) (.tmp 9) false 1 (list.map encI) .i64 (k : Int) 3 (by omega) (by simp only [List.length_map]; omega) ?_
   refine Exists.elim (gE list k (by omega)) fun e1 he1 => ?_
   have hxe1 := hb _ (List.mem_of_getElem? he1)
   have hpe1 := putI_len hxe1
   refine At.lVp 3 12 (.tmp 11) false 1 (list.map encI) k 0 false 1 (encI e1) (.int .i64 e1) (mapGet he1) ?_
   refine At.z 1 ?_
   refine AW.g ?_
   refine At.a 2 ?_
   refine At.c (impl_PutNum_spec  e1 (by omega)) Try.call36 true [] [(1300, 0)] [] trivial ?_
   refine At.apC 16 5 1 1 116 106 1300 encU8 o (putI e1) (by omega) (allP_encU8 _) ?_
   refine At.z 1 ?_
   refine AW.g ?_
   refine At.a 1 ?_
   refine At.sI 17 ((k : Int) + 1) (by omega) ?_
   refine At.z 1 ?_
   exact ⟨(k + 1, (o ++ (putI e1))), ⟨by omega, by simp only [List.length_append]; omega, by rw [hR, dropCons he1, putAll, List.append_assoc]⟩, (by simp only; omega), Sub.o [(116, 106)] [false, false, false, true, false, false, false, true, true, true]⟩
 refine AW.exit ?_
 refine AW.q 2 ?_
 refine AW.ret ?_
 refine ⟨_, Sub.refl _ _, ?_⟩
 refine KF.conv (fun w => .ref 0) (fun w => [.arr 5 1 (w.map encU8)]) (show (o) = (putAll list) from by rw [hR, List.drop_of_length_le (by omega)]; simp [putAll]) ?_
 exact KF.n [(106, 0)]
def K_impl_CmdPack (rs : List ResultVar) (c : Cmd) (w0_ : List UInt8) (w1_ : Bool) : Exit → Sg → Prop := KF Try.prog 0 rs (.tup [.ref 0, .bool w1_]) [.arr 5 1 (w0_.map encU8)]
theorem impl_CmdPack_spec  (c : Cmd) : FnSpec Try.prog 68 [.agg [.int .i64 c.kind, .int .i64 c.release, .int .i64 c.node, .int .i64 c.size, .str c.digest]] [] (.tup [.ref 0, .bool (cmdOk c)]) [.arr 5 1 ((cmdP c).map encU8)] := by
 refine FnSpec.of 43 Try.func68 rfl Try.ntmps68 (by simp) (AW.weakK ?_)
 refine AW.q 3 ?_
 refine AW.seq ?_
 refine AW.r ?_
 refine At.a 1 ?_
 refine At.c (impl_CmdOk_spec  c ) Try.call88 true [] [] [] trivial ?_
 refine At.z 1 ?_
 refine AW.cNB (cmdOk c) (fun h1 => ?_) (fun h1 => ?_)
 · refine AW.q 2 ?_
   refine AW.ret ?_
   refine ⟨_, Sub.nils [⟨false, 2, none, 5001, 5, 1⟩] (by kernel_rfl), ?_⟩
   exact k2 (K_impl_CmdPack _ c) (show ([]) = (cmdP c) from by rw [cmdP_no (by assumption)]) (show (false) = (cmdOk c) from by simp [*]) (KF.n [(5001, 0)])
 have hci := cmdOk_in h1
 have p1 := putI_len (x := c.kind) (by omega)
 have p2 := putI_len (x := c.release) (by omega)
 have p3 := putI_len (x := c.node) (by omega)
 have p4 := putI_len (x := c.size) (by omega)
 have p5 : c.digest.data.toList.length = c.digest.size := Array.length_toList
 have p6 := putAll_len3 c.kind c.release c.size (by omega) (by omega) (by omega)
 refine AW.skip ?_
 refine AW.seq ?_
 refine AW.q 2 ?_
 refine AW.block ?_
 refine AW.q 2 ?_
 refine AW.cE c.kind (1 : Int) (fun h2 => ?_) (fun h2 => ?_)
 · refine AW.r ?_
   refine At.a 2 ?_
   refine At.c (impl_PutNum_spec  c.kind (by omega)) Try.call36 true [] [(1260, 0)] [] trivial ?_
   refine At.z 2 ?_
   exact AW.ret (rf (k2 (K_impl_CmdPack _ c) (show (putI c.kind) = (cmdP c) from by rw [cmdP_yes (by assumption)]; simp [cmdB, putAll, h1, h2]) (show (true) = (cmdOk c) from by simp [*]) (KF.n [(1260, 0)])))
 refine AW.q 2 ?_
 refine AW.cE c.kind (2 : Int) (fun h3 => ?_) (fun h3 => ?_)
 · refine AW.seq ?_
   refine AW.gD Try_mix ?_
   refine At.a 6 ?_
   refine At.ll 22 3 1 122 (56, 6) (([c.kind, c.release, c.size]).map encI) ?_
   refine At.c (impl_putNums_spec  ([c.kind, c.release, c.size]) (by simp) (by intro x hx; simp only [List.mem_cons, List.not_mem_nil, or_false] at hx; omega)) Try.call90 false [] [(1460, 0)] [(122, 1, (([c.kind, c.release, c.size]).map encI))] ⟨rfl, ⟨3, (([c.kind, c.release, c.size]).map encI), by kernel_rfl, FrzIs.same (allP_encI _)⟩, trivial⟩ ?_
   refine At.a 2 ?_
   refine At.appStr (t := 28) (u := 9) (d := 26) (e := 5) (s := .tmp 23) (x := .tmp 25) (S := .ref 1460) (b := c.digest) (xs := ((putAll ([c.kind, c.release, c.size])).map encU8)) 126 [1460] (((putAll ([c.kind, c.release, c.size])) ++ c.digest.data.toList).map encU8) (by kernel_rfl) (by kernel_rfl) (by kernel_rfl) (by kernel_rfl) (by kernel_rfl) ⟨by kernel_rfl, rfl⟩ (by kernel_rfl) (by kernel_rfl) (by simp) (by simp only [List.length_map]; omega) ?_
   refine At.zD 2 ?_
   exact AW.ret (rf (k2 (K_impl_CmdPack _ c) (show ((putAll ([c.kind, c.release, c.size])) ++ c.digest.data.toList) = (cmdP c) from by rw [cmdP_yes (by assumption)]; simp [cmdB, putAll, h1, h2, h3]) (show (true) = (cmdOk c) from by simp [*]) (KF.n [(126, 0)])))
 refine AW.q 2 ?_
 refine AW.cE c.kind (3 : Int) (fun h4 => ?_) (fun h4 => ?_)
 · refine AW.r ?_
   refine At.a 6 ?_
   refine At.ll 35 3 1 135 (56, 6) (([c.kind, c.release, c.node]).map encI) ?_
   refine At.c (impl_putNums_spec  ([c.kind, c.release, c.node]) (by simp) (by intro x hx; simp only [List.mem_cons, List.not_mem_nil, or_false] at hx; omega)) Try.call90 false [] [(1720, 0)] [(135, 1, (([c.kind, c.release, c.node]).map encI))] ⟨rfl, ⟨3, (([c.kind, c.release, c.node]).map encI), by kernel_rfl, FrzIs.same (allP_encI _)⟩, trivial⟩ ?_
   refine At.z 2 ?_
   exact AW.ret (rf (k2 (K_impl_CmdPack _ c) (show (putAll ([c.kind, c.release, c.node])) = (cmdP c) from by rw [cmdP_yes (by assumption)]; simp [cmdB, putAll, h1, h2, h3, h4]) (show (true) = (cmdOk c) from by simp [*]) (KF.n [(1720, 0)])))
 refine AW.skip ?_
 refine AW.r ?_
 refine At.a 4 ?_
 refine At.ll 41 3 1 141 (56, 6) (([c.kind, c.release]).map encI) ?_
 refine At.c (impl_putNums_spec  ([c.kind, c.release]) (by simp) (by intro x hx; simp only [List.mem_cons, List.not_mem_nil, or_false] at hx; omega)) Try.call90 false [] [(1840, 0)] [(141, 1, (([c.kind, c.release]).map encI))] ⟨rfl, ⟨3, (([c.kind, c.release]).map encI), by kernel_rfl, FrzIs.same (allP_encI _)⟩, trivial⟩ ?_
 refine At.z 2 ?_
 exact AW.ret (rf (k2 (K_impl_CmdPack _ c) (show (putAll ([c.kind, c.release])) = (cmdP c) from by rw [cmdP_yes (by assumption)]; simp [cmdB, putAll, h1, h2, h3, h4]) (show (true) = (cmdOk c) from by simp [*]) (KF.n [(1840, 0)])))
theorem impl_packEntries_spec  (list : List Ent) (hl : list.length ≤ 6) (hb : ∀ x ∈ list, x.term ≤ 4611686018427387904) : FnSpec Try.prog 69 [.sl false 6 (list.map encEnt)] [] (.ref 0) [.arr 5 1 ((packE list).map encU8)] := by
 have hln := putI_len (x := (list.length : Int)) (by omega)
 refine FnSpec.of 32 Try.func69 rfl Try.ntmps69 (by simp) (AW.weakK ?_)
 refine AW.q 1 ?_
 refine AW.r ?_
 refine At.a 2 ?_
 refine At.sL 9 encEnt list ?_
 refine At.c (impl_PutNum_spec  (list.length : Int) (by omega)) Try.call36 true [] [(1200, 0)] [] trivial ?_
 refine At.z 1 ?_
 refine AW.seq ?_
 refine AW.r ?_
 refine At.a 2 ?_
 refine At.sL 12 encEnt list ?_
 refine At.z 1 ?_
 refine AW.block ?_
 refine AW.loopW (fun (x : Nat × List UInt8) => match x with | (k, o) => Go.Sy.mk [.un, .un, .un, .ref 1200, .un, .un, .un, .un, .un, .un, .un, .sl false 6 (list.map encEnt), .int .i64 (list.length : Int), .int .i64 (k : Int)] [(1200, .arr 5 1 (o.map encU8))]) (fun (x : Nat × List UInt8) => match x with | (k, o) => k ≤ list.length ∧ o.length ≤ 77 * k + 9 ∧ packE list = o ++ entsB (list.drop k)) (fun (x : Nat × List UInt8) => match x with | (k, o) => list.length - k) (0, putI (list.length : Int)) ⟨by omega, by omega, by rw [List.drop_zero]; rfl⟩ (Sub.o [(1200, 1200)] [false, false, false, true, false, false, false, false, false, false, false, true, true, true]) ?_
 rintro ⟨k, o⟩ ⟨hk, ho, hR⟩
 refine AW.q 1 ?_
 refine AW.seq ?_
 refine AW.cD ((k : Int) < (list.length : Int)) (fun h1 => ?_) (fun h1 => ?_)
 · refine AW.skip ?_
   refine AW.seq ?_
   refine AW.block ?_
   refine AW.r ?_
   refine At.iSl 32 15 (.tmp 11) (.tmp 13) false 6 (list.map encEnt) .i64 (k : Int) 56 (by omega) (by simp only [List.length_map]; omega) ?_
   refine Exists.elim (gE list k (by omega)) fun e1 he1 => ?_
   have hxe1 := hb _ (List.mem_of_getElem? he1)
   have hpe1 := putI_len hxe1
   have hqe1 := cmdP_len e1.cmd
   refine At.lVp 56 16 (.tmp 15) false 6 (list.map encEnt) k 0 true 6 (encEnt e1) (.agg [.int .i64 e1.term, .int .i64 e1.cmd.kind, .int .i64 e1.cmd.release, .int .i64 e1.cmd.node, .int .i64 e1.cmd.size, .str e1.cmd.digest]) (mapGet he1) ?_
   refine At.z 2 ?_
   refine AW.r ?_
   refine At.a 2 ?_
   refine At.c (impl_CmdPack_spec  e1.cmd ) Try.call68 true [] [(1400, 0)] [] trivial ?_
   refine At.z 5 ?_
   refine AW.g ?_
   refine At.a 3 ?_
   refine At.c (impl_PutNum_spec  e1.term (by omega)) Try.call36 true [] [(1520, 0)] [] trivial ?_
   refine At.apC 27 5 1 1 127 1200 1520 encU8 o (putI e1.term) (by omega) (allP_encU8 _) ?_
   refine At.a 1 ?_
   refine At.apC 29 5 1 1 129 127 1400 encU8 (o ++ (putI e1.term)) (cmdP e1.cmd) (by simp only [List.length_map, List.length_append, List.length_take, List.length_drop, List.length_replicate, List.length_set, List.length_cons, List.length_nil]; omega) (allP_encU8 _) ?_
   refine At.z 1 ?_
   refine AW.g ?_
   refine At.a 1 ?_
   refine At.sI 30 ((k : Int) + 1) (by omega) ?_
   refine At.z 1 ?_
   exact ⟨(k + 1, ((o ++ (putI e1.term)) ++ (cmdP e1.cmd))), ⟨by omega, by simp only [List.length_append]; omega, by rw [hR, dropCons he1, entsB]; simp only [List.append_assoc]⟩, (by simp only; omega), Sub.o [(129, 1200)] [false, false, false, true, false, false, false, false, false, false, false, true, true, true]⟩
 refine AW.exit ?_
 refine AW.q 2 ?_
 refine AW.ret ?_
 refine ⟨_, Sub.refl _ _, ?_⟩
 refine KF.conv (fun w => .ref 0) (fun w => [.arr 5 1 (w.map encU8)]) (show (o) = (packE list) from by rw [hR, List.drop_of_length_le (by omega)]; simp [entsB]) ?_
 exact KF.n [(1200, 0)]
def K_impl_Msg_pack (rs : List ResultVar) (m : Msg) (field : UInt8) (w0_ : List UInt8) : Exit → Sg → Prop := KF Try.prog 1 rs (.ref 1) [.box 34 [.int .i64 m.kind, .int .i64 m.from_, .int .i64 m.term, .int .i64 m.at_, .int .i64 m.atTerm, .int .i64 m.commit, .bool m.yes, .int .i64 m.release, .int .i64 m.part, .str m.bytes, .int .i64 m.cmd.kind, .int .i64 m.cmd.release, .int .i64 m.cmd.node, .int .i64 m.cmd.size, .str m.cmd.digest, .sl false 6 (m.entries.map encEnt)], .arr 5 1 (w0_.map encU8)]
theorem impl_Msg_pack_spec  (m : Msg) (field : UInt8) (hk : m.entries.length ≤ 6) (hp : Packs m) : FnSpec Try.prog 38 [.ptr 0 0 0, .int .u8 (field.toNat : Int)] [.box 34 [.int .i64 m.kind, .int .i64 m.from_, .int .i64 m.term, .int .i64 m.at_, .int .i64 m.atTerm, .int .i64 m.commit, .bool m.yes, .int .i64 m.release, .int .i64 m.part, .str m.bytes, .int .i64 m.cmd.kind, .int .i64 m.cmd.release, .int .i64 m.cmd.node, .int .i64 m.cmd.size, .str m.cmd.digest, .sl false 6 (m.entries.map encEnt)]] (.ref 1) [.box 34 [.int .i64 m.kind, .int .i64 m.from_, .int .i64 m.term, .int .i64 m.at_, .int .i64 m.atTerm, .int .i64 m.commit, .bool m.yes, .int .i64 m.release, .int .i64 m.part, .str m.bytes, .int .i64 m.cmd.kind, .int .i64 m.cmd.release, .int .i64 m.cmd.node, .int .i64 m.cmd.size, .str m.cmd.digest, .sl false 6 (m.entries.map encEnt)], .arr 5 1 ((fByte m field.toNat).map encU8)] := by
 obtain ⟨b1, b2, b3, b4, b5, b6, b7, b8, b9⟩ := id hp
 refine FnSpec.of 88 Try.func38 rfl Try.ntmps38 (by simp) (AW.weakK ?_)
 refine AW.q 1 ?_
 refine AW.seq ?_
 refine AW.q 1 ?_
 refine AW.block ?_
 refine AW.q 2 ?_
 refine AW.cE (field.toNat : Int) (102 : Int) (fun h1 => ?_) (fun h1 => ?_)
 · refine AW.r ?_
   refine At.a 4 ?_
   refine At.c (impl_PutNum_spec  m.from_ (by omega)) Try.call36 true [] [(1280, 0)] [] trivial ?_
   refine At.z 1 ?_
   exact AW.ret (rf (k1 (K_impl_Msg_pack _ m field) (show (putI m.from_) = (fByte m field.toNat) from by simp only [fByte, h1, if_true, if_false] <;> rfl) (KF.n [(0, 0), (1280, 1)])))
 refine AW.q 2 ?_
 refine AW.cE (field.toNat : Int) (116 : Int) (fun h2 => ?_) (fun h2 => ?_)
 · refine AW.r ?_
   refine At.a 4 ?_
   refine At.c (impl_PutNum_spec  m.term (by omega)) Try.call36 true [] [(1420, 0)] [] trivial ?_
   refine At.z 1 ?_
   exact AW.ret (rf (k1 (K_impl_Msg_pack _ m field) (show (putI m.term) = (fByte m field.toNat) from by simp only [fByte, h1, h2, if_true, if_false] <;> rfl) (KF.n [(0, 0), (1420, 1)])))
 refine AW.q 2 ?_
 refine AW.cE (field.toNat : Int) (97 : Int) (fun h3 => ?_) (fun h3 => ?_)
 · refine AW.r ?_
   refine At.a 4 ?_
   refine At.c (impl_PutNum_spec  m.at_ (by omega)) Try.call36 true [] [(1560, 0)] [] trivial ?_
   refine At.z 1 ?_
   exact AW.ret (rf (k1 (K_impl_Msg_pack _ m field) (show (putI m.at_) = (fByte m field.toNat) from by simp only [fByte, h1, h2, h3, if_true, if_false] <;> rfl) (KF.n [(0, 0), (1560, 1)])))
 refine AW.q 2 ?_
 refine AW.cE (field.toNat : Int) (120 : Int) (fun h4 => ?_) (fun h4 => ?_)
 · refine AW.r ?_
   refine At.a 4 ?_
   refine At.c (impl_PutNum_spec  m.atTerm (by omega)) Try.call36 true [] [(1700, 0)] [] trivial ?_
   refine At.z 1 ?_
   exact AW.ret (rf (k1 (K_impl_Msg_pack _ m field) (show (putI m.atTerm) = (fByte m field.toNat) from by simp only [fByte, h1, h2, h3, h4, if_true, if_false] <;> rfl) (KF.n [(0, 0), (1700, 1)])))
 refine AW.q 2 ?_
 refine AW.cE (field.toNat : Int) (99 : Int) (fun h5 => ?_) (fun h5 => ?_)
 · refine AW.r ?_
   refine At.a 4 ?_
   refine At.c (impl_PutNum_spec  m.commit (by omega)) Try.call36 true [] [(1840, 0)] [] trivial ?_
   refine At.z 1 ?_
   exact AW.ret (rf (k1 (K_impl_Msg_pack _ m field) (show (putI m.commit) = (fByte m field.toNat) from by simp only [fByte, h1, h2, h3, h4, h5, if_true, if_false] <;> rfl) (KF.n [(0, 0), (1840, 1)])))
 refine AW.q 2 ?_
 refine AW.cE (field.toNat : Int) (121 : Int) (fun h6 => ?_) (fun h6 => ?_)
 · refine AW.seq ?_
   refine AW.q 4 ?_
   refine AW.cB (m.yes) (fun h7 => ?_) (fun h7 => ?_)
   · refine AW.r ?_
     refine At.c (impl_PutNum_spec  1 (by omega)) Try.call36 true [] [(1980, 0)] [] trivial ?_
     refine At.z 1 ?_
     exact AW.ret (rf (k1 (K_impl_Msg_pack _ m field) (show (putI 1) = (fByte m field.toNat) from by simp only [fByte, h1, h2, h3, h4, h5, h6, h7, if_true, if_false] <;> rfl) (KF.n [(0, 0), (1980, 1)])))
   refine AW.skip ?_
   refine AW.r ?_
   refine At.c (impl_PutNum_spec  0 (by omega)) Try.call36 true [] [(2000, 0)] [] trivial ?_
   refine At.z 1 ?_
   exact AW.ret (rf (k1 (K_impl_Msg_pack _ m field) (show (putI 0) = (fByte m field.toNat) from by simp only [fByte, h1, h2, h3, h4, h5, h6, h7, if_true, if_false] <;> rfl) (KF.n [(0, 0), (2000, 1)])))
 refine AW.q 2 ?_
 refine AW.cE (field.toNat : Int) (114 : Int) (fun h8 => ?_) (fun h8 => ?_)
 · refine AW.r ?_
   refine At.a 4 ?_
   refine At.c (impl_PutNum_spec  m.release (by omega)) Try.call36 true [] [(2140, 0)] [] trivial ?_
   refine At.z 1 ?_
   exact AW.ret (rf (k1 (K_impl_Msg_pack _ m field) (show (putI m.release) = (fByte m field.toNat) from by simp only [fByte, h1, h2, h3, h4, h5, h6, h8, if_true, if_false] <;> rfl) (KF.n [(0, 0), (2140, 1)])))
 refine AW.q 2 ?_
 refine AW.cE (field.toNat : Int) (112 : Int) (fun h9 => ?_) (fun h9 => ?_)
 · refine AW.r ?_
   refine At.a 4 ?_
   refine At.c (impl_PutNum_spec  m.part (by omega)) Try.call36 true [] [(2280, 0)] [] trivial ?_
   refine At.z 1 ?_
   exact AW.ret (rf (k1 (K_impl_Msg_pack _ m field) (show (putI m.part) = (fByte m field.toNat) from by simp only [fByte, h1, h2, h3, h4, h5, h6, h8, h9, if_true, if_false] <;> rfl) (KF.n [(0, 0), (2280, 1)])))
 refine AW.q 2 ?_
 refine AW.cE (field.toNat : Int) (98 : Int) (fun h10 => ?_) (fun h10 => ?_)
 · refine AW.r ?_
   refine At.a 4 ?_
   refine At.c (impl_PutText_spec  m.bytes (by omega)) Try.call67 true [] [(2420, 0)] [] trivial ?_
   refine At.z 1 ?_
   exact AW.ret (rf (k1 (K_impl_Msg_pack _ m field) (show (putT m.bytes) = (fByte m field.toNat) from by simp only [fByte, h1, h2, h3, h4, h5, h6, h8, h9, h10, if_true, if_false] <;> rfl) (KF.n [(0, 0), (2420, 1)])))
 refine AW.q 2 ?_
 refine AW.cE (field.toNat : Int) (100 : Int) (fun h11 => ?_) (fun h11 => ?_)
 · refine AW.r ?_
   refine At.a 4 ?_
   refine At.c (impl_CmdPack_spec  m.cmd ) Try.call68 true [] [(2580, 0)] [] trivial ?_
   refine At.z 5 ?_
   refine AW.q 2 ?_
   exact AW.ret (rf (k1 (K_impl_Msg_pack _ m field) (show (cmdP m.cmd) = (fByte m field.toNat) from by simp only [fByte, h1, h2, h3, h4, h5, h6, h8, h9, h10, h11, if_true, if_false] <;> rfl) (KF.n [(0, 0), (2580, 1)])))
 refine AW.skip ?_
 refine AW.r ?_
 refine At.a 4 ?_
 refine At.c (impl_packEntries_spec  m.entries hk b9) Try.call69 true [] [(2740, 0)] [] trivial ?_
 refine At.z 1 ?_
 exact AW.ret (rf (k1 (K_impl_Msg_pack _ m field) (show (packE m.entries) = (fByte m field.toNat) from by simp only [fByte, h1, h2, h3, h4, h5, h6, h8, h9, h10, h11, if_true, if_false] <;> rfl) (KF.n [(0, 0), (2740, 1)])))
theorem impl_Sum_spec  (b : List UInt8) (hb : b.length ≤ 1048576) : FnSpec Try.prog 91 [.sl false 1 (b.map encU8)] [] (.int .i64 (sumB b)) [] := by
 refine FnSpec.of 27 Try.func91 rfl Try.ntmps91 (by simp) (AW.weakK ?_)
 refine AW.q 1 ?_
 refine AW.q 2 ?_
 refine AW.seq ?_
 refine AW.r ?_
 refine At.a 2 ?_
 refine At.sL 8 encU8 b ?_
 refine At.z 1 ?_
 refine AW.block ?_
 refine AW.loopW (fun (x : Nat × Int × Int) => match x with | (k, x, y) => Go.Sy.mk [.un, .un, .un, .int .i64 x, .int .i64 y, .un, .un, .sl false 1 (b.map encU8), .int .i64 (b.length : Int), .int .i64 (k : Int)] []) (fun (x : Nat × Int × Int) => match x with | (k, x, y) => k ≤ b.length ∧ (0 ≤ x ∧ x < 65521) ∧ (0 ≤ y ∧ y < 65521) ∧ sumGo b 1 0 = sumGo (b.drop k) x y) (fun (x : Nat × Int × Int) => match x with | (k, x, y) => b.length - k) (0, 1, 0) ⟨by omega, by omega, by omega, by rw [List.drop_zero]⟩ (Sub.o [] [false, false, false, true, true, false, false, true, true, true]) ?_
 rintro ⟨k, x, y⟩ ⟨hk, hx, hy, hR⟩
 refine AW.q 1 ?_
 refine AW.seq ?_
 refine AW.cD ((k : Int) < (b.length : Int)) (fun h1 => ?_) (fun h1 => ?_)
 · refine AW.skip ?_
   refine AW.seq ?_
   refine AW.block ?_
   refine AW.r ?_
   refine At.iSl 28 11 (.tmp 7) (.tmp 9) false 1 (b.map encU8) .i64 (k : Int) 5 (by omega) (by simp only [List.length_map]; omega) ?_
   refine Exists.elim (gE b k (by omega)) fun e1 he1 => ?_
   have hbe1 := UInt8.toNat_lt e1
   refine At.lVp 5 12 (.tmp 11) false 1 (b.map encU8) k 0 false 1 (encU8 e1) (.int .u8 (e1.toNat : Int)) (mapGet he1) ?_
   refine At.z 1 ?_
   refine AW.r ?_
   refine At.a 2 ?_
   refine At.conv (s := 5) (t := 3) (d := 15) (x := .tmp 14) (kd := .u8) (kd' := .i64) (a := (e1.toNat : Int)) (.int .i64 (e1.toNat : Int)) (by kernel_rfl) (by kernel_rfl) (by kernel_rfl) (by kernel_rfl) (sayI _ (by have := UInt8.toNat_lt e1; omega)) ?_
   refine At.a 1 ?_
   refine At.sI 16 (x + (e1.toNat : Int)) (by omega) ?_
   refine At.div (t := 3) (u := 3) (d := 17) (op := .rem) (x := .tmp 16) (y := .const (.int .i64 65521)) (kd := .i64) (a := x + (e1.toNat : Int)) (b := 65521) (by kernel_rfl) (by kernel_rfl) (by kernel_rfl) (by kernel_rfl) (by omega) (.int .i64 ((x + (e1.toNat : Int)).tmod 65521)) (.inr ⟨rfl, rfl⟩) ?_
   refine At.say 17 (.int .i64 ((x + (e1.toNat : Int)).tmod 65521)) (.int .i64 ((x + (e1.toNat : Int)) % 65521)) (by kernel_rfl) (sayRem (by omega)) ?_
   refine At.z 1 ?_
   refine AW.g ?_
   refine At.a 3 ?_
   refine At.sI 20 (y + ((x + (e1.toNat : Int)) % 65521)) (by omega) ?_
   refine At.div (t := 3) (u := 3) (d := 21) (op := .rem) (x := .tmp 20) (y := .const (.int .i64 65521)) (kd := .i64) (a := y + ((x + (e1.toNat : Int)) % 65521)) (b := 65521) (by kernel_rfl) (by kernel_rfl) (by kernel_rfl) (by kernel_rfl) (by omega) (.int .i64 ((y + ((x + (e1.toNat : Int)) % 65521)).tmod 65521)) (.inr ⟨rfl, rfl⟩) ?_
   refine At.say 21 (.int .i64 ((y + ((x + (e1.toNat : Int)) % 65521)).tmod 65521)) (.int .i64 ((y + ((x + (e1.toNat : Int)) % 65521)) % 65521)) (by kernel_rfl) (sayRem (by omega)) ?_
   refine At.z 1 ?_
   refine AW.g ?_
   refine At.a 1 ?_
   refine At.sI 22 ((k : Int) + 1) (by omega) ?_
   refine At.z 1 ?_
   exact ⟨(k + 1, ((x + (e1.toNat : Int)) % 65521), ((y + ((x + (e1.toNat : Int)) % 65521)) % 65521)), ⟨by omega, by omega, by omega, sum_step hR he1⟩, (by simp only; omega), Sub.o [] [false, false, false, true, true, false, false, true, true, true]⟩
 refine AW.exit ?_
 refine AW.r ?_
 refine At.a 2 ?_
 refine At.sI 24 (65536 * y) (by omega) ?_
 refine At.a 2 ?_
 refine At.sI 26 ((65536 * y) + x) (by omega) ?_
 refine At.z 1 ?_
 refine AW.ret ?_
 refine ⟨_, Sub.refl _ _, ?_⟩
 refine KF.conv (fun w => .int .i64 w) (fun w => []) (show ((65536 * y) + x) = (sumB b) from sum_end hR (by omega)) ?_
 exact KF.n []
theorem impl_sumBytes_spec  (b : List UInt8) (hb : b.length ≤ 1048576) : FnSpec Try.prog 70 [.sl false 1 (b.map encU8)] [] (.ref 0) [.arr 5 1 ((sum4 (sumB b)).map encU8)] := by
 refine FnSpec.of 22 Try.func70 rfl Try.ntmps70 (by simp) (AW.weakK ?_)
 refine AW.q 1 ?_
 refine AW.r ?_
 refine At.a 1 ?_
 refine At.c (impl_Sum_spec  b hb) Try.call91 true [] [] [] trivial ?_
 refine At.z 1 ?_
 refine AW.r ?_
 refine At.a 1 ?_
 refine At.bits (t := 3) (u := 3) (d := 7) (op := .and) (x := .tmp 6) (y := .const (.int .i64 255)) (kd := .i64) (a := sumB b) (b := 255) ((sumB b) % 256) (by kernel_rfl) (by kernel_rfl) (by kernel_rfl) (by kernel_rfl) (andM 8 256 _ _ (by decide) (by decide) (by decide)) ?_
 refine At.conv (s := 3) (t := 5) (d := 8) (x := .tmp 7) (kd := .i64) (kd' := .u8) (a := (sumB b) % 256) (.int .u8 ((u8Of ((sumB b) % 256)).toNat : Int)) (by kernel_rfl) (by kernel_rfl) (by kernel_rfl) (by kernel_rfl) (sayByte _) ?_
 refine At.a 1 ?_
 refine At.shift (t := 3) (u := 93) (d := 10) (op := .shr) (x := .tmp 9) (y := .const (.int .u64 8)) (kd := .i64) (kd' := .u64) (a := sumB b) (b := 8) (shV .shr .i64 (sumB b) 8) (by kernel_rfl) (by kernel_rfl) (by kernel_rfl) (by kernel_rfl) (by omega) (shS_shr _ _ _) ?_
 refine At.bits (t := 3) (u := 3) (d := 11) (op := .and) (x := .tmp 10) (y := .const (.int .i64 255)) (kd := .i64) (a := shV .shr .i64 (sumB b) 8) (b := 255) ((shV .shr .i64 (sumB b) 8) % 256) (by kernel_rfl) (by kernel_rfl) (by kernel_rfl) (by kernel_rfl) (andM 8 256 _ _ (by decide) (by decide) (by decide)) ?_
 refine At.conv (s := 3) (t := 5) (d := 12) (x := .tmp 11) (kd := .i64) (kd' := .u8) (a := (shV .shr .i64 (sumB b) 8) % 256) (.int .u8 ((u8Of ((shV .shr .i64 (sumB b) 8) % 256)).toNat : Int)) (by kernel_rfl) (by kernel_rfl) (by kernel_rfl) (by kernel_rfl) (sayByte _) ?_
 refine At.a 1 ?_
 refine At.shift (t := 3) (u := 93) (d := 14) (op := .shr) (x := .tmp 13) (y := .const (.int .u64 16)) (kd := .i64) (kd' := .u64) (a := sumB b) (b := 16) (shV .shr .i64 (sumB b) 16) (by kernel_rfl) (by kernel_rfl) (by kernel_rfl) (by kernel_rfl) (by omega) (shS_shr _ _ _) ?_
 refine At.bits (t := 3) (u := 3) (d := 15) (op := .and) (x := .tmp 14) (y := .const (.int .i64 255)) (kd := .i64) (a := shV .shr .i64 (sumB b) 16) (b := 255) ((shV .shr .i64 (sumB b) 16) % 256) (by kernel_rfl) (by kernel_rfl) (by kernel_rfl) (by kernel_rfl) (andM 8 256 _ _ (by decide) (by decide) (by decide)) ?_
 refine At.conv (s := 3) (t := 5) (d := 16) (x := .tmp 15) (kd := .i64) (kd' := .u8) (a := (shV .shr .i64 (sumB b) 16) % 256) (.int .u8 ((u8Of ((shV .shr .i64 (sumB b) 16) % 256)).toNat : Int)) (by kernel_rfl) (by kernel_rfl) (by kernel_rfl) (by kernel_rfl) (sayByte _) ?_
 refine At.a 1 ?_
 refine At.shift (t := 3) (u := 93) (d := 18) (op := .shr) (x := .tmp 17) (y := .const (.int .u64 24)) (kd := .i64) (kd' := .u64) (a := sumB b) (b := 24) (shV .shr .i64 (sumB b) 24) (by kernel_rfl) (by kernel_rfl) (by kernel_rfl) (by kernel_rfl) (by omega) (shS_shr _ _ _) ?_
 refine At.bits (t := 3) (u := 3) (d := 19) (op := .and) (x := .tmp 18) (y := .const (.int .i64 255)) (kd := .i64) (a := shV .shr .i64 (sumB b) 24) (b := 255) ((shV .shr .i64 (sumB b) 24) % 256) (by kernel_rfl) (by kernel_rfl) (by kernel_rfl) (by kernel_rfl) (andM 8 256 _ _ (by decide) (by decide) (by decide)) ?_
 refine At.conv (s := 3) (t := 5) (d := 20) (x := .tmp 19) (kd := .i64) (kd' := .u8) (a := (shV .shr .i64 (sumB b) 24) % 256) (.int .u8 ((u8Of ((shV .shr .i64 (sumB b) 24) % 256)).toNat : Int)) (by kernel_rfl) (by kernel_rfl) (by kernel_rfl) (by kernel_rfl) (sayByte _) ?_
 refine At.ll 21 5 1 121 (56, 6) (([(u8Of ((sumB b) % 256)), (u8Of ((shV .shr .i64 (sumB b) 8) % 256)), (u8Of ((shV .shr .i64 (sumB b) 16) % 256)), (u8Of ((shV .shr .i64 (sumB b) 24) % 256))]).map encU8) ?_
 refine At.z 1 ?_
 refine AW.ret ?_
 refine ⟨_, Sub.refl _ _, ?_⟩
 refine KF.conv (fun w => .ref 0) (fun w => [.arr 5 1 (w.map encU8)]) (show ([(u8Of ((sumB b) % 256)), (u8Of ((shV .shr .i64 (sumB b) 8) % 256)), (u8Of ((shV .shr .i64 (sumB b) 16) % 256)), (u8Of ((shV .shr .i64 (sumB b) 24) % 256))]) = (sum4 (sumB b)) from sum4_impl _) ?_
 exact KF.n [(121, 0)]
def K_impl_Seal (rs : List ResultVar) (b : List UInt8) (w0_ : List UInt8) (w1_ : Bool) : Exit → Sg → Prop := KF Try.prog 0 rs (.tup [.ref 0, .bool w1_]) [.arr 5 1 (w0_.map encU8)]
theorem impl_Seal_spec  (b : List UInt8) (hb : b.length ≤ 1048576) : FnSpec Try.prog 39 [.sl false 1 (b.map encU8)] [] (.tup [.ref 0, .bool (decide (¬ (b.length : Int) > 3000))]) [.arr 5 1 ((sealP b).map encU8)] := by
 have hpl := putI_len (x := (b.length : Int)) (by omega)
 have hsl : (sum4 (sumB b)).length = 4 := rfl
 refine FnSpec.of 15 Try.func39 rfl Try.ntmps39 (by simp) (AW.weakK ?_)
 refine AW.q 2 ?_
 refine AW.seq ?_
 refine AW.r ?_
 refine At.a 2 ?_
 refine At.sL 5 encU8 b ?_
 refine At.z 1 ?_
 refine AW.cD ((b.length : Int) > 3000) (fun h1 => ?_) (fun h1 => ?_)
 · refine AW.q 2 ?_
   refine AW.ret ?_
   refine ⟨_, Sub.nils [⟨false, 2, none, 5001, 5, 1⟩] (by kernel_rfl), ?_⟩
   exact k2 (K_impl_Seal _ b) (show ([]) = (sealP b) from by rw [sealP_no (by assumption)]) (show (false) = (decide (¬ (b.length : Int) > 3000)) from by rw [decide_eq_false (by omega)]) (KF.n [(5001, 0)])
 refine AW.skip ?_
 refine AW.r ?_
 refine At.a 2 ?_
 refine At.sL 8 encU8 b ?_
 refine At.c (impl_PutNum_spec  (b.length : Int) (by omega)) Try.call36 true [] [(1180, 0)] [] trivial ?_
 refine At.a 1 ?_
 refine At.append (t := 28) (d := 11) (e := 5) (es := 1) (bytes := 1) (s := .tmp 9) (x := .tmp 10) (S := .ref 1180) (T := .sl false 1 (b.map encU8)) (xs := ((putI (b.length : Int)).map encU8)) (ys := (b.map encU8)) 111 [1180] [] (((putI (b.length : Int)) ++ b).map encU8) (by kernel_rfl) (by kernel_rfl) (by kernel_rfl) (by kernel_rfl) ⟨by kernel_rfl, rfl⟩ ⟨rfl, rfl, (allP_encU8 _), rfl⟩ (by kernel_rfl) (by kernel_rfl) (by simp) (by simp only [List.length_map]; omega) (by simp only [List.length_map]; omega) ?_
 refine At.a 1 ?_
 refine At.c (impl_sumBytes_spec  b hb) Try.call70 true [] [(1260, 0)] [] trivial ?_
 refine At.apC 14 5 1 1 114 111 1260 encU8 ((putI (b.length : Int)) ++ b) (sum4 (sumB b)) (by simp only [List.length_map, List.length_append, List.length_take, List.length_drop, List.length_replicate, List.length_set, List.length_cons, List.length_nil]; omega) (allP_encU8 _) ?_
 refine At.z 2 ?_
 exact AW.ret (rf (k2 (K_impl_Seal _ b) (show (((putI (b.length : Int)) ++ b) ++ (sum4 (sumB b))) = (sealP b) from by rw [sealP_yes (by assumption)]) (show (true) = (decide (¬ (b.length : Int) > 3000)) from by rw [decide_eq_true (by assumption)]) (KF.n [(114, 0)])))
def K_impl_MsgPack (rs : List ResultVar) (m : Msg) (w0_ : List UInt8) (w1_ : Bool) : Exit → Sg → Prop := KF Try.prog 0 rs (.tup [.ref 0, .bool w1_]) [.arr 5 1 (w0_.map encU8)]
theorem impl_MsgPack_spec  (m : Msg) (hl : m.entries.length ≤ 1048576) : FnSpec Try.prog 9 [(msgA m)] [] (.tup [.ref 0, .bool (msgPok m)]) [.arr 5 1 ((msgP m).map encU8)] := by
 have hfs := fieldsL_six m.kind
 refine FnSpec.of 32 Try.func9 rfl Try.ntmps9 (by simp) (AW.weakK ?_)
 refine AW.q 3 ?_
 refine AW.seq ?_
 refine AW.r ?_
 refine At.a 1 ?_
 refine At.c (impl_MsgFits_spec  m hl) Try.call35 true [] [] [] trivial ?_
 refine At.z 1 ?_
 refine AW.cNB (msgFits m) (fun h1 => ?_) (fun h1 => ?_)
 · refine AW.q 2 ?_
   refine AW.ret ?_
   refine ⟨_, Sub.nils [⟨false, 2, none, 5001, 5, 1⟩] (by kernel_rfl), ?_⟩
   exact k2 (K_impl_MsgPack _ m) (show ([]) = (msgP m) from by rw [msgP_no (by assumption)]) (show (false) = (msgPok m) from by rw [msgPok_no (by assumption)]) (KF.n [(5001, 0)])
 have hmp := msgFits_packs h1
 have hm6 := (msgFits_nums h1).2.2.2.2
 have hkl := putI_len (x := m.kind) (by have := msgFits_kind h1; omega)
 have hkk := msgFits_kind h1
 refine AW.skip ?_
 refine AW.r ?_
 refine At.a 2 ?_
 refine At.c (impl_PutNum_spec  m.kind (by omega)) Try.call36 true [] [(1240, 0)] [] trivial ?_
 refine At.z 1 ?_
 refine AW.r ?_
 refine At.a 2 ?_
 refine At.c (impl_fieldsOf_spec  m.kind ) Try.call37 true [] [] [] trivial ?_
 refine At.z 1 ?_
 refine AW.seq ?_
 refine AW.q 3 ?_
 refine AW.block ?_
 refine AW.loopW (fun (x : Nat × List UInt8) => match x with | (k, o) => Go.Sy.mk [.un, .ptr 101 0 0, .un, .un, .ref 1240, .str (fieldsL m.kind), .un, .un, .un, .un, .un, .un, .un, .un, .un, .un, .un, .int .i64 ((fieldsL m.kind).size : Int), .int .i64 (k : Int)] [(101, .box 34 [.int .i64 m.kind, .int .i64 m.from_, .int .i64 m.term, .int .i64 m.at_, .int .i64 m.atTerm, .int .i64 m.commit, .bool m.yes, .int .i64 m.release, .int .i64 m.part, .str m.bytes, .int .i64 m.cmd.kind, .int .i64 m.cmd.release, .int .i64 m.cmd.node, .int .i64 m.cmd.size, .str m.cmd.digest, .sl false 6 (m.entries.map encEnt)]), (1240, .arr 5 1 (o.map encU8))]) (fun (x : Nat × List UInt8) => match x with | (k, o) => k ≤ (fieldsL m.kind).size ∧ o.length ≤ 4000 * k + 9 ∧ msgB m = o ++ fAll m ((fieldsL m.kind).data.toList.drop k)) (fun (x : Nat × List UInt8) => match x with | (k, o) => (fieldsL m.kind).size - k) (0, putI m.kind) ⟨by omega, by omega, by rw [List.drop_zero]; exact rfl⟩ (Sub.o [(101, 101), (1240, 1240)] [false, true, false, false, true, true, false, false, false, false, false, false, false, false, false, false, false, true, true]) ?_
 rintro ⟨k, o⟩ ⟨hk, ho, hR⟩
 refine AW.q 1 ?_
 refine AW.seq ?_
 refine AW.cD ((k : Int) < ((fieldsL m.kind).size : Int)) (fun h2 => ?_) (fun h2 => ?_)
 · refine AW.skip ?_
   refine AW.seq ?_
   refine AW.block ?_
   refine AW.q 2 ?_
   refine AW.g ?_
   refine At.a 3 ?_
   refine Exists.elim (show ∃ e, (fieldsL m.kind).data[k]? = some e from ⟨_, Array.getElem?_eq_getElem (by show _ < (fieldsL m.kind).size; omega)⟩) fun e1 he1 => ?_
   have hl1 : (fieldsL m.kind).data.toList[k]? = some e1 := by simpa using he1
   have hfl := fByte_len hm6 hmp (e1.toNat : Int)
   refine At.idxStr (t := 9) (d := 24) (x := .tmp 22) (y := .tmp 23) (s := fieldsL m.kind) (kd := .i64) (i := (k : Int)) e1 (by kernel_rfl) (by kernel_rfl) (by kernel_rfl) (by kernel_rfl) (by omega) he1 ?_
   refine At.c (impl_Msg_pack_spec  m e1 hm6 hmp) Try.call38 true [(101, 0)] [(1500, 1)] [] trivial ?_
   refine At.apC 26 5 1 1 126 1240 1500 encU8 o (fByte m e1.toNat) (by omega) (allP_encU8 _) ?_
   refine At.z 1 ?_
   refine AW.g ?_
   refine At.a 1 ?_
   refine At.sI 27 ((k : Int) + 1) (by omega) ?_
   refine At.z 1 ?_
   exact ⟨(k + 1, (o ++ (fByte m e1.toNat))), ⟨by omega, by simp only [List.length_append, List.length_cons, List.length_nil]; omega, by rw [hR, dropCons hl1, fAll]; simp only [List.append_assoc]⟩, (by simp only; omega), Sub.o [(101, 101), (126, 1240)] [false, true, false, false, true, true, false, false, false, false, false, false, false, false, false, false, false, true, true]⟩
 refine AW.exit ?_
 refine AW.r ?_
 refine At.a 1 ?_
 refine At.c (impl_Seal_spec  o (by omega)) Try.call39 false [] [(1580, 0)] [(1240, 1, (o.map encU8))] ⟨rfl, ⟨5, (o.map encU8), by kernel_rfl, FrzIs.same (allP_encU8 _)⟩, trivial⟩ ?_
 refine At.z 4 ?_
 exact AW.ret (rf (k2 (K_impl_MsgPack _ m) (show (sealP o) = (msgP m) from by rw [msgP_yes (by assumption), hR, List.drop_of_length_le (by rw [Array.length_toList]; show (fieldsL m.kind).size ≤ _; omega)]; simp [fAll]) (show (decide (¬ (o.length : Int) > 3000)) = (msgPok m) from by rw [msgPok_yes (by assumption), hR, List.drop_of_length_le (by rw [Array.length_toList]; show (fieldsL m.kind).size ≤ _; omega)]; simp [fAll]) (KF.n [(1580, 0)])))
theorem spec_l8In_spec  (s : ByteArray) (b : UInt8) (hs : s.size ≤ 1048576) : FnSpec Try.prog 53 [.str s, .int .u8 (b.toNat : Int)] [] (.bool (hasU (b.toNat : Int) s.data.toList)) [] := by
 refine FnSpec.of 17 Try.func53 rfl Try.ntmps53 (by simp) (AW.weakK ?_)
 refine AW.q 1 ?_
 refine AW.seq ?_
 refine AW.q 1 ?_
 refine AW.block ?_
 refine AW.loopW (fun (k : Nat) => Go.Sy.mk [.str s, .int .u8 (b.toNat : Int), .un, .un, .un, .int .i64 (k : Int)] []) (fun (k : Nat) => k ≤ s.size ∧ hasU (b.toNat : Int) s.data.toList = hasU (b.toNat : Int) (s.data.toList.drop k)) (fun (k : Nat) => s.size - k) 0 ⟨by omega, by rw [List.drop_zero]⟩ (Sub.o [] [true, true, false, false, false, true]) ?_
 rintro k ⟨hk, hR⟩
 refine AW.seq ?_
 refine AW.q 4 ?_
 refine AW.cD ((k : Int) < (s.size : Int)) (fun h1 => ?_) (fun h1 => ?_)
 · refine AW.skip ?_
   refine AW.seq ?_
   refine AW.block ?_
   refine AW.r ?_
   refine At.a 2 ?_
   refine Exists.elim (show ∃ e, s.data[k]? = some e from ⟨_, Array.getElem?_eq_getElem (by show _ < s.size; omega)⟩) fun e1 he1 => ?_
   have hl1 : s.data.toList[k]? = some e1 := by simpa using he1
   refine At.idxStr (t := 9) (d := 14) (x := .tmp 12) (y := .tmp 13) (s := s) (kd := .i64) (i := (k : Int)) e1 (by kernel_rfl) (by kernel_rfl) (by kernel_rfl) (by kernel_rfl) (by omega) he1 ?_
   refine At.z 2 ?_
   refine AW.cE (e1.toNat : Int) (b.toNat : Int) (fun h2 => ?_) (fun h2 => ?_)
   · refine AW.q 1 ?_
     refine AW.ret ?_
     refine ⟨_, Sub.refl _ _, ?_⟩
     refine KF.conv (fun w => .bool w) (fun w => []) (show (true) = (hasU (b.toNat : Int) s.data.toList) from by rw [hR, dropCons hl1]; simp [hasU, h1, h2]) ?_
     exact KF.n []
   refine AW.skip ?_
   refine AW.g ?_
   refine At.a 2 ?_
   refine At.sI 11 ((k : Int) + 1) (by omega) ?_
   refine At.z 1 ?_
   exact ⟨k + 1, ⟨by omega, by rw [hR, dropCons hl1]; simp [hasU, h1, h2]⟩, (by omega), Sub.o [] [true, true, false, false, false, true]⟩
 refine AW.exit ?_
 refine AW.q 1 ?_
 refine AW.ret ?_
 refine ⟨_, Sub.refl _ _, ?_⟩
 refine KF.conv (fun w => .bool w) (fun w => []) (show (false) = (hasU (b.toNat : Int) s.data.toList) from by rw [hR, List.drop_of_length_le (by rw [Array.length_toList]; show s.size ≤ _; omega)]; rfl) ?_
 exact KF.n []
theorem spec_l8Num_spec  (has : Bool) (x : Int) (lo : Int) (hi : Int) : FnSpec Try.prog 52 [.bool has, .int .i64 x, .int .i64 lo, .int .i64 hi] [] (.bool (num8 has x lo hi)) [] := by
 refine FnSpec.of 24 Try.func52 rfl Try.ntmps52 (by simp) (AW.weakK ?_)
 refine AW.q 1 ?_
 refine AW.r ?_
 refine At.a 2 ?_
 by_cases h1 : has = true
 · refine At.sB 10 has true (sayB h1) ?_
   refine At.a 3 ?_
   refine At.c (spec_l1In_spec  x lo hi ) Try.call63 true [] [] [] trivial ?_
   refine At.a 2 ?_
   by_cases h2 : (inR x lo hi) = true
   · refine At.sB 16 (inR x lo hi) true (sayB h2) ?_
     have h2i := inR_iff.1 h2
     refine At.z 8 ?_
     refine AW.ret ?_
     refine ⟨_, Sub.refl _ _, ?_⟩
     refine KF.conv (fun w => .bool w) (fun w => []) (show (true) = (num8 has x lo hi) from by grind [num8]) ?_
     exact KF.n []
   refine At.sB 16 (inR x lo hi) false (sayB (Bool.eq_false_iff.2 h2)) ?_
   replace h2 := Bool.eq_false_iff.2 h2
   refine At.a 3 ?_
   refine At.sB 19 (!has) false (sayNF (sayB h1)) ?_
   refine At.z 5 ?_
   refine AW.ret ?_
   refine ⟨_, Sub.refl _ _, ?_⟩
   refine KF.conv (fun w => .bool w) (fun w => []) (show (false) = (num8 has x lo hi) from by grind [num8]) ?_
   exact KF.n []
 refine At.sB 10 has false (sayB (Bool.eq_false_iff.2 h1)) ?_
 replace h1 := Bool.eq_false_iff.2 h1
 refine At.a 9 ?_
 refine At.sB 19 (!has) true (sayNT (sayB h1)) ?_
 refine At.z 5 ?_
 refine AW.ret ?_
 refine ⟨_, Sub.refl _ _, ?_⟩
 refine KF.conv (fun w => .bool w) (fun w => []) (show (x == 0) = (num8 has x lo hi) from by grind [num8]) ?_
 exact KF.n []
def K_spec_CmdOk (rs : List ResultVar) (c : Cmd) (w0_ : Bool) : Exit → Sg → Prop := KF Try.prog 0 rs (.bool w0_) []
theorem spec_CmdOk_spec  (c : Cmd) : FnSpec Try.prog 54 [.agg [.int .i64 c.kind, .int .i64 c.release, .int .i64 c.node, .int .i64 c.size, .str c.digest]] [] (.bool (cmdOk c)) [] := by
 refine FnSpec.of 60 Try.func54 rfl Try.ntmps54 (by simp) (AW.weakK ?_)
 refine AW.q 2 ?_
 refine AW.q 5 ?_
 refine AW.seq ?_
 refine AW.q 3 ?_
 refine AW.cE c.kind (1 : Int) (fun h1 => ?_) (fun h1 => ?_)
 · refine AW.r ?_
   refine At.a 2 ?_
   refine At.eqA (t := 31) (u := 31) (d := 12) (op := .eql) (x := .tmp 10) (y := .tmp 11) (X := [.int .i64 c.kind, .int .i64 c.release, .int .i64 c.node, .int .i64 c.size, .str c.digest]) (Y := [.int .i64 c.kind, .int .i64 0, .int .i64 0, .int .i64 0, .str (⟨#[]⟩ : ByteArray)]) (cmdEq c (⟨c.kind, 0, 0, 0, (⟨#[]⟩ : ByteArray)⟩ : Cmd)) (by kernel_rfl) (by kernel_rfl) (by kernel_rfl) (by kernel_rfl) (by kernel_rfl) (.bool (cmdEq c (⟨c.kind, 0, 0, 0, (⟨#[]⟩ : ByteArray)⟩ : Cmd))) (.inl ⟨rfl, rfl⟩) ?_
   refine At.z 1 ?_
   exact AW.ret (rf (k1 (K_spec_CmdOk _ c) (show (cmdEq c (⟨c.kind, 0, 0, 0, (⟨#[]⟩ : ByteArray)⟩ : Cmd)) = (cmdOk c) from by (try simp only [inR_iff, inR_not] at *); rw [Bool.eq_iff_iff]; simp only [cmdOk, cmdEq, noBytes]; (repeat' split) <;> (try simp [inR_iff]) <;> grind) (KF.n [])))
 refine AW.skip ?_
 refine AW.seq ?_
 refine AW.r ?_
 refine At.a 2 ?_
 refine At.c (spec_l1In_spec  c.kind 2 5 ) Try.call63 true [] [] [] trivial ?_
 refine At.a 2 ?_
 by_cases h2 : (inR c.kind 2 5) = true
 · refine At.sB 17 (!(inR c.kind 2 5)) false (sayNF (sayB h2)) ?_
   refine At.a 2 ?_
   refine At.c (spec_l1In_spec  c.release 1 1000 ) Try.call63 true [] [] [] trivial ?_
   refine At.z 2 ?_
   refine AW.cNB (inR c.release 1 1000) (fun h3 => ?_) (fun h3 => ?_)
   · refine AW.q 1 ?_
     exact AW.ret (rf (k1 (K_spec_CmdOk _ c) (show (false) = (cmdOk c) from by (try simp only [inR_iff, inR_not] at *); rw [Bool.eq_iff_iff]; simp only [cmdOk, cmdEq, noBytes]; (repeat' split) <;> (try simp [inR_iff]) <;> grind) (KF.n [])))
   refine AW.skip ?_
   refine AW.q 4 ?_
   refine AW.seq ?_
   refine AW.q 2 ?_
   refine AW.block ?_
   refine AW.q 2 ?_
   refine AW.cE c.kind (2 : Int) (fun h4 => ?_) (fun h4 => ?_)
   · refine AW.r ?_
     refine At.a 2 ?_
     refine At.c (spec_l1In_spec  c.size 0 1000 ) Try.call63 true [] [] [] trivial ?_
     refine At.a 1 ?_
     by_cases h5 : (inR c.size 0 1000) = true
     · refine At.sB 33 (inR c.size 0 1000) true (sayB h5) ?_
       refine At.a 6 ?_
       by_cases h6 : (c.digest.size : Int) = 32
       · refine At.sB 39 _ _ (sayET h6) ?_
         refine At.z 5 ?_
         exact AW.ret (rf (k1 (K_spec_CmdOk _ c) (show (c.node == 0) = (cmdOk c) from by (try simp only [inR_iff, inR_not] at *); rw [Bool.eq_iff_iff]; simp only [cmdOk, cmdEq, noBytes]; (repeat' split) <;> (try simp [inR_iff]) <;> grind) (KF.n [])))
       refine At.sB 39 _ _ (sayEF h6) ?_
       refine At.z 5 ?_
       exact AW.ret (rf (k1 (K_spec_CmdOk _ c) (show (false) = (cmdOk c) from by (try simp only [inR_iff, inR_not] at *); rw [Bool.eq_iff_iff]; simp only [cmdOk, cmdEq, noBytes]; (repeat' split) <;> (try simp [inR_iff]) <;> grind) (KF.n [])))
     refine At.sB 33 (inR c.size 0 1000) false (sayB (Bool.eq_false_iff.2 h5)) ?_
     replace h5 := Bool.eq_false_iff.2 h5
     refine At.z 11 ?_
     exact AW.ret (rf (k1 (K_spec_CmdOk _ c) (show (false) = (cmdOk c) from by (try simp only [inR_iff, inR_not] at *); rw [Bool.eq_iff_iff]; simp only [cmdOk, cmdEq, noBytes]; (repeat' split) <;> (try simp [inR_iff]) <;> grind) (KF.n [])))
   refine AW.q 2 ?_
   refine AW.cE c.kind (3 : Int) (fun h7 => ?_) (fun h7 => ?_)
   · refine AW.q 4 ?_
     refine AW.r ?_
     refine At.a 2 ?_
     refine At.c (spec_l1In_spec  c.node 0 4 ) Try.call63 true [] [] [] trivial ?_
     refine At.a 1 ?_
     by_cases h8 : (inR c.node 0 4) = true
     · refine At.sB 52 (inR c.node 0 4) true (sayB h8) ?_
       refine At.a 2 ?_
       refine At.eqA (t := 31) (u := 31) (d := 55) (op := .eql) (x := .tmp 53) (y := .tmp 54) (X := [.int .i64 c.kind, .int .i64 c.release, .int .i64 c.node, .int .i64 c.size, .str c.digest]) (Y := [.int .i64 c.kind, .int .i64 c.release, .int .i64 c.node, .int .i64 0, .str (⟨#[]⟩ : ByteArray)]) (cmdEq c (⟨c.kind, c.release, c.node, 0, (⟨#[]⟩ : ByteArray)⟩ : Cmd)) (by kernel_rfl) (by kernel_rfl) (by kernel_rfl) (by kernel_rfl) (by kernel_rfl) (.bool (cmdEq c (⟨c.kind, c.release, c.node, 0, (⟨#[]⟩ : ByteArray)⟩ : Cmd))) (.inl ⟨rfl, rfl⟩) ?_
       refine At.z 2 ?_
       exact AW.ret (rf (k1 (K_spec_CmdOk _ c) (show (cmdEq c (⟨c.kind, c.release, c.node, 0, (⟨#[]⟩ : ByteArray)⟩ : Cmd)) = (cmdOk c) from by (try simp only [inR_iff, inR_not] at *); rw [Bool.eq_iff_iff]; simp only [cmdOk, cmdEq, noBytes]; (repeat' split) <;> (try simp [inR_iff]) <;> grind) (KF.n [])))
     refine At.sB 52 (inR c.node 0 4) false (sayB (Bool.eq_false_iff.2 h8)) ?_
     replace h8 := Bool.eq_false_iff.2 h8
     refine At.z 5 ?_
     exact AW.ret (rf (k1 (K_spec_CmdOk _ c) (show (false) = (cmdOk c) from by (try simp only [inR_iff, inR_not] at *); rw [Bool.eq_iff_iff]; simp only [cmdOk, cmdEq, noBytes]; (repeat' split) <;> (try simp [inR_iff]) <;> grind) (KF.n [])))
   refine AW.skip ?_
   refine AW.r ?_
   refine At.a 2 ?_
   refine At.eqA (t := 31) (u := 31) (d := 59) (op := .eql) (x := .tmp 57) (y := .tmp 58) (X := [.int .i64 c.kind, .int .i64 c.release, .int .i64 c.node, .int .i64 c.size, .str c.digest]) (Y := [.int .i64 c.kind, .int .i64 c.release, .int .i64 0, .int .i64 0, .str (⟨#[]⟩ : ByteArray)]) (cmdEq c (⟨c.kind, c.release, 0, 0, (⟨#[]⟩ : ByteArray)⟩ : Cmd)) (by kernel_rfl) (by kernel_rfl) (by kernel_rfl) (by kernel_rfl) (by kernel_rfl) (.bool (cmdEq c (⟨c.kind, c.release, 0, 0, (⟨#[]⟩ : ByteArray)⟩ : Cmd))) (.inl ⟨rfl, rfl⟩) ?_
   refine At.z 1 ?_
   exact AW.ret (rf (k1 (K_spec_CmdOk _ c) (show (cmdEq c (⟨c.kind, c.release, 0, 0, (⟨#[]⟩ : ByteArray)⟩ : Cmd)) = (cmdOk c) from by (try simp only [inR_iff, inR_not] at *); rw [Bool.eq_iff_iff]; simp only [cmdOk, cmdEq, noBytes]; (repeat' split) <;> (try simp [inR_iff]) <;> grind) (KF.n [])))
 refine At.sB 17 (!(inR c.kind 2 5)) true (sayNT (sayB (Bool.eq_false_iff.2 h2))) ?_
 replace h2 := Bool.eq_false_iff.2 h2
 refine At.z 5 ?_
 refine AW.cond true (by kernel_rfl) (fun _ => ?_) (fun h => by cases h)
 refine AW.q 1 ?_
 exact AW.ret (rf (k1 (K_spec_CmdOk _ c) (show (false) = (cmdOk c) from by (try simp only [inR_iff, inR_not] at *); rw [Bool.eq_iff_iff]; simp only [cmdOk, cmdEq, noBytes]; (repeat' split) <;> (try simp [inR_iff]) <;> grind) (KF.n [])))
theorem spec_l6Entry_spec  (e : Ent) : FnSpec Try.prog 55 [.agg [.int .i64 e.term, .int .i64 e.cmd.kind, .int .i64 e.cmd.release, .int .i64 e.cmd.node, .int .i64 e.cmd.size, .str e.cmd.digest]] [] (.bool (entOk e)) [] := by
 refine FnSpec.of 11 Try.func55 rfl Try.ntmps55 (by simp) (AW.weakK ?_)
 refine AW.q 2 ?_
 refine AW.r ?_
 refine At.a 2 ?_
 refine At.c (spec_l1In_spec  e.term 1 1000000000 ) Try.call63 true [] [] [] trivial ?_
 refine At.a 1 ?_
 by_cases h1 : (inR e.term 1 1000000000) = true
 · refine At.sB 6 (inR e.term 1 1000000000) true (sayB h1) ?_
   have h1i := inR_iff.1 h1
   refine At.a 2 ?_
   refine At.c (spec_CmdOk_spec  e.cmd ) Try.call54 true [] [] [] trivial ?_
   refine At.z 2 ?_
   refine AW.ret ?_
   refine ⟨_, Sub.refl _ _, ?_⟩
   refine KF.conv (fun w => .bool w) (fun w => []) (show (cmdOk e.cmd) = (entOk e) from by (try simp only [inR_iff, inR_not] at *); rw [Bool.eq_iff_iff]; simp only [entOk, noBytes]; (repeat' split) <;> (try simp [inR_iff]) <;> grind) ?_
   exact KF.n []
 refine At.sB 6 (inR e.term 1 1000000000) false (sayB (Bool.eq_false_iff.2 h1)) ?_
 replace h1 := Bool.eq_false_iff.2 h1
 refine At.z 5 ?_
 refine AW.ret ?_
 refine ⟨_, Sub.refl _ _, ?_⟩
 refine KF.conv (fun w => .bool w) (fun w => []) (show (false) = (entOk e) from by (try simp only [inR_iff, inR_not] at *); rw [Bool.eq_iff_iff]; simp only [entOk, noBytes]; (repeat' split) <;> (try simp [inR_iff]) <;> grind) ?_
 exact KF.n []
theorem spec_MsgFits_spec  (m : Msg) (hl : m.entries.length ≤ 1048576) : FnSpec Try.prog 21 [(msgA m)] [] (.bool (msgFits m)) [] := by
 refine FnSpec.of 132 Try.func21 rfl Try.ntmps21 (by simp) (AW.weakK ?_)
 refine AW.q 2 ?_
 refine AW.r ?_
 refine At.a 2 ?_
 refine At.c (spec_l8Has_spec  m.kind ) Try.call28 true [] [] [] trivial ?_
 refine At.z 1 ?_
 refine AW.seq ?_
 refine AW.seq ?_
 refine AW.cut [(101, 101)] [false, true, false, true] 50 (!(fits1 m)) ?_ ?_
 · refine AW.gD Try_mix ?_
   refine At.a 3 ?_
   by_cases h1 : (l8F m.kind).toList = (⟨#[]⟩ : ByteArray).toList
   · refine At.sB 11 _ _ (sayET h1) ?_
     refine At.a 39 ?_
     refine At.sB 50 true (!(fits1 m)) (congrArg V.bool (by simp only [noBytes] at *; grind [fits1, hasF])) ?_
     refine At.done rfl ⟨by kernel_rfl, rfl, ?_⟩
     exact Sub.cut [(101, 101)] [false, true, false, true] 50 _ (by kernel_rfl) (by kernel_rfl) (by kernel_rfl) (by kernel_rfl)
   refine At.sB 11 _ _ (sayEF h1) ?_
   refine At.a 1 ?_
   refine At.c (spec_l8In_spec  (l8F m.kind) (102 : UInt8) (l8F_small _)) Try.call53 true [] [] [] trivial ?_
   refine At.a 2 ?_
   refine At.c (spec_l8Num_spec  (hasU ((102 : UInt8).toNat : Int) (l8F m.kind).data.toList) m.from_ 0 4 ) Try.call52 true [] [] [] trivial ?_
   refine At.a 3 ?_
   by_cases h2 : (num8 (hasU ((102 : UInt8).toNat : Int) (l8F m.kind).data.toList) m.from_ 0 4) = true
   · refine At.sB 19 (!(num8 (hasU ((102 : UInt8).toNat : Int) (l8F m.kind).data.toList) m.from_ 0 4)) false (sayNF (sayB h2)) ?_
     refine At.a 1 ?_
     refine At.c (spec_l8In_spec  (l8F m.kind) (116 : UInt8) (l8F_small _)) Try.call53 true [] [] [] trivial ?_
     refine At.a 2 ?_
     refine At.c (spec_l8Num_spec  (hasU ((116 : UInt8).toNat : Int) (l8F m.kind).data.toList) m.term 0 1000000000 ) Try.call52 true [] [] [] trivial ?_
     refine At.a 3 ?_
     by_cases h3 : (num8 (hasU ((116 : UInt8).toNat : Int) (l8F m.kind).data.toList) m.term 0 1000000000) = true
     · refine At.sB 27 (!(num8 (hasU ((116 : UInt8).toNat : Int) (l8F m.kind).data.toList) m.term 0 1000000000)) false (sayNF (sayB h3)) ?_
       refine At.a 1 ?_
       refine At.c (spec_l8In_spec  (l8F m.kind) (97 : UInt8) (l8F_small _)) Try.call53 true [] [] [] trivial ?_
       refine At.a 2 ?_
       refine At.c (spec_l8Num_spec  (hasU ((97 : UInt8).toNat : Int) (l8F m.kind).data.toList) m.at_ 0 80 ) Try.call52 true [] [] [] trivial ?_
       refine At.a 3 ?_
       by_cases h4 : (num8 (hasU ((97 : UInt8).toNat : Int) (l8F m.kind).data.toList) m.at_ 0 80) = true
       · refine At.sB 35 (!(num8 (hasU ((97 : UInt8).toNat : Int) (l8F m.kind).data.toList) m.at_ 0 80)) false (sayNF (sayB h4)) ?_
         refine At.a 1 ?_
         refine At.c (spec_l8In_spec  (l8F m.kind) (115 : UInt8) (l8F_small _)) Try.call53 true [] [] [] trivial ?_
         refine At.a 2 ?_
         refine At.c (spec_l8Num_spec  (hasU ((115 : UInt8).toNat : Int) (l8F m.kind).data.toList) m.atTerm 0 1000000000 ) Try.call52 true [] [] [] trivial ?_
         refine At.a 3 ?_
         by_cases h5 : (num8 (hasU ((115 : UInt8).toNat : Int) (l8F m.kind).data.toList) m.atTerm 0 1000000000) = true
         · refine At.sB 43 (!(num8 (hasU ((115 : UInt8).toNat : Int) (l8F m.kind).data.toList) m.atTerm 0 1000000000)) false (sayNF (sayB h5)) ?_
           refine At.a 1 ?_
           refine At.c (spec_l8In_spec  (l8F m.kind) (99 : UInt8) (l8F_small _)) Try.call53 true [] [] [] trivial ?_
           refine At.a 2 ?_
           refine At.c (spec_l8Num_spec  (hasU ((99 : UInt8).toNat : Int) (l8F m.kind).data.toList) m.commit 0 80 ) Try.call52 true [] [] [] trivial ?_
           refine At.a 2 ?_
           refine At.sB 50 (!(num8 (hasU ((99 : UInt8).toNat : Int) (l8F m.kind).data.toList) m.commit 0 80)) (!(fits1 m)) (congrArg V.bool (by simp only [noBytes] at *; grind [fits1, hasF])) ?_
           refine At.done rfl ⟨by kernel_rfl, rfl, ?_⟩
           exact Sub.cut [(101, 101)] [false, true, false, true] 50 _ (by kernel_rfl) (by kernel_rfl) (by kernel_rfl) (by kernel_rfl)
         refine At.sB 43 (!(num8 (hasU ((115 : UInt8).toNat : Int) (l8F m.kind).data.toList) m.atTerm 0 1000000000)) true (sayNT (sayB (Bool.eq_false_iff.2 h5))) ?_
         replace h5 := Bool.eq_false_iff.2 h5
         refine At.a 7 ?_
         refine At.sB 50 true (!(fits1 m)) (congrArg V.bool (by simp only [noBytes] at *; grind [fits1, hasF])) ?_
         refine At.done rfl ⟨by kernel_rfl, rfl, ?_⟩
         exact Sub.cut [(101, 101)] [false, true, false, true] 50 _ (by kernel_rfl) (by kernel_rfl) (by kernel_rfl) (by kernel_rfl)
       refine At.sB 35 (!(num8 (hasU ((97 : UInt8).toNat : Int) (l8F m.kind).data.toList) m.at_ 0 80)) true (sayNT (sayB (Bool.eq_false_iff.2 h4))) ?_
       replace h4 := Bool.eq_false_iff.2 h4
       refine At.a 15 ?_
       refine At.sB 50 true (!(fits1 m)) (congrArg V.bool (by simp only [noBytes] at *; grind [fits1, hasF])) ?_
       refine At.done rfl ⟨by kernel_rfl, rfl, ?_⟩
       exact Sub.cut [(101, 101)] [false, true, false, true] 50 _ (by kernel_rfl) (by kernel_rfl) (by kernel_rfl) (by kernel_rfl)
     refine At.sB 27 (!(num8 (hasU ((116 : UInt8).toNat : Int) (l8F m.kind).data.toList) m.term 0 1000000000)) true (sayNT (sayB (Bool.eq_false_iff.2 h3))) ?_
     replace h3 := Bool.eq_false_iff.2 h3
     refine At.a 23 ?_
     refine At.sB 50 true (!(fits1 m)) (congrArg V.bool (by simp only [noBytes] at *; grind [fits1, hasF])) ?_
     refine At.done rfl ⟨by kernel_rfl, rfl, ?_⟩
     exact Sub.cut [(101, 101)] [false, true, false, true] 50 _ (by kernel_rfl) (by kernel_rfl) (by kernel_rfl) (by kernel_rfl)
   refine At.sB 19 (!(num8 (hasU ((102 : UInt8).toNat : Int) (l8F m.kind).data.toList) m.from_ 0 4)) true (sayNT (sayB (Bool.eq_false_iff.2 h2))) ?_
   replace h2 := Bool.eq_false_iff.2 h2
   refine At.a 31 ?_
   refine At.sB 50 true (!(fits1 m)) (congrArg V.bool (by simp only [noBytes] at *; grind [fits1, hasF])) ?_
   refine At.done rfl ⟨by kernel_rfl, rfl, ?_⟩
   exact Sub.cut [(101, 101)] [false, true, false, true] 50 _ (by kernel_rfl) (by kernel_rfl) (by kernel_rfl) (by kernel_rfl)
 refine AW.cNB (fits1 m) (fun h6 => ?_) (fun h6 => ?_)
 · refine AW.q 1 ?_
   refine AW.ret ?_
   refine ⟨_, Sub.refl _ _, ?_⟩
   refine KF.conv (fun w => .bool w) (fun w => []) (show (false) = (msgFits m) from by grind [msgFits]) ?_
   exact KF.n []
 refine AW.skip ?_
 refine AW.seq ?_
 refine AW.seq ?_
 refine AW.cut [(101, 101)] [false, true, false, true] 97 (!(fits2 m)) ?_ ?_
 · refine AW.gD Try_mix ?_
   refine At.a 1 ?_
   refine At.c (spec_l8In_spec  (l8F m.kind) (114 : UInt8) (l8F_small _)) Try.call53 true [] [] [] trivial ?_
   refine At.a 2 ?_
   refine At.c (spec_l8Num_spec  (hasU ((114 : UInt8).toNat : Int) (l8F m.kind).data.toList) m.release 1 1000 ) Try.call52 true [] [] [] trivial ?_
   refine At.a 2 ?_
   by_cases h7 : (num8 (hasU ((114 : UInt8).toNat : Int) (l8F m.kind).data.toList) m.release 1 1000) = true
   · refine At.sB 57 (!(num8 (hasU ((114 : UInt8).toNat : Int) (l8F m.kind).data.toList) m.release 1 1000)) false (sayNF (sayB h7)) ?_
     refine At.a 1 ?_
     refine At.c (spec_l8In_spec  (l8F m.kind) (112 : UInt8) (l8F_small _)) Try.call53 true [] [] [] trivial ?_
     refine At.a 2 ?_
     refine At.c (spec_l8Num_spec  (hasU ((112 : UInt8).toNat : Int) (l8F m.kind).data.toList) m.part 0 1000 ) Try.call52 true [] [] [] trivial ?_
     refine At.a 3 ?_
     by_cases h8 : (num8 (hasU ((112 : UInt8).toNat : Int) (l8F m.kind).data.toList) m.part 0 1000) = true
     · refine At.sB 65 (!(num8 (hasU ((112 : UInt8).toNat : Int) (l8F m.kind).data.toList) m.part 0 1000)) false (sayNF (sayB h8)) ?_
       refine At.a 3 ?_
       by_cases h9 : m.yes = true
       · refine At.sB 68 m.yes true (sayB h9) ?_
         refine At.a 1 ?_
         refine At.c (spec_l8In_spec  (l8F m.kind) (121 : UInt8) (l8F_small _)) Try.call53 true [] [] [] trivial ?_
         refine At.a 4 ?_
         by_cases h10 : (hasU ((121 : UInt8).toNat : Int) (l8F m.kind).data.toList) = true
         · refine At.sB 74 (!(hasU ((121 : UInt8).toNat : Int) (l8F m.kind).data.toList)) false (sayNF (sayB h10)) ?_
           refine At.a 1 ?_
           refine At.c (spec_l8In_spec  (l8F m.kind) (98 : UInt8) (l8F_small _)) Try.call53 true [] [] [] trivial ?_
           refine At.a 3 ?_
           refine At.c (spec_l8Num_spec  (hasU ((98 : UInt8).toNat : Int) (l8F m.kind).data.toList) (m.bytes.size : Int) 1 16 ) Try.call52 true [] [] [] trivial ?_
           refine At.a 3 ?_
           by_cases h11 : (num8 (hasU ((98 : UInt8).toNat : Int) (l8F m.kind).data.toList) (m.bytes.size : Int) 1 16) = true
           · refine At.sB 83 (!(num8 (hasU ((98 : UInt8).toNat : Int) (l8F m.kind).data.toList) (m.bytes.size : Int) 1 16)) false (sayNF (sayB h11)) ?_
             refine At.a 1 ?_
             refine At.c (spec_l8In_spec  (l8F m.kind) (101 : UInt8) (l8F_small _)) Try.call53 true [] [] [] trivial ?_
             refine At.a 1 ?_
             by_cases h12 : (hasU ((101 : UInt8).toNat : Int) (l8F m.kind).data.toList) = true
             · refine At.sB 86 (hasU ((101 : UInt8).toNat : Int) (l8F m.kind).data.toList) true (sayB h12) ?_
               refine At.a 8 ?_
               refine At.sL 94 encEnt m.entries ?_
               refine At.c (spec_l8Num_spec  true (m.entries.length : Int) 0 6 ) Try.call52 true [] [] [] trivial ?_
               refine At.a 2 ?_
               refine At.sB 97 (!(num8 true (m.entries.length : Int) 0 6)) (!(fits2 m)) (congrArg V.bool (by grind [fits2, hasF])) ?_
               refine At.done rfl ⟨by kernel_rfl, rfl, ?_⟩
               exact Sub.cut [(101, 101)] [false, true, false, true] 97 _ (by kernel_rfl) (by kernel_rfl) (by kernel_rfl) (by kernel_rfl)
             refine At.sB 86 (hasU ((101 : UInt8).toNat : Int) (l8F m.kind).data.toList) false (sayB (Bool.eq_false_iff.2 h12)) ?_
             replace h12 := Bool.eq_false_iff.2 h12
             refine At.a 3 ?_
             refine At.sL 89 encEnt m.entries ?_
             refine At.a 5 ?_
             refine At.sL 94 encEnt m.entries ?_
             refine At.c (spec_l8Num_spec  ((m.entries.length : Int) == 0) (m.entries.length : Int) 0 6 ) Try.call52 true [] [] [] trivial ?_
             refine At.a 2 ?_
             refine At.sB 97 (!(num8 ((m.entries.length : Int) == 0) (m.entries.length : Int) 0 6)) (!(fits2 m)) (congrArg V.bool (by grind [fits2, hasF])) ?_
             refine At.done rfl ⟨by kernel_rfl, rfl, ?_⟩
             exact Sub.cut [(101, 101)] [false, true, false, true] 97 _ (by kernel_rfl) (by kernel_rfl) (by kernel_rfl) (by kernel_rfl)
           refine At.sB 83 (!(num8 (hasU ((98 : UInt8).toNat : Int) (l8F m.kind).data.toList) (m.bytes.size : Int) 1 16)) true (sayNT (sayB (Bool.eq_false_iff.2 h11))) ?_
           replace h11 := Bool.eq_false_iff.2 h11
           refine At.a 14 ?_
           refine At.sB 97 true (!(fits2 m)) (congrArg V.bool (by grind [fits2, hasF])) ?_
           refine At.done rfl ⟨by kernel_rfl, rfl, ?_⟩
           exact Sub.cut [(101, 101)] [false, true, false, true] 97 _ (by kernel_rfl) (by kernel_rfl) (by kernel_rfl) (by kernel_rfl)
         refine At.sB 74 (!(hasU ((121 : UInt8).toNat : Int) (l8F m.kind).data.toList)) true (sayNT (sayB (Bool.eq_false_iff.2 h10))) ?_
         replace h10 := Bool.eq_false_iff.2 h10
         refine At.a 23 ?_
         refine At.sB 97 true (!(fits2 m)) (congrArg V.bool (by grind [fits2, hasF])) ?_
         refine At.done rfl ⟨by kernel_rfl, rfl, ?_⟩
         exact Sub.cut [(101, 101)] [false, true, false, true] 97 _ (by kernel_rfl) (by kernel_rfl) (by kernel_rfl) (by kernel_rfl)
       refine At.sB 68 m.yes false (sayB (Bool.eq_false_iff.2 h9)) ?_
       replace h9 := Bool.eq_false_iff.2 h9
       refine At.a 7 ?_
       refine At.c (spec_l8In_spec  (l8F m.kind) (98 : UInt8) (l8F_small _)) Try.call53 true [] [] [] trivial ?_
       refine At.a 3 ?_
       refine At.c (spec_l8Num_spec  (hasU ((98 : UInt8).toNat : Int) (l8F m.kind).data.toList) (m.bytes.size : Int) 1 16 ) Try.call52 true [] [] [] trivial ?_
       refine At.a 3 ?_
       by_cases h13 : (num8 (hasU ((98 : UInt8).toNat : Int) (l8F m.kind).data.toList) (m.bytes.size : Int) 1 16) = true
       · refine At.sB 83 (!(num8 (hasU ((98 : UInt8).toNat : Int) (l8F m.kind).data.toList) (m.bytes.size : Int) 1 16)) false (sayNF (sayB h13)) ?_
         refine At.a 1 ?_
         refine At.c (spec_l8In_spec  (l8F m.kind) (101 : UInt8) (l8F_small _)) Try.call53 true [] [] [] trivial ?_
         refine At.a 1 ?_
         by_cases h14 : (hasU ((101 : UInt8).toNat : Int) (l8F m.kind).data.toList) = true
         · refine At.sB 86 (hasU ((101 : UInt8).toNat : Int) (l8F m.kind).data.toList) true (sayB h14) ?_
           refine At.a 8 ?_
           refine At.sL 94 encEnt m.entries ?_
           refine At.c (spec_l8Num_spec  true (m.entries.length : Int) 0 6 ) Try.call52 true [] [] [] trivial ?_
           refine At.a 2 ?_
           refine At.sB 97 (!(num8 true (m.entries.length : Int) 0 6)) (!(fits2 m)) (congrArg V.bool (by grind [fits2, hasF])) ?_
           refine At.done rfl ⟨by kernel_rfl, rfl, ?_⟩
           exact Sub.cut [(101, 101)] [false, true, false, true] 97 _ (by kernel_rfl) (by kernel_rfl) (by kernel_rfl) (by kernel_rfl)
         refine At.sB 86 (hasU ((101 : UInt8).toNat : Int) (l8F m.kind).data.toList) false (sayB (Bool.eq_false_iff.2 h14)) ?_
         replace h14 := Bool.eq_false_iff.2 h14
         refine At.a 3 ?_
         refine At.sL 89 encEnt m.entries ?_
         refine At.a 5 ?_
         refine At.sL 94 encEnt m.entries ?_
         refine At.c (spec_l8Num_spec  ((m.entries.length : Int) == 0) (m.entries.length : Int) 0 6 ) Try.call52 true [] [] [] trivial ?_
         refine At.a 2 ?_
         refine At.sB 97 (!(num8 ((m.entries.length : Int) == 0) (m.entries.length : Int) 0 6)) (!(fits2 m)) (congrArg V.bool (by grind [fits2, hasF])) ?_
         refine At.done rfl ⟨by kernel_rfl, rfl, ?_⟩
         exact Sub.cut [(101, 101)] [false, true, false, true] 97 _ (by kernel_rfl) (by kernel_rfl) (by kernel_rfl) (by kernel_rfl)
       refine At.sB 83 (!(num8 (hasU ((98 : UInt8).toNat : Int) (l8F m.kind).data.toList) (m.bytes.size : Int) 1 16)) true (sayNT (sayB (Bool.eq_false_iff.2 h13))) ?_
       replace h13 := Bool.eq_false_iff.2 h13
       refine At.a 14 ?_
       refine At.sB 97 true (!(fits2 m)) (congrArg V.bool (by grind [fits2, hasF])) ?_
       refine At.done rfl ⟨by kernel_rfl, rfl, ?_⟩
       exact Sub.cut [(101, 101)] [false, true, false, true] 97 _ (by kernel_rfl) (by kernel_rfl) (by kernel_rfl) (by kernel_rfl)
     refine At.sB 65 (!(num8 (hasU ((112 : UInt8).toNat : Int) (l8F m.kind).data.toList) m.part 0 1000)) true (sayNT (sayB (Bool.eq_false_iff.2 h8))) ?_
     replace h8 := Bool.eq_false_iff.2 h8
     refine At.a 32 ?_
     refine At.sB 97 true (!(fits2 m)) (congrArg V.bool (by grind [fits2, hasF])) ?_
     refine At.done rfl ⟨by kernel_rfl, rfl, ?_⟩
     exact Sub.cut [(101, 101)] [false, true, false, true] 97 _ (by kernel_rfl) (by kernel_rfl) (by kernel_rfl) (by kernel_rfl)
   refine At.sB 57 (!(num8 (hasU ((114 : UInt8).toNat : Int) (l8F m.kind).data.toList) m.release 1 1000)) true (sayNT (sayB (Bool.eq_false_iff.2 h7))) ?_
   replace h7 := Bool.eq_false_iff.2 h7
   refine At.a 40 ?_
   refine At.sB 97 true (!(fits2 m)) (congrArg V.bool (by grind [fits2, hasF])) ?_
   refine At.done rfl ⟨by kernel_rfl, rfl, ?_⟩
   exact Sub.cut [(101, 101)] [false, true, false, true] 97 _ (by kernel_rfl) (by kernel_rfl) (by kernel_rfl) (by kernel_rfl)
 refine AW.cNB (fits2 m) (fun h15 => ?_) (fun h15 => ?_)
 · refine AW.q 1 ?_
   refine AW.ret ?_
   refine ⟨_, Sub.refl _ _, ?_⟩
   refine KF.conv (fun w => .bool w) (fun w => []) (show (false) = (msgFits m) from by grind [msgFits]) ?_
   exact KF.n []
 refine AW.skip ?_
 refine AW.q 3 ?_
 refine AW.seq ?_
 refine AW.seq ?_
 refine AW.cut [(101, 101), (104, 104)] [false, true] 117 (!(fits3 m)) ?_ ?_
 · refine AW.g ?_
   refine At.a 1 ?_
   refine At.c (spec_l8In_spec  (l8F m.kind) (100 : UInt8) (l8F_small _)) Try.call53 true [] [] [] trivial ?_
   refine At.a 1 ?_
   by_cases h16 : (hasU ((100 : UInt8).toNat : Int) (l8F m.kind).data.toList) = true
   · refine At.sB 101 (hasU ((100 : UInt8).toNat : Int) (l8F m.kind).data.toList) true (sayB h16) ?_
     refine At.a 2 ?_
     refine At.c (spec_CmdOk_spec  m.cmd ) Try.call54 true [] [] [] trivial ?_
     refine At.a 3 ?_
     by_cases h17 : (cmdOk m.cmd) = true
     · refine At.sB 107 (!(cmdOk m.cmd)) false (sayNF (sayB h17)) ?_
       refine At.a 1 ?_
       refine At.c (spec_l8In_spec  (l8F m.kind) (100 : UInt8) (l8F_small _)) Try.call53 true [] [] [] trivial ?_
       refine At.a 2 ?_
       refine At.sB 111 (!(hasU ((100 : UInt8).toNat : Int) (l8F m.kind).data.toList)) false (sayNF (sayB h16)) ?_
       refine At.a 6 ?_
       refine At.sB 117 false (!(fits3 m)) (congrArg V.bool (by grind [fits3, hasF, zCmd])) ?_
       refine At.done rfl ⟨rfl, ?_⟩
       exact Sub.cut [(101, 101), (104, 104)] [false, true] 117 _ (by kernel_rfl) (by kernel_rfl) (by kernel_rfl) (by kernel_rfl)
     refine At.sB 107 (!(cmdOk m.cmd)) true (sayNT (sayB (Bool.eq_false_iff.2 h17))) ?_
     replace h17 := Bool.eq_false_iff.2 h17
     refine At.a 10 ?_
     refine At.sB 117 true (!(fits3 m)) (congrArg V.bool (by grind [fits3, hasF, zCmd])) ?_
     refine At.done rfl ⟨rfl, ?_⟩
     exact Sub.cut [(101, 101), (104, 104)] [false, true] 117 _ (by kernel_rfl) (by kernel_rfl) (by kernel_rfl) (by kernel_rfl)
   refine At.sB 101 (hasU ((100 : UInt8).toNat : Int) (l8F m.kind).data.toList) false (sayB (Bool.eq_false_iff.2 h16)) ?_
   replace h16 := Bool.eq_false_iff.2 h16
   refine At.a 7 ?_
   refine At.c (spec_l8In_spec  (l8F m.kind) (100 : UInt8) (l8F_small _)) Try.call53 true [] [] [] trivial ?_
   refine At.a 2 ?_
   refine At.sB 111 (!(hasU ((100 : UInt8).toNat : Int) (l8F m.kind).data.toList)) true (sayNT (sayB h16)) ?_
   refine At.a 3 ?_
   refine At.eqA (t := 31) (u := 31) (d := 115) (op := .neq) (x := .tmp 113) (y := .tmp 114) (X := [.int .i64 m.cmd.kind, .int .i64 m.cmd.release, .int .i64 m.cmd.node, .int .i64 m.cmd.size, .str m.cmd.digest]) (Y := [.int .i64 0, .int .i64 0, .int .i64 0, .int .i64 0, .str (⟨#[]⟩ : ByteArray)]) (cmdEq m.cmd (⟨0, 0, 0, 0, (⟨#[]⟩ : ByteArray)⟩ : Cmd)) (by kernel_rfl) (by kernel_rfl) (by kernel_rfl) (by kernel_rfl) (by kernel_rfl) (.bool (!(cmdEq m.cmd (⟨0, 0, 0, 0, (⟨#[]⟩ : ByteArray)⟩ : Cmd)))) (.inr ⟨rfl, rfl⟩) ?_
   refine At.a 2 ?_
   refine At.sB 117 (!(cmdEq m.cmd (⟨0, 0, 0, 0, (⟨#[]⟩ : ByteArray)⟩ : Cmd))) (!(fits3 m)) (congrArg V.bool (by grind [fits3, hasF, zCmd])) ?_
   refine At.done rfl ⟨rfl, ?_⟩
   exact Sub.cut [(101, 101), (104, 104)] [false, true] 117 _ (by kernel_rfl) (by kernel_rfl) (by kernel_rfl) (by kernel_rfl)
 refine AW.cNB (fits3 m) (fun h20 => ?_) (fun h20 => ?_)
 · refine AW.q 1 ?_
   refine AW.ret ?_
   refine ⟨_, Sub.refl _ _, ?_⟩
   refine KF.conv (fun w => .bool w) (fun w => []) (show (false) = (msgFits m) from by grind [msgFits]) ?_
   exact KF.n []
 refine AW.skip ?_
 refine AW.seq ?_
 refine AW.q 1 ?_
 refine AW.block ?_
 refine AW.loopW (fun (k : Nat) => Go.Sy.mk [.un, .ptr 101 0 0, .un, .un, .un, .int .i64 (k : Int)] [(101, .box 34 [.int .i64 m.kind, .int .i64 m.from_, .int .i64 m.term, .int .i64 m.at_, .int .i64 m.atTerm, .int .i64 m.commit, .bool m.yes, .int .i64 m.release, .int .i64 m.part, .str m.bytes, .int .i64 m.cmd.kind, .int .i64 m.cmd.release, .int .i64 m.cmd.node, .int .i64 m.cmd.size, .str m.cmd.digest, .sl false 6 (m.entries.map encEnt)])]) (fun (k : Nat) => k ≤ m.entries.length ∧ entsOk m.entries = entsOk (m.entries.drop k)) (fun (k : Nat) => m.entries.length - k) 0 ⟨by omega, by rw [List.drop_zero]⟩ (Sub.o [(101, 101)] [false, true, false, false, false, true]) ?_
 rintro k ⟨hk, hR⟩
 refine AW.seq ?_
 refine AW.r ?_
 refine At.a 4 ?_
 refine At.sL 121 encEnt m.entries ?_
 refine At.z 1 ?_
 refine AW.cD ((k : Int) < (m.entries.length : Int)) (fun h21 => ?_) (fun h21 => ?_)
 · refine AW.skip ?_
   refine AW.seq ?_
   refine AW.block ?_
   refine AW.r ?_
   refine At.a 3 ?_
   refine At.iSl 32 128 (.tmp 126) (.tmp 127) false 6 (m.entries.map encEnt) .i64 (k : Int) 56 (by omega) (by simp only [List.length_map]; omega) ?_
   refine Exists.elim (gE m.entries k (by omega)) fun e1 he1 => ?_
   refine At.lVp 56 129 (.tmp 128) false 6 (m.entries.map encEnt) k 0 true 6 (encEnt e1) (.agg [.int .i64 e1.term, .int .i64 e1.cmd.kind, .int .i64 e1.cmd.release, .int .i64 e1.cmd.node, .int .i64 e1.cmd.size, .str e1.cmd.digest]) (mapGet he1) ?_
   refine At.c (spec_l6Entry_spec  e1 ) Try.call55 true [] [] [] trivial ?_
   refine At.z 1 ?_
   refine AW.cNB (entOk e1) (fun h22 => ?_) (fun h22 => ?_)
   · refine AW.q 1 ?_
     refine AW.ret ?_
     refine ⟨_, Sub.refl _ _, ?_⟩
     refine KF.conv (fun w => .bool w) (fun w => []) (show (false) = (msgFits m) from by rw [dropCons he1] at hR; grind [msgFits, entsOk]) ?_
     exact KF.n []
   have h22n := entOk_nums h22
   refine AW.skip ?_
   refine AW.g ?_
   refine At.a 2 ?_
   refine At.sI 124 ((k : Int) + 1) (by omega) ?_
   refine At.z 1 ?_
   exact ⟨k + 1, ⟨by omega, by rw [hR, dropCons he1, entsOk]; simp only [*, Bool.true_and]⟩, (by omega), Sub.o [(101, 101)] [false, true, false, false, false, true]⟩
 refine AW.exit ?_
 refine AW.q 1 ?_
 refine AW.ret ?_
 refine ⟨_, Sub.refl _ _, ?_⟩
 refine KF.conv (fun w => .bool w) (fun w => []) (show (true) = (msgFits m) from by rw [List.drop_of_length_le (by omega)] at hR; grind [msgFits, entsOk]) ?_
 exact KF.n []
def K_impl_GetNum (rs : List ResultVar) (b : List UInt8) (at_ : Int) (w0_ : Int) (w1_ : Int) (w2_ : Bool) : Exit → Sg → Prop := KF Try.prog 0 rs (.tup [.int .i64 w0_, .int .i64 w1_, .bool w2_]) []
theorem impl_GetNum_spec  (b : List UInt8) (at_ : Int) (hb : b.length ≤ 1048576) (ha : 0 ≤ at_ ∧ at_ ≤ 2097152) : FnSpec Try.prog 76 [.sl false 1 (b.map encU8), .int .i64 at_] [] (.tup [.int .i64 ((getN b at_).1), .int .i64 ((getN b at_).2.1), .bool ((getN b at_).2.2)]) [] := by
 refine FnSpec.of 51 Try.func76 rfl Try.ntmps76 (by simp) (AW.weakK ?_)
 refine AW.q 3 ?_
 refine AW.seq ?_
 refine AW.q 2 ?_
 refine AW.cD (at_ < 0) (fun h1 => ?_) (fun h1 => ?_)
 · refine AW.q 3 ?_
   exact AW.ret (rf (k3 (K_impl_GetNum _ b at_) (show (0) = ((getN b at_).1) from by rw [getN_neg (by omega)]) (show (0) = ((getN b at_).2.1) from by rw [getN_neg (by omega)]) (show (false) = ((getN b at_).2.2) from by rw [getN_neg (by omega)]) (KF.n [])))
 refine AW.skip ?_
 refine AW.q 1 ?_
 refine AW.seq ?_
 refine AW.q 1 ?_
 refine AW.block ?_
 refine AW.loopW (fun (x : Nat × Int) => match x with | (k, x) => Go.Sy.mk [.sl false 1 (b.map encU8), .int .i64 at_, .un, .un, .un, .un, .un, .int .i64 x, .int .i64 (k : Int)] []) (fun (x : Nat × Int) => match x with | (k, x) => GR b at_ k x) (fun (x : Nat × Int) => match x with | (k, x) => 9 - k) (0, 0) (GR.start ha.1) (Sub.o [] [true, true, false, false, false, false, false, true, true]) ?_
 rintro ⟨k, x⟩ hR
 have hk9 := hR.hk
 have hx0 := hR.h0
 refine AW.seq ?_
 refine AW.r ?_
 refine At.a 3 ?_
 by_cases h2 : (k : Int) < 9
 · refine At.sB 14 _ _ (sayT h2) ?_
   refine At.a 3 ?_
   refine At.sL 17 encU8 b ?_
   refine At.a 2 ?_
   refine At.sI 19 ((b.length : Int) - at_) (by omega) ?_
   refine At.z 2 ?_
   refine AW.cD ((k : Int) < ((b.length : Int) - at_)) (fun h3 => ?_) (fun h3 => ?_)
   · refine AW.skip ?_
     refine AW.seq ?_
     refine AW.block ?_
     refine AW.r ?_
     refine At.a 4 ?_
     refine At.sI 27 (at_ + (k : Int)) (by omega) ?_
     refine At.iSl 28 28 (.tmp 24) (.tmp 27) false 1 (b.map encU8) .i64 (at_ + (k : Int)) 5 (by omega) (by simp only [List.length_map]; omega) ?_
     refine Exists.elim (gE b ((at_ + (k : Int)).toNat) (by omega)) fun e1 he1 => ?_
     refine At.lVp 5 29 (.tmp 28) false 1 (b.map encU8) ((at_ + (k : Int)).toNat) 0 false 1 (encU8 e1) (.int .u8 (e1.toNat : Int)) (mapGet he1) ?_
     refine At.conv (s := 5) (t := 3) (d := 30) (x := .tmp 29) (kd := .u8) (kd' := .i64) (a := (e1.toNat : Int)) (.int .i64 (e1.toNat : Int)) (by kernel_rfl) (by kernel_rfl) (by kernel_rfl) (by kernel_rfl) (sayI _ (by have := UInt8.toNat_lt e1; omega)) ?_
     refine At.z 1 ?_
     refine AW.r ?_
     refine At.a 2 ?_
     refine At.bits (t := 3) (u := 3) (d := 33) (op := .and) (x := .tmp 32) (y := .const (.int .i64 127)) (kd := .i64) (a := (e1.toNat : Int)) (b := 127) ((e1.toNat : Int) % 128) (by kernel_rfl) (by kernel_rfl) (by kernel_rfl) (by kernel_rfl) (andM 7 128 _ _ (by decide) (by decide) (by decide)) ?_
     refine At.a 2 ?_
     refine At.sI 35 (7 * (k : Int)) (by omega) ?_
     refine At.shift (t := 3) (u := 3) (d := 36) (op := .shl) (x := .tmp 33) (y := .tmp 35) (kd := .i64) (kd' := .i64) (a := (e1.toNat : Int) % 128) (b := 7 * (k : Int)) (shV .shl .i64 ((e1.toNat : Int) % 128) (7 * (k : Int))) (by kernel_rfl) (by kernel_rfl) (by kernel_rfl) (by kernel_rfl) (by omega) (shS_shl _ _ _) ?_
     refine At.bits (t := 3) (u := 3) (d := 37) (op := .or) (x := .tmp 31) (y := .tmp 36) (kd := .i64) (a := x) (b := shV .shl .i64 ((e1.toNat : Int) % 128) (7 * (k : Int))) (bitV .or .i64 x (shV .shl .i64 ((e1.toNat : Int) % 128) (7 * (k : Int)))) (by kernel_rfl) (by kernel_rfl) (by kernel_rfl) (by kernel_rfl) (bitS_or _ _ _) ?_
     refine At.z 1 ?_
     refine AW.seq ?_
     refine AW.q 2 ?_
     refine AW.cD ((e1.toNat : Int) > 127) (fun h4 => ?_) (fun h4 => ?_)
     · refine AW.exit ?_
       refine AW.g ?_
       refine At.a 2 ?_
       refine At.sI 23 ((k : Int) + 1) (by omega) ?_
       refine At.z 1 ?_
       exact ⟨(k + 1, (bitV .or .i64 x (shV .shl .i64 ((e1.toNat : Int) % 128) (7 * (k : Int))))), (by exact hR.stepB ha.1 (by omega) he1 (by omega)), (by simp only; omega), Sub.o [] [true, true, false, false, false, false, false, true, true]⟩
     refine AW.skip ?_
     refine AW.seq ?_
     refine AW.r ?_
     refine At.a 3 ?_
     by_cases h5 : (k : Int) > 0
     · refine At.sB 42 _ _ (sayT h5) ?_
       refine At.z 3 ?_
       refine AW.cE (e1.toNat : Int) (0 : Int) (fun h6 => ?_) (fun h6 => ?_)
       · refine AW.q 3 ?_
         exact AW.ret (rf (k3 (K_impl_GetNum _ b at_) (show (0) = ((getN b at_).1) from by rw [hR.zero ha.1 (by omega) he1 (by omega) (by omega)]) (show (0) = ((getN b at_).2.1) from by rw [hR.zero ha.1 (by omega) he1 (by omega) (by omega)]) (show (false) = ((getN b at_).2.2) from by rw [hR.zero ha.1 (by omega) he1 (by omega) (by omega)]) (KF.n [])))
       refine AW.skip ?_
       refine AW.r ?_
       refine At.a 4 ?_
       refine At.sI 49 (at_ + (k : Int)) (by omega) ?_
       refine At.a 1 ?_
       refine At.sI 50 ((at_ + (k : Int)) + 1) (by omega) ?_
       refine At.z 3 ?_
       exact AW.ret (rf (k3 (K_impl_GetNum _ b at_) (show (bitV .or .i64 x (shV .shl .i64 ((e1.toNat : Int) % 128) (7 * (k : Int)))) = ((getN b at_).1) from by rw [hR.stopB ha.1 (by omega) he1 (by omega) (by omega)]) (show ((at_ + (k : Int)) + 1) = ((getN b at_).2.1) from by rw [hR.stop ha.1 (by omega) he1 (by omega) (by omega)]) (show (true) = ((getN b at_).2.2) from by rw [hR.stop ha.1 (by omega) he1 (by omega) (by omega)]) (KF.n [])))
     refine At.sB 42 _ _ (sayF h5) ?_
     refine At.z 3 ?_
     refine AW.cond false (by kernel_rfl) (fun h => by cases h) (fun _ => ?_)
     refine AW.skip ?_
     refine AW.r ?_
     refine At.a 4 ?_
     refine At.sI 49 (at_ + (k : Int)) (by omega) ?_
     refine At.a 1 ?_
     refine At.sI 50 ((at_ + (k : Int)) + 1) (by omega) ?_
     refine At.z 3 ?_
     exact AW.ret (rf (k3 (K_impl_GetNum _ b at_) (show (bitV .or .i64 x (shV .shl .i64 ((e1.toNat : Int) % 128) (7 * (k : Int)))) = ((getN b at_).1) from by rw [hR.stopB ha.1 (by omega) he1 (by omega) (by omega)]) (show ((at_ + (k : Int)) + 1) = ((getN b at_).2.1) from by rw [hR.stop ha.1 (by omega) he1 (by omega) (by omega)]) (show (true) = ((getN b at_).2.2) from by rw [hR.stop ha.1 (by omega) he1 (by omega) (by omega)]) (KF.n [])))
   refine AW.exit ?_
   refine AW.q 3 ?_
   exact AW.ret (rf (k3 (K_impl_GetNum _ b at_) (show (0) = ((getN b at_).1) from by rw [hR.over ha.1 (by omega)]) (show (0) = ((getN b at_).2.1) from by rw [hR.over ha.1 (by omega)]) (show (false) = ((getN b at_).2.2) from by rw [hR.over ha.1 (by omega)]) (KF.n [])))
 refine At.sB 14 _ _ (sayF h2) ?_
 refine At.z 7 ?_
 refine AW.cond false (by kernel_rfl) (fun h => by cases h) (fun _ => ?_)
 refine AW.exit ?_
 refine AW.q 3 ?_
 exact AW.ret (rf (k3 (K_impl_GetNum _ b at_) (show (0) = ((getN b at_).1) from by rw [hR.nine (by omega)]) (show (0) = ((getN b at_).2.1) from by rw [hR.nine (by omega)]) (show (false) = ((getN b at_).2.2) from by rw [hR.nine (by omega)]) (KF.n [])))
def K_impl_Unseal (rs : List ResultVar) (b : List UInt8) (at_ : Int) (w0_ : List UInt8) (w1_ : Int) (w2_ : Int) : Exit → Sg → Prop := KF Try.prog 0 rs (.tup [.ref 0, .int .i64 w1_, .int .i64 w2_]) [.arr 5 1 (w0_.map encU8)]
theorem impl_Unseal_spec  (b : List UInt8) (at_ : Int) (hb : b.length ≤ 1048576) (ha : 0 ≤ at_ ∧ at_ ≤ 1048576) : FnSpec Try.prog 45 [.sl false 1 (b.map encU8), .int .i64 at_] [] (.tup [.ref 0, .int .i64 ((unsealB b at_).2.1), .int .i64 ((unsealB b at_).2.2)]) [.arr 5 1 (((unsealB b at_).1).map encU8)] := by
 have hgn := getN_num b (at_ := at_)
 have hx1 : ((getN b at_).2.1 + (getN b at_).1).toNat - (getN b at_).2.1.toNat = (getN b at_).1.toNat := by omega
 have hx2 : ((getN b at_).2.1 + (getN b at_).1 + 4).toNat - ((getN b at_).2.1 + (getN b at_).1).toNat = 4 := by omega
 refine FnSpec.of 59 Try.func45 rfl Try.ntmps45 (by simp) (AW.weakK ?_)
 refine AW.q 3 ?_
 refine AW.r ?_
 refine At.a 2 ?_
 refine At.c (impl_GetNum_spec  b at_ hb (by omega)) Try.call76 true [] [] [] trivial ?_
 refine At.z 7 ?_
 refine AW.seq ?_
 refine AW.block ?_
 refine AW.r ?_
 refine At.a 3 ?_
 by_cases h1 : ((getN b at_).2.2) = true
 · refine At.sB 22 (!((getN b at_).2.2)) false (sayNF (sayB h1)) ?_
   refine At.z 4 ?_
   refine AW.cD (((getN b at_).1) > 3000) (fun h2 => ?_) (fun h2 => ?_)
   · refine AW.q 3 ?_
     refine AW.ret ?_
     refine ⟨_, Sub.nils [⟨false, 4, none, 5001, 5, 1⟩] (by kernel_rfl), ?_⟩
     exact k3 (K_impl_Unseal _ b at_) (show ([]) = ((unsealB b at_).1) from by rw [unseal_big (by assumption)]) (show (0) = ((unsealB b at_).2.1) from by rw [unseal_big (by assumption)]) (show (1) = ((unsealB b at_).2.2) from by rw [unseal_big (by assumption)]) (KF.n [(5001, 0)])
   refine AW.r ?_
   refine At.a 2 ?_
   refine At.sI 28 (((getN b at_).1) + 4) (by omega) ?_
   refine At.a 2 ?_
   refine At.sL 30 encU8 b ?_
   refine At.a 2 ?_
   refine At.sI 32 ((b.length : Int) - ((getN b at_).2.1)) (by omega) ?_
   refine At.z 2 ?_
   refine AW.cD ((((getN b at_).1) + 4) > ((b.length : Int) - ((getN b at_).2.1))) (fun h3 => ?_) (fun h3 => ?_)
   · refine AW.q 3 ?_
     refine AW.ret ?_
     refine ⟨_, Sub.nils [⟨false, 4, none, 5002, 5, 1⟩] (by kernel_rfl), ?_⟩
     exact k3 (K_impl_Unseal _ b at_) (show ([]) = ((unsealB b at_).1) from by rw [unseal_short' (by assumption) (by assumption) (by omega)]) (show (0) = ((unsealB b at_).2.1) from by rw [unseal_short' (by assumption) (by assumption) (by omega)]) (show (2) = ((unsealB b at_).2.2) from by rw [unseal_short' (by assumption) (by assumption) (by omega)]) (KF.n [(5002, 0)])
   refine AW.skip ?_
   refine AW.r ?_
   refine At.lit0 (t := 28) (d := 34) (e := 5) (es := 1) (bytes := 1) 134 (by kernel_rfl) (by kernel_rfl) (by kernel_rfl) (by kernel_rfl) ?_
   refine At.a 5 ?_
   refine At.sI 39 (((getN b at_).2.1) + ((getN b at_).1)) (by omega) ?_
   refine At.sliceSl (t := 28) (d := 40) (e := 5) (es := 1) (x := .tmp 35) (lx := some (.tmp 36)) (hx := some (.tmp 39)) (p := false) (xs := (b.map encU8)) (vl := .int .i64 ((getN b at_).2.1)) (vh := .int .i64 (((getN b at_).2.1) + ((getN b at_).1))) (((getN b at_).2.1).toNat) ((((getN b at_).2.1) + ((getN b at_).1)).toNat) (((b.drop (((getN b at_).2.1).toNat)).take (((((getN b at_).2.1) + ((getN b at_).1)).toNat) - (((getN b at_).2.1).toNat))).map encU8) (by kernel_rfl) (by kernel_rfl) (by kernel_rfl) (by kernel_rfl) (.inr ⟨_, _, rfl, sayNat (by omega)⟩) (.inr ⟨_, _, rfl, sayNat (by omega)⟩) (by omega) (by simp only [List.length_map]; omega) (by simp [List.map_take, List.map_drop]) ?_
   refine At.append (t := 28) (d := 41) (e := 5) (es := 1) (bytes := 1) (s := .tmp 34) (x := .tmp 40) (S := .ref 134) (T := .sl false 1 (((b.drop (((getN b at_).2.1).toNat)).take (((((getN b at_).2.1) + ((getN b at_).1)).toNat) - (((getN b at_).2.1).toNat))).map encU8)) (xs := []) (ys := (((b.drop (((getN b at_).2.1).toNat)).take (((((getN b at_).2.1) + ((getN b at_).1)).toNat) - (((getN b at_).2.1).toNat))).map encU8)) 141 [134] [] (((b.drop (((getN b at_).2.1).toNat)).take (((((getN b at_).2.1) + ((getN b at_).1)).toNat) - (((getN b at_).2.1).toNat))).map encU8) (by kernel_rfl) (by kernel_rfl) (by kernel_rfl) (by kernel_rfl) ⟨by kernel_rfl, rfl⟩ ⟨rfl, rfl, (allP_encU8 _), rfl⟩ (by kernel_rfl) (by kernel_rfl) (by simp) (by simp only [List.length_map, List.length_append, List.length_take, List.length_drop, List.length_replicate, List.length_set, List.length_cons, List.length_nil]; omega) (by simp only [List.length_map, List.length_append, List.length_take, List.length_drop, List.length_replicate, List.length_set, List.length_cons, List.length_nil]; omega) ?_
   refine At.z 1 ?_
   refine AW.r ?_
   refine At.a 3 ?_
   refine At.sI 44 (((getN b at_).2.1) + ((getN b at_).1)) (by omega) ?_
   refine At.a 1 ?_
   refine At.sI 45 ((((getN b at_).2.1) + ((getN b at_).1)) + 4) (by omega) ?_
   refine At.z 1 ?_
   refine AW.seq ?_
   refine AW.seq ?_
   refine AW.gD Try_mix ?_
   refine At.a 4 ?_
   refine At.sI 49 (((getN b at_).2.1) + ((getN b at_).1)) (by omega) ?_
   refine At.a 1 ?_
   refine At.sliceSl (t := 28) (d := 51) (e := 5) (es := 1) (x := .tmp 46) (lx := some (.tmp 49)) (hx := some (.tmp 50)) (p := false) (xs := (b.map encU8)) (vl := .int .i64 (((getN b at_).2.1) + ((getN b at_).1))) (vh := .int .i64 ((((getN b at_).2.1) + ((getN b at_).1)) + 4)) ((((getN b at_).2.1) + ((getN b at_).1)).toNat) (((((getN b at_).2.1) + ((getN b at_).1)) + 4).toNat) (((b.drop ((((getN b at_).2.1) + ((getN b at_).1)).toNat)).take ((((((getN b at_).2.1) + ((getN b at_).1)) + 4).toNat) - ((((getN b at_).2.1) + ((getN b at_).1)).toNat))).map encU8) (by kernel_rfl) (by kernel_rfl) (by kernel_rfl) (by kernel_rfl) (.inr ⟨_, _, rfl, sayNat (by omega)⟩) (.inr ⟨_, _, rfl, sayNat (by omega)⟩) (by omega) (by simp only [List.length_map]; omega) (by simp [List.map_take, List.map_drop]) ?_
   refine At.b2s (s := 28) (t := 9) (e := 5) (d := 52) (x := .tmp 51) (T := .sl false 1 (((b.drop ((((getN b at_).2.1) + ((getN b at_).1)).toNat)).take ((((((getN b at_).2.1) + ((getN b at_).1)) + 4).toNat) - ((((getN b at_).2.1) + ((getN b at_).1)).toNat))).map encU8)) ((b.drop ((((getN b at_).2.1) + ((getN b at_).1)).toNat)).take ((((((getN b at_).2.1) + ((getN b at_).1)) + 4).toNat) - ((((getN b at_).2.1) + ((getN b at_).1)).toNat))) [] (by kernel_rfl) (by kernel_rfl) (by kernel_rfl) (by kernel_rfl) ⟨rfl, rfl, (allP_encU8 _), rfl⟩ ?_
   refine At.a 1 ?_
   refine At.c (impl_sumBytes_spec  ((b.drop (((getN b at_).2.1).toNat)).take (((((getN b at_).2.1) + ((getN b at_).1)).toNat) - (((getN b at_).2.1).toNat))) (by simp only [List.length_take, List.length_drop]; omega)) Try.call70 false [] [(2080, 0)] [(141, 1, (((b.drop (((getN b at_).2.1).toNat)).take (((((getN b at_).2.1) + ((getN b at_).1)).toNat) - (((getN b at_).2.1).toNat))).map encU8))] ⟨rfl, ⟨5, (((b.drop (((getN b at_).2.1).toNat)).take (((((getN b at_).2.1) + ((getN b at_).1)).toNat) - (((getN b at_).2.1).toNat))).map encU8), by kernel_rfl, FrzIs.same (allP_encU8 _)⟩, trivial⟩ ?_
   refine At.b2s (s := 28) (t := 9) (e := 5) (d := 55) (x := .tmp 54) (T := .ref 2080) (sum4 (sumB ((b.drop (((getN b at_).2.1).toNat)).take (((((getN b at_).2.1) + ((getN b at_).1)).toNat) - (((getN b at_).2.1).toNat))))) [] (by kernel_rfl) (by kernel_rfl) (by kernel_rfl) (by kernel_rfl) ⟨by kernel_rfl, .inl ⟨rfl, (allP_encU8 _)⟩⟩ ?_
   refine At.zD 1 ?_
   refine AW.cNE ((strOf ((b.drop ((((getN b at_).2.1) + ((getN b at_).1)).toNat)).take ((((((getN b at_).2.1) + ((getN b at_).1)) + 4).toNat) - ((((getN b at_).2.1) + ((getN b at_).1)).toNat)))).toList) ((strOf (sum4 (sumB ((b.drop (((getN b at_).2.1).toNat)).take (((((getN b at_).2.1) + ((getN b at_).1)).toNat) - (((getN b at_).2.1).toNat)))))).toList) (fun h4 => ?_) (fun h4 => ?_)
   · refine AW.q 3 ?_
     refine AW.ret ?_
     refine ⟨_, Sub.nils [⟨false, 4, none, 5003, 5, 1⟩] (by kernel_rfl), ?_⟩
     exact k3 (K_impl_Unseal _ b at_) (show ([]) = ((unsealB b at_).1) from by rw [unseal_sum' h1 h2 (by omega) rfl (by have q := h4; rw [strOf_list, strOf_list, hx1, hx2] at q; exact fun e => q e.symm)]; first | done | rfl | (rw [hx1]; done) | (rw [hx1]; rfl)) (show (0) = ((unsealB b at_).2.1) from by rw [unseal_sum' h1 h2 (by omega) rfl (by have q := h4; rw [strOf_list, strOf_list, hx1, hx2] at q; exact fun e => q e.symm)]; first | done | rfl | (rw [hx1]; done) | (rw [hx1]; rfl)) (show (3) = ((unsealB b at_).2.2) from by rw [unseal_sum' h1 h2 (by omega) rfl (by have q := h4; rw [strOf_list, strOf_list, hx1, hx2] at q; exact fun e => q e.symm)]; first | done | rfl | (rw [hx1]; done) | (rw [hx1]; rfl)) (KF.n [(5003, 0)])
   refine AW.skip ?_
   refine AW.q 5 ?_
   exact AW.ret (rf (k3 (K_impl_Unseal _ b at_) (show ((b.drop (((getN b at_).2.1).toNat)).take (((((getN b at_).2.1) + ((getN b at_).1)).toNat) - (((getN b at_).2.1).toNat))) = ((unsealB b at_).1) from by rw [unseal_yes' h1 h2 (by omega) rfl (by have q := h4; rw [strOf_list, strOf_list, hx1, hx2] at q; exact q.symm)]; first | done | rfl | (rw [hx1]; done) | (rw [hx1]; rfl)) (show ((((getN b at_).2.1) + ((getN b at_).1)) + 4) = ((unsealB b at_).2.1) from by rw [unseal_yes' h1 h2 (by omega) rfl (by have q := h4; rw [strOf_list, strOf_list, hx1, hx2] at q; exact q.symm)]; first | done | rfl | (rw [hx1]; done) | (rw [hx1]; rfl)) (show (0) = ((unsealB b at_).2.2) from by rw [unseal_yes' h1 h2 (by omega) rfl (by have q := h4; rw [strOf_list, strOf_list, hx1, hx2] at q; exact q.symm)]; first | done | rfl | (rw [hx1]; done) | (rw [hx1]; rfl)) (KF.n [(141, 0)])))
 refine At.sB 22 (!((getN b at_).2.2)) true (sayNT (sayB (Bool.eq_false_iff.2 h1))) ?_
 replace h1 := Bool.eq_false_iff.2 h1
 refine At.z 4 ?_
 refine AW.cond true (by kernel_rfl) (fun _ => ?_) (fun h => by cases h)
 refine AW.q 3 ?_
 refine AW.ret ?_
 refine ⟨_, Sub.nils [⟨false, 4, none, 5004, 5, 1⟩] (by kernel_rfl), ?_⟩
 exact k3 (K_impl_Unseal _ b at_) (show ([]) = ((unsealB b at_).1) from by rw [unseal_no (by assumption)]) (show (0) = ((unsealB b at_).2.1) from by rw [unseal_no (by assumption)]) (show (1) = ((unsealB b at_).2.2) from by rw [unseal_no (by assumption)]) (KF.n [(5004, 0)])
def K_impl_reader_num (rs : List ResultVar) (r : Rd) (w0_ : Int) (w1_ : Rd) : Exit → Sg → Prop := KF Try.prog 1 rs (.int .i64 w0_) [.box 70 [.sl false 1 (w1_.b.map encU8), .int .i64 w1_.at_, .bool w1_.bad]]
theorem impl_reader_num_spec  (r : Rd) (hr : RdOk r) : FnSpec Try.prog 46 [.ptr 0 0 0] [.box 70 [.sl false 1 (r.b.map encU8), .int .i64 r.at_, .bool r.bad]] (.int .i64 ((rdNum r).2)) [.box 70 [.sl false 1 ((((rdNum r).1).b).map encU8), .int .i64 (((rdNum r).1).at_), .bool (((rdNum r).1).bad)]] := by
 obtain ⟨r1, r2, r3⟩ := id hr
 have hgn := getN_num r.b (at_ := r.at_)
 refine FnSpec.of 35 Try.func46 rfl Try.ntmps46 (by simp) (AW.weakK ?_)
 refine AW.q 1 ?_
 refine AW.seq ?_
 refine AW.gD Try_mix ?_
 refine At.a 8 ?_
 refine At.c (impl_GetNum_spec  r.b r.at_ r1 (by omega)) Try.call76 true [] [] [] trivial ?_
 refine At.zD 7 ?_
 refine AW.seq ?_
 refine AW.r ?_
 refine At.a 5 ?_
 by_cases h1 : r.bad = true
 · refine At.sB 23 r.bad true (sayB h1) ?_
   refine At.z 3 ?_
   refine AW.cond true (by kernel_rfl) (fun _ => ?_) (fun h => by cases h)
   refine AW.q 4 ?_
   refine AW.q 1 ?_
   exact AW.ret (rf (k2 (K_impl_reader_num _ r) (show (0) = ((rdNum r).2) from by simp [rdNum, h1]) (show ((⟨r.b, r.at_, true⟩ : Rd)) = ((rdNum r).1) from by simp [rdNum, h1]) (KF.n [(0, 0)])))
 refine At.sB 23 r.bad false (sayB (Bool.eq_false_iff.2 h1)) ?_
 replace h1 := Bool.eq_false_iff.2 h1
 refine At.z 3 ?_
 refine AW.cNB ((getN r.b r.at_).2.2) (fun h2 => ?_) (fun h2 => ?_)
 · refine AW.q 4 ?_
   refine AW.q 1 ?_
   exact AW.ret (rf (k2 (K_impl_reader_num _ r) (show (0) = ((rdNum r).2) from by simp [rdNum, h1, h2]) (show ((⟨r.b, r.at_, true⟩ : Rd)) = ((rdNum r).1) from by simp [rdNum, h1, h2]) (KF.n [(0, 0)])))
 refine AW.skip ?_
 refine AW.q 5 ?_
 refine AW.q 2 ?_
 exact AW.ret (rf (k2 (K_impl_reader_num _ r) (show ((getN r.b r.at_).1) = ((rdNum r).2) from by simp [rdNum, h1, h2]) (show ((⟨r.b, (getN r.b r.at_).2.1, r.bad⟩ : Rd)) = ((rdNum r).1) from by simp [rdNum, h1, h2]) (KF.n [(0, 0)])))
def K_impl_reader_bytes (rs : List ResultVar) (r : Rd) (n : Int) (w0_ : ByteArray) (w1_ : Rd) : Exit → Sg → Prop := KF Try.prog 1 rs (.str w0_) [.box 70 [.sl false 1 (w1_.b.map encU8), .int .i64 w1_.at_, .bool w1_.bad]]
theorem impl_reader_bytes_spec  (r : Rd) (n : Int) (hr : RdOk r) (hn : 0 ≤ n) : FnSpec Try.prog 92 [.ptr 0 0 0, .int .i64 n] [.box 70 [.sl false 1 (r.b.map encU8), .int .i64 r.at_, .bool r.bad]] (.str ((rdBytes r n).2)) [.box 70 [.sl false 1 ((((rdBytes r n).1).b).map encU8), .int .i64 (((rdBytes r n).1).at_), .bool (((rdBytes r n).1).bad)]] := by
 obtain ⟨r1, r2, r3⟩ := id hr
 have hgn := getN_num r.b (at_ := r.at_)
 refine FnSpec.of 50 Try.func92 rfl Try.ntmps92 (by simp) (AW.weakK ?_)
 refine AW.q 1 ?_
 refine AW.seq ?_
 refine AW.seq ?_
 refine AW.gD Try_mix ?_
 refine At.a 5 ?_
 by_cases h1 : r.bad = true
 · refine At.sB 9 r.bad true (sayB h1) ?_
   refine At.zD 13 ?_
   refine AW.cond true (by kernel_rfl) (fun _ => ?_) (fun h => by cases h)
   refine AW.q 4 ?_
   refine AW.q 1 ?_
   exact AW.ret (rf (k2 (K_impl_reader_bytes _ r n) (show ((⟨#[]⟩ : ByteArray)) = ((rdBytes r n).2) from by simp [rdBytes, subB, h1] <;> (rw [show (r.at_ + n).toNat - r.at_.toNat = n.toNat by omega])) (show ((⟨r.b, r.at_, true⟩ : Rd)) = ((rdBytes r n).1) from by simp [rdBytes, subB, h1] <;> (rw [show (r.at_ + n).toNat - r.at_.toNat = n.toNat by omega])) (KF.n [(0, 0)])))
 refine At.sB 9 r.bad false (sayB (Bool.eq_false_iff.2 h1)) ?_
 replace h1 := Bool.eq_false_iff.2 h1
 refine At.a 6 ?_
 refine At.sL 15 encU8 r.b ?_
 refine At.a 5 ?_
 refine At.sI 20 ((r.b.length : Int) - r.at_) (by omega) ?_
 refine At.zD 2 ?_
 refine AW.cD (n > ((r.b.length : Int) - r.at_)) (fun h2 => ?_) (fun h2 => ?_)
 · refine AW.q 4 ?_
   refine AW.q 1 ?_
   exact AW.ret (rf (k2 (K_impl_reader_bytes _ r n) (show ((⟨#[]⟩ : ByteArray)) = ((rdBytes r n).2) from by simp [rdBytes, subB, h1, h2] <;> (rw [show (r.at_ + n).toNat - r.at_.toNat = n.toNat by omega])) (show ((⟨r.b, r.at_, true⟩ : Rd)) = ((rdBytes r n).1) from by simp [rdBytes, subB, h1, h2] <;> (rw [show (r.at_ + n).toNat - r.at_.toNat = n.toNat by omega])) (KF.n [(0, 0)])))
 refine AW.skip ?_
 refine AW.r ?_
 refine At.a 6 ?_
 refine At.sI 31 (r.at_ + n) (by omega) ?_
 refine At.z 3 ?_
 refine AW.seq ?_
 refine AW.gD Try_mix ?_
 refine At.a 10 ?_
 refine At.sI 43 ((r.at_ + n) - n) (by omega) ?_
 refine At.a 4 ?_
 refine At.sliceSl (t := 28) (d := 48) (e := 5) (es := 1) (x := .tmp 37) (lx := some (.tmp 43)) (hx := some (.tmp 47)) (p := false) (xs := (r.b.map encU8)) (vl := .int .i64 ((r.at_ + n) - n)) (vh := .int .i64 (r.at_ + n)) (((r.at_ + n) - n).toNat) ((r.at_ + n).toNat) (((r.b.drop (((r.at_ + n) - n).toNat)).take (((r.at_ + n).toNat) - (((r.at_ + n) - n).toNat))).map encU8) (by kernel_rfl) (by kernel_rfl) (by kernel_rfl) (by kernel_rfl) (.inr ⟨_, _, rfl, sayNat (by omega)⟩) (.inr ⟨_, _, rfl, sayNat (by omega)⟩) (by omega) (by simp only [List.length_map]; omega) (by simp [List.map_take, List.map_drop]) ?_
 refine At.b2s (s := 28) (t := 9) (e := 5) (d := 49) (x := .tmp 48) (T := .sl false 1 (((r.b.drop (((r.at_ + n) - n).toNat)).take (((r.at_ + n).toNat) - (((r.at_ + n) - n).toNat))).map encU8)) ((r.b.drop (((r.at_ + n) - n).toNat)).take (((r.at_ + n).toNat) - (((r.at_ + n) - n).toNat))) [] (by kernel_rfl) (by kernel_rfl) (by kernel_rfl) (by kernel_rfl) ⟨rfl, rfl, (allP_encU8 _), rfl⟩ ?_
 refine At.zD 1 ?_
 exact AW.ret (rf (k2 (K_impl_reader_bytes _ r n) (show (strOf ((r.b.drop (((r.at_ + n) - n).toNat)).take (((r.at_ + n).toNat) - (((r.at_ + n) - n).toNat)))) = ((rdBytes r n).2) from by simp [rdBytes, subB, h1, h2] <;> (rw [show (r.at_ + n).toNat - r.at_.toNat = n.toNat by omega])) (show ((⟨r.b, r.at_ + n, r.bad⟩ : Rd)) = ((rdBytes r n).1) from by simp [rdBytes, subB, h1, h2] <;> (rw [show (r.at_ + n).toNat - r.at_.toNat = n.toNat by omega])) (KF.n [(0, 0)])))
end Go.Proofs.Ythjmbojkpkbedaa
