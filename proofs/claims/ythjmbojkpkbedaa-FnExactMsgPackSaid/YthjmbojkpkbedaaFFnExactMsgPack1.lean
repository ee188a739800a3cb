/- The contracts of the functions that FnExactMsgPack reaches (each: what it answers, said over values), printed by a program of this session (wip/sy/g/gen.py). -/
import Derived.Test.YthjmbojkpkbedaaSXMsgPackMb
import Derived.Test.YthjmbojkpkbedaaProg
set_option linter.unusedVariables false
set_option linter.unusedSimpArgs false
set_option maxRecDepth 100000
set_option maxHeartbeats 4000000
namespace Go.Proofs.Ythjmbojkpkbedaa
open Go Go.Sy Go.Proofs
def encOut (o : Out) : V := encOutWith (.own 56 6 (o.msg.entries.map encEnt)) o
theorem frzOut (l : List Out) : FrzIs (l.map encOut) (l.map encOutV) := frzOf _ (fun _ => ⟨rfl, frz17 _⟩)
theorem frzOutT (l : List Out) : FrzT (l.map encOut) (l.map encOutT) := frzTOf _ (fun o => ⟨rfl, frzT17 o⟩)
theorem Try_mix : Try.prog.follows .mixedOrders = true := by kernel_rfl
theorem laws_szCmd_spec  (a : Cmd) (left : Int) (h0 : 0 ≤ left ∧ left ≤ 1048576) (hd : (a.digest.size : Int) ≤ big) : FnSpec Try.prog 26 [.agg [.int .i64 a.kind, .int .i64 a.release, .int .i64 a.node, .int .i64 a.size, .str a.digest], .int .i64 left] [] (.int .i64 (szB left a.digest.size)) [] := by
 unfold big at hd
 refine FnSpec.of 13 Try.func26 rfl Try.ntmps26 (by simp) (AW.weakK ?_)
 refine AW.q 2 ?_
 refine AW.r ?_
 refine At.a 5 ?_
 refine At.sI 9 (left - (a.digest.size : Int)) (by omega) ?_
 refine At.z 1 ?_
 refine AW.seq ?_
 refine AW.q 2 ?_
 refine AW.cD ((left - (a.digest.size : Int)) < 0) (fun h1 => ?_) (fun h1 => ?_)
 · refine AW.q 1 ?_
   refine AW.ret ?_
   refine ⟨_, Sub.refl _ _, ?_⟩
   refine KF.conv (fun w => .int .i64 w) (fun w => []) (show (-1) = (szB left a.digest.size) from by unfold szB; omega) ?_
   exact KF.n []
 refine AW.skip ?_
 refine AW.q 2 ?_
 refine AW.ret ?_
 refine ⟨_, Sub.refl _ _, ?_⟩
 refine KF.conv (fun w => .int .i64 w) (fun w => []) (show (left - (a.digest.size : Int)) = (szB left a.digest.size) from by unfold szB; omega) ?_
 exact KF.n []
theorem laws_szEntry_spec  (a : Ent) (left : Int) (h0 : 0 ≤ left ∧ left ≤ 1048576) (hd : (a.cmd.digest.size : Int) ≤ big) : FnSpec Try.prog 62 [.agg [.int .i64 a.term, .int .i64 a.cmd.kind, .int .i64 a.cmd.release, .int .i64 a.cmd.node, .int .i64 a.cmd.size, .str a.cmd.digest], .int .i64 left] [] (.int .i64 (szB left a.cmd.digest.size)) [] := by
 refine FnSpec.of 12 Try.func62 rfl Try.ntmps62 (by simp) (AW.weakK ?_)
 refine AW.q 2 ?_
 refine AW.r ?_
 refine At.a 3 ?_
 refine At.c (laws_szCmd_spec  a.cmd left (by omega) (by omega)) Try.call26 true [] [] [] trivial ?_
 refine At.z 1 ?_
 refine AW.seq ?_
 refine AW.q 2 ?_
 refine AW.cD ((szB left a.cmd.digest.size) < 0) (fun h1 => ?_) (fun h1 => ?_)
 · refine AW.q 1 ?_
   refine AW.ret ?_
   refine ⟨_, Sub.refl _ _, ?_⟩
   refine KF.conv (fun w => .int .i64 w) (fun w => []) (show (-1) = (szB left a.cmd.digest.size) from by have := szB_cases left a.cmd.digest.size; omega) ?_
   exact KF.n []
 have h1s := szB_small h1
 refine AW.skip ?_
 refine AW.q 2 ?_
 exact AW.ret (rf (KF.n []))
theorem laws_szEntryS_spec  (a : List Ent) (left : Int) (h0 : 0 ≤ left ∧ left ≤ 1048576) (hd : BigE a) : FnSpec Try.prog 27 [.sl false 6 (a.map encEnt), .int .i64 left] [] (.int .i64 (szEnts a left)) [] := by
 obtain ⟨hd1, hd2⟩ := id hd
 unfold big at hd1
 refine FnSpec.of 27 Try.func27 rfl Try.ntmps27 (by simp) (AW.weakK ?_)
 refine AW.q 1 ?_
 refine AW.r ?_
 refine At.a 3 ?_
 refine At.sL 8 encEnt a ?_
 refine At.a 1 ?_
 refine At.sI 9 (left - (a.length : Int)) (by omega) ?_
 refine At.z 1 ?_
 refine AW.seq ?_
 refine AW.q 2 ?_
 refine AW.cD ((left - (a.length : Int)) < 0) (fun h1 => ?_) (fun h1 => ?_)
 · refine AW.q 1 ?_
   refine AW.ret ?_
   refine ⟨_, Sub.refl _ _, ?_⟩
   refine KF.conv (fun w => .int .i64 w) (fun w => []) (show (-1) = (szEnts a left) from by unfold szEnts; rw [if_pos (by omega)]) ?_
   exact KF.n []
 refine AW.skip ?_
 refine AW.seq ?_
 refine AW.q 1 ?_
 refine AW.block ?_
 refine AW.loopW (fun (x : Nat × Int) => match x with | (k, lf) => Go.Sy.mk [.sl false 6 (a.map encEnt), .int .i64 lf, .un, .un, .un, .int .i64 (k : Int)] []) (fun (x : Nat × Int) => match x with | (k, lf) => k ≤ a.length ∧ 0 ≤ lf ∧ lf ≤ 1048576 ∧ szEnts a left = szGo (a.drop k) lf) (fun (x : Nat × Int) => match x with | (k, lf) => a.length - k) (0, left - (a.length : Int)) ⟨by omega, by omega, by omega, by unfold szEnts; rw [if_neg (by omega)]; rfl⟩ (Sub.o [] [true, true, false, false, false, true]) ?_
 rintro ⟨k, lf⟩ ⟨hk, hl0, hl1, hR⟩
 refine AW.seq ?_
 refine AW.r ?_
 refine At.a 3 ?_
 refine At.sL 14 encEnt a ?_
 refine At.z 1 ?_
 refine AW.cD ((k : Int) < (a.length : Int)) (fun h2 => ?_) (fun h2 => ?_)
 · refine AW.skip ?_
   refine AW.seq ?_
   refine AW.block ?_
   refine AW.r ?_
   refine At.a 2 ?_
   refine At.iSl 24 20 (.tmp 18) (.tmp 19) false 6 (a.map encEnt) .i64 (k : Int) 89 (by omega) (by simp only [List.length_map]; omega) ?_
   refine Exists.elim (gE a k (by omega)) fun e1 he1 => ?_
   refine At.lVp 89 21 (.tmp 20) false 6 (a.map encEnt) k 0 true 6 (encEnt e1) (.agg [.int .i64 e1.term, .int .i64 e1.cmd.kind, .int .i64 e1.cmd.release, .int .i64 e1.cmd.node, .int .i64 e1.cmd.size, .str e1.cmd.digest]) (mapGet he1) ?_
   refine At.a 1 ?_
   refine At.c (laws_szEntry_spec  e1 lf (by omega) (hd2 _ (List.mem_of_getElem? he1))) Try.call62 true [] [] [] trivial ?_
   refine At.z 1 ?_
   refine AW.q 2 ?_
   refine AW.cD ((szB lf e1.cmd.digest.size) < 0) (fun h3 => ?_) (fun h3 => ?_)
   · refine AW.q 1 ?_
     refine AW.ret ?_
     refine ⟨_, Sub.refl _ _, ?_⟩
     refine KF.conv (fun w => .int .i64 w) (fun w => []) (show (-1) = (szEnts a left) from by rw [hR, dropCons he1, szGo]; have := szB_cases lf e1.cmd.digest.size; rw [if_pos (by omega)]) ?_
     exact KF.n []
   have h3s := szB_small h3
   refine AW.skip ?_
   refine AW.g ?_
   refine At.a 2 ?_
   refine At.sI 17 ((k : Int) + 1) (by omega) ?_
   refine At.z 1 ?_
   exact ⟨(k + 1, szB lf e1.cmd.digest.size), ⟨by omega, by have := szB_cases lf e1.cmd.digest.size; omega, by have := szB_cases lf e1.cmd.digest.size; omega, by have := szB_cases lf e1.cmd.digest.size; rw [hR, dropCons he1, szGo, if_neg (by omega)]; congr 1; omega⟩, by simp only; omega, Sub.o [] [true, true, false, false, false, true]⟩
 refine AW.exit ?_
 refine AW.q 2 ?_
 refine AW.ret ?_
 refine ⟨_, Sub.refl _ _, ?_⟩
 refine KF.conv (fun w => .int .i64 w) (fun w => []) (show (lf) = (szEnts a left) from by rw [hR, List.drop_of_length_le (by omega)]; rfl) ?_
 exact KF.n []
theorem laws_szMsg_spec  (a : Msg) (left : Int) (h0 : 0 ≤ left ∧ left ≤ 1048576) (hd : BigM a) : FnSpec Try.prog 6 [(msgA a), .int .i64 left] [] (.int .i64 (szMsg a left)) [] := by
 obtain ⟨d1, d2, d3⟩ := id hd
 unfold big at d1
 refine FnSpec.of 25 Try.func6 rfl Try.ntmps6 (by simp) (AW.weakK ?_)
 refine AW.q 2 ?_
 refine AW.r ?_
 refine At.a 5 ?_
 refine At.sI 9 (left - (a.bytes.size : Int)) (by omega) ?_
 refine At.z 1 ?_
 refine AW.seq ?_
 refine AW.q 2 ?_
 refine AW.cD ((left - (a.bytes.size : Int)) < 0) (fun h1 => ?_) (fun h1 => ?_)
 · refine AW.q 1 ?_
   refine AW.ret ?_
   refine ⟨_, Sub.refl _ _, ?_⟩
   refine KF.conv (fun w => .int .i64 w) (fun w => []) (show (-1) = (szMsg a left) from by have q1 := szB_cases left a.bytes.size; unfold szMsg; first | (rw [if_pos (by omega)]; done) | (rw [if_neg (by omega), show szB left a.bytes.size = left - a.bytes.size from by omega]; first | (rw [if_pos (by assumption)]; done) | (rw [if_neg (by assumption)]; done) | (rw [if_neg (by assumption)]; exact (szEnts_neg (by assumption)).symm))) ?_
   exact KF.n []
 refine AW.skip ?_
 refine AW.r ?_
 refine At.a 3 ?_
 refine At.c (laws_szCmd_spec  a.cmd (left - (a.bytes.size : Int)) (by omega) d2) Try.call26 true [] [] [] trivial ?_
 refine At.z 1 ?_
 refine AW.seq ?_
 refine AW.q 2 ?_
 refine AW.cD ((szB (left - (a.bytes.size : Int)) a.cmd.digest.size) < 0) (fun h2 => ?_) (fun h2 => ?_)
 · refine AW.q 1 ?_
   refine AW.ret ?_
   refine ⟨_, Sub.refl _ _, ?_⟩
   refine KF.conv (fun w => .int .i64 w) (fun w => []) (show (-1) = (szMsg a left) from by have q1 := szB_cases left a.bytes.size; unfold szMsg; first | (rw [if_pos (by omega)]; done) | (rw [if_neg (by omega), show szB left a.bytes.size = left - a.bytes.size from by omega]; first | (rw [if_pos (by assumption)]; done) | (rw [if_neg (by assumption)]; done) | (rw [if_neg (by assumption)]; exact (szEnts_neg (by assumption)).symm))) ?_
   exact KF.n []
 have h2s := szB_small h2
 refine AW.skip ?_
 refine AW.r ?_
 refine At.a 3 ?_
 refine At.c (laws_szEntryS_spec  a.entries (szB (left - (a.bytes.size : Int)) a.cmd.digest.size) (by omega) d3) Try.call27 true [] [] [] trivial ?_
 refine At.z 1 ?_
 refine AW.seq ?_
 refine AW.q 2 ?_
 refine AW.cD ((szEnts a.entries (szB (left - (a.bytes.size : Int)) a.cmd.digest.size)) < 0) (fun h3 => ?_) (fun h3 => ?_)
 · refine AW.q 1 ?_
   refine AW.ret ?_
   refine ⟨_, Sub.refl _ _, ?_⟩
   refine KF.conv (fun w => .int .i64 w) (fun w => []) (show (-1) = (szMsg a left) from by have q1 := szB_cases left a.bytes.size; unfold szMsg; first | (rw [if_pos (by omega)]; done) | (rw [if_neg (by omega), show szB left a.bytes.size = left - a.bytes.size from by omega]; first | (rw [if_pos (by assumption)]; done) | (rw [if_neg (by assumption)]; done) | (rw [if_neg (by assumption)]; exact (szEnts_neg (by assumption)).symm))) ?_
   exact KF.n []
 have h3s := szEnts_small h3
 refine AW.skip ?_
 refine AW.q 2 ?_
 refine AW.ret ?_
 refine ⟨_, Sub.refl _ _, ?_⟩
 refine KF.conv (fun w => .int .i64 w) (fun w => []) (show (szEnts a.entries (szB (left - (a.bytes.size : Int)) a.cmd.digest.size)) = (szMsg a left) from by have q1 := szB_cases left a.bytes.size; unfold szMsg; first | (rw [if_pos (by omega)]; done) | (rw [if_neg (by omega), show szB left a.bytes.size = left - a.bytes.size from by omega]; first | (rw [if_pos (by assumption)]; done) | (rw [if_neg (by assumption)]; done) | (rw [if_neg (by assumption)]; exact (szEnts_neg (by assumption)).symm))) ?_
 exact KF.n []
theorem laws_toCmd_spec  (a : Cmd) : FnSpec Try.prog 33 [.agg [.int .i64 a.kind, .int .i64 a.release, .int .i64 a.node, .int .i64 a.size, .str a.digest]] [] (.agg [.int .i64 a.kind, .int .i64 a.release, .int .i64 a.node, .int .i64 a.size, .str a.digest]) [] := by
 refine FnSpec.of 20 Try.func33 rfl Try.ntmps33 (by simp) (AW.weakK ?_)
 refine AW.q 2 ?_
 refine AW.q 1 ?_
 refine AW.q 4 ?_
 refine AW.q 4 ?_
 refine AW.q 4 ?_
 refine AW.q 4 ?_
 refine AW.q 4 ?_
 refine AW.q 2 ?_
 exact AW.ret (rf (KF.n []))
theorem laws_toEntry_spec  (a : Ent) : FnSpec Try.prog 65 [.agg [.int .i64 a.term, .int .i64 a.cmd.kind, .int .i64 a.cmd.release, .int .i64 a.cmd.node, .int .i64 a.cmd.size, .str a.cmd.digest]] [] (.agg [.int .i64 a.term, .int .i64 a.cmd.kind, .int .i64 a.cmd.release, .int .i64 a.cmd.node, .int .i64 a.cmd.size, .str a.cmd.digest]) [] := by
 refine FnSpec.of 12 Try.func65 rfl Try.ntmps65 (by simp) (AW.weakK ?_)
 refine AW.q 2 ?_
 refine AW.q 1 ?_
 refine AW.q 4 ?_
 refine AW.r ?_
 refine At.a 2 ?_
 refine At.c (laws_toCmd_spec  a.cmd ) Try.call33 true [] [] [] trivial ?_
 refine At.z 2 ?_
 refine AW.q 2 ?_
 exact AW.ret (rf (KF.n []))
theorem laws_toEntryS_spec  (a : List Ent) (ha : a.length ≤ 1048576) : FnSpec Try.prog 34 [.sl false 6 (a.map encEnt)] [] (.ref 0) [.arr 56 6 (a.map encEnt)] := by
 refine FnSpec.of 23 Try.func34 rfl Try.ntmps34 (by simp) (AW.weakK ?_)
 refine AW.q 1 ?_
 refine AW.r ?_
 refine At.a 2 ?_
 refine At.sL 6 encEnt a ?_
 refine At.make (t := 32) (d := 7) (e := 56) (es := 6) (bytes := 56) (x := .tmp 6) (y := .tmp 6) (ka := .i64) (kb := .i64) (zs := [.int .i64 0, .int .i64 0, .int .i64 0, .int .i64 0, .int .i64 0, .str (⟨#[]⟩ : ByteArray)]) 107 a.length ((List.replicate a.length (⟨0, ⟨0, 0, 0, 0, (⟨#[]⟩ : ByteArray)⟩⟩ : Ent)).map encEnt) (by kernel_rfl) (by kernel_rfl) (by kernel_rfl) (by kernel_rfl) (by kernel_rfl) (by omega) (by omega) (by rw [List.map_replicate]; rfl) ?_
 refine At.z 1 ?_
 refine AW.seq ?_
 refine AW.q 1 ?_
 refine AW.block ?_
 refine AW.loopW (fun (k : Nat) => Go.Sy.mk [.sl false 6 (a.map encEnt), .un, .un, .ref 107, .int .i64 (k : Int)] [(107, .arr 56 6 ((a.take k ++ List.replicate (a.length - k) zEnt).map encEnt))]) (fun (k : Nat) => k ≤ a.length) (fun (k : Nat) => a.length - k) 0 (by omega) (Sub.o [(107, 107)] [true, false, false, true, true]) ?_
 rintro k hk
 refine AW.seq ?_
 refine AW.r ?_
 refine At.a 3 ?_
 refine At.sL 10 encEnt a ?_
 refine At.z 1 ?_
 refine AW.cD ((k : Int) < (a.length : Int)) (fun h1 => ?_) (fun h1 => ?_)
 · refine AW.skip ?_
   refine AW.seq ?_
   refine AW.block ?_
   refine AW.g ?_
   refine At.a 4 ?_
   refine At.iSl 24 18 (.tmp 16) (.tmp 17) false 6 (a.map encEnt) .i64 (k : Int) 89 (by omega) (by simp only [List.length_map]; omega) ?_
   refine Exists.elim (gE a k (by omega)) fun e1 he1 => ?_
   refine At.lVp 89 19 (.tmp 18) false 6 (a.map encEnt) k 0 true 6 (encEnt e1) (.agg [.int .i64 e1.term, .int .i64 e1.cmd.kind, .int .i64 e1.cmd.release, .int .i64 e1.cmd.node, .int .i64 e1.cmd.size, .str e1.cmd.digest]) (mapGet he1) ?_
   refine At.c (laws_toEntry_spec  e1 ) Try.call65 true [] [] [] trivial ?_
   refine At.iRf 32 21 (.tmp 14) (.tmp 15) 107 ((a.take k ++ List.replicate (a.length - k) zEnt).map encEnt) .i64 (k : Int) 56 6 (by omega) (by simp only [List.length_map, List.length_append, List.length_take, List.length_drop, List.length_replicate, List.length_set, List.length_cons, List.length_nil]; omega) ?_
   refine Exists.elim (gE (a.take k ++ List.replicate (a.length - k) zEnt) k (by simp only [List.length_map, List.length_append, List.length_take, List.length_drop, List.length_replicate, List.length_set, List.length_cons, List.length_nil]; omega)) fun e2 he2 => ?_
   refine At.sEl 56 107 56 6 k 0 (.tmp 21) (.tmp 20) ((a.take k ++ List.replicate (a.length - k) zEnt).map encEnt) ((a.take (k + 1) ++ List.replicate (a.length - (k + 1)) zEnt).map encEnt) [.int .i64 e1.term, .int .i64 e1.cmd.kind, .int .i64 e1.cmd.release, .int .i64 e1.cmd.node, .int .i64 e1.cmd.size, .str e1.cmd.digest] (.agg [.int .i64 e1.term, .int .i64 e1.cmd.kind, .int .i64 e1.cmd.release, .int .i64 e1.cmd.node, .int .i64 e1.cmd.size, .str e1.cmd.digest]) (encEnt e2) (encEnt e1) (mapGet he2) (stepToV (by assumption)) ?_
   refine At.done rfl ?_
   refine AW.g ?_
   refine At.a 2 ?_
   refine At.sI 13 ((k : Int) + 1) (by omega) ?_
   refine At.z 1 ?_
   exact ⟨k + 1, (by omega), (by omega), Sub.o [(107, 107)] [true, false, false, true, true]⟩
 refine AW.exit ?_
 refine AW.q 2 ?_
 refine AW.ret ?_
 refine ⟨_, Sub.refl _ _, ?_⟩
 refine KF.conv (fun w => .ref 0) (fun w => [.arr 56 6 (w.map encEnt)]) (show (a.take k ++ List.replicate (a.length - k) zEnt) = (a) from endTo (by omega)) ?_
 exact KF.n [(107, 0)]
theorem laws_toMsg_spec  (a : Msg) (hl : a.entries.length ≤ 1048576) : FnSpec Try.prog 8 [(msgA a)] [] (.agg [.int .i64 a.kind, .int .i64 a.from_, .int .i64 a.term, .int .i64 a.at_, .int .i64 a.atTerm, .int .i64 a.commit, .bool a.yes, .int .i64 a.release, .int .i64 a.part, .str a.bytes, .int .i64 a.cmd.kind, .int .i64 a.cmd.release, .int .i64 a.cmd.node, .int .i64 a.cmd.size, .str a.cmd.digest, .ref 0]) [.arr 56 6 (a.entries.map encEnt)] := by
 refine FnSpec.of 43 Try.func8 rfl Try.ntmps8 (by simp) (AW.weakK ?_)
 refine AW.q 2 ?_
 refine AW.seq ?_
 refine AW.weak (Sub.nils [⟨true, 102, some 15, 5001, 56, 6⟩] (by kernel_rfl)) ?_
 refine AW.gq 1 ?_
 refine AW.seq ?_
 refine AW.weak (Sub.nils [⟨true, 103, some 15, 5002, 56, 6⟩] (by kernel_rfl)) ?_
 refine AW.gq 4 ?_
 refine AW.q 4 ?_
 refine AW.q 4 ?_
 refine AW.q 4 ?_
 refine AW.q 4 ?_
 refine AW.q 4 ?_
 refine AW.q 4 ?_
 refine AW.q 4 ?_
 refine AW.q 4 ?_
 refine AW.q 4 ?_
 refine AW.r ?_
 refine At.a 2 ?_
 refine At.c (laws_toCmd_spec  a.cmd ) Try.call33 true [] [] [] trivial ?_
 refine At.z 2 ?_
 refine AW.r ?_
 refine At.a 2 ?_
 refine At.c (laws_toEntryS_spec  a.entries (by omega)) Try.call34 true [] [(1800, 0)] [] trivial ?_
 refine At.z 2 ?_
 refine AW.q 2 ?_
 exact AW.ret (rf (KF.n [(1800, 0)]))
theorem spec_l1In_spec  (x : Int) (lo : Int) (hi : Int) : FnSpec Try.prog 63 [.int .i64 x, .int .i64 lo, .int .i64 hi] [] (.bool (inR x lo hi)) [] := by
 refine FnSpec.of 15 Try.func63 rfl Try.ntmps63 (by simp) (AW.weakK ?_)
 refine AW.q 1 ?_
 refine AW.r ?_
 refine At.a 4 ?_
 by_cases h1 : x ≥ lo
 · refine At.sB 10 _ _ (sayT h1) ?_
   refine At.z 5 ?_
   refine AW.ret ?_
   refine ⟨_, Sub.refl _ _, ?_⟩
   refine KF.conv (fun w => .bool w) (fun w => []) (show (decide (x ≤ hi)) = (inR x lo hi) from by simp [inR, *]) ?_
   exact KF.n []
 refine At.sB 10 _ _ (sayF h1) ?_
 refine At.z 5 ?_
 refine AW.ret ?_
 refine ⟨_, Sub.refl _ _, ?_⟩
 refine KF.conv (fun w => .bool w) (fun w => []) (show (false) = (inR x lo hi) from by simp [inR, *]) ?_
 exact KF.n []
theorem spec_l8Has_spec  (kind : Int) : FnSpec Try.prog 28 [.int .i64 kind] [] (.str (l8F kind)) [] := by
 refine FnSpec.of 10 Try.func28 rfl Try.ntmps28 (by simp) (AW.weakK ?_)
 refine AW.q 1 ?_
 refine AW.seq ?_
 refine AW.r ?_
 refine At.a 1 ?_
 refine At.c (spec_l1In_spec  kind 1 7 ) Try.call63 true [] [] [] trivial ?_
 refine At.z 1 ?_
 refine AW.cNB (inR kind 1 7) (fun h1 => ?_) (fun h1 => ?_)
 · refine AW.q 1 ?_
   refine AW.ret ?_
   refine ⟨_, Sub.refl _ _, ?_⟩
   refine KF.conv (fun w => .str w) (fun w => []) (show ((⟨#[]⟩ : ByteArray)) = (l8F kind) from by simp [l8F, h1]; done) ?_
   exact KF.n []
 have h1i := inR_iff.1 h1
 refine AW.skip ?_
 refine AW.r ?_
 refine At.ll 6 9 1 106 (56, 6) (([(⟨#[]⟩ : ByteArray), (⟨#[102, 116, 97, 115]⟩ : ByteArray), (⟨#[102, 116, 121]⟩ : ByteArray), (⟨#[102, 116, 97, 115, 99, 101]⟩ : ByteArray), (⟨#[102, 116, 121, 97]⟩ : ByteArray), (⟨#[102, 114, 112]⟩ : ByteArray), (⟨#[102, 114, 112, 98]⟩ : ByteArray), (⟨#[102, 100]⟩ : ByteArray)]).map encS) ?_
 refine At.a 1 ?_
 refine At.iRf 91 8 (.tmp 6) (.tmp 7) 106 (([(⟨#[]⟩ : ByteArray), (⟨#[102, 116, 97, 115]⟩ : ByteArray), (⟨#[102, 116, 121]⟩ : ByteArray), (⟨#[102, 116, 97, 115, 99, 101]⟩ : ByteArray), (⟨#[102, 116, 121, 97]⟩ : ByteArray), (⟨#[102, 114, 112]⟩ : ByteArray), (⟨#[102, 114, 112, 98]⟩ : ByteArray), (⟨#[102, 100]⟩ : ByteArray)]).map encS) .i64 kind 9 1 (by omega) (by simp only [List.length_map, List.length_append, List.length_take, List.length_drop, List.length_replicate, List.length_set, List.length_cons, List.length_nil]; omega) ?_
 refine Exists.elim (gE ([(⟨#[]⟩ : ByteArray), (⟨#[102, 116, 97, 115]⟩ : ByteArray), (⟨#[102, 116, 121]⟩ : ByteArray), (⟨#[102, 116, 97, 115, 99, 101]⟩ : ByteArray), (⟨#[102, 116, 121, 97]⟩ : ByteArray), (⟨#[102, 114, 112]⟩ : ByteArray), (⟨#[102, 114, 112, 98]⟩ : ByteArray), (⟨#[102, 100]⟩ : ByteArray)]) ((kind).toNat) (by simp only [List.length_map, List.length_append, List.length_take, List.length_drop, List.length_replicate, List.length_set, List.length_cons, List.length_nil]; omega)) fun e1 he1 => ?_
 refine At.lEl 9 9 (.tmp 8) 106 9 1 (([(⟨#[]⟩ : ByteArray), (⟨#[102, 116, 97, 115]⟩ : ByteArray), (⟨#[102, 116, 121]⟩ : ByteArray), (⟨#[102, 116, 97, 115, 99, 101]⟩ : ByteArray), (⟨#[102, 116, 121, 97]⟩ : ByteArray), (⟨#[102, 114, 112]⟩ : ByteArray), (⟨#[102, 114, 112, 98]⟩ : ByteArray), (⟨#[102, 100]⟩ : ByteArray)]).map encS) ((kind).toNat) 0 false 1 (encS e1) (.str e1) (mapGet he1) ?_
 refine At.z 1 ?_
 refine AW.ret ?_
 refine ⟨_, Sub.refl _ _, ?_⟩
 refine KF.conv (fun w => .str w) (fun w => []) (show (e1) = (l8F kind) from by rw [l8F, if_pos (by assumption)]; simp only [l8L, he1, Option.getD_some]) ?_
 exact KF.n []
theorem spec_l8In_spec  (s : ByteArray) (b : UInt8) (hs : s.size ≤ 1048576) : FnSpec Try.prog 53 [.str s, .int .u8 (b.toNat : Int)] [] (.bool (hasU (b.toNat : Int) s.data.toList)) [] := by
 refine FnSpec.of 17 Try.func53 rfl Try.ntmps53 (by simp) (AW.weakK ?_)
 refine AW.q 1 ?_
 refine AW.seq ?_
 refine AW.q 1 ?_
 refine AW.block ?_
 refine AW.loopW (fun (k : Nat) => Go.Sy.mk [.str s, .int .u8 (b.toNat : Int), .un, .un, .un, .int .i64 (k : Int)] []) (fun (k : Nat) => k ≤ s.size ∧ hasU (b.toNat : Int) s.data.toList = hasU (b.toNat : Int) (s.data.toList.drop k)) (fun (k : Nat) => s.size - k) 0 ⟨by omega, by rw [List.drop_zero]⟩ (Sub.o [] [true, true, false, false, false, true]) ?_
 rintro k ⟨hk, hR⟩
 refine AW.seq ?_
 refine AW.q 4 ?_
 refine AW.cD ((k : Int) < (s.size : Int)) (fun h1 => ?_) (fun h1 => ?_)
 · refine AW.skip ?_
   refine AW.seq ?_
   refine AW.block ?_
   refine AW.r ?_
   refine At.a 2 ?_
   refine Exists.elim (show ∃ e, s.data[k]? = some e from ⟨_, Array.getElem?_eq_getElem (by show _ < s.size; omega)⟩) fun e1 he1 => ?_
   have hl1 : s.data.toList[k]? = some e1 := by simpa using he1
   refine At.idxStr (t := 9) (d := 14) (x := .tmp 12) (y := .tmp 13) (s := s) (kd := .i64) (i := (k : Int)) e1 (by kernel_rfl) (by kernel_rfl) (by kernel_rfl) (by kernel_rfl) (by omega) he1 ?_
   refine At.z 2 ?_
   refine AW.cE (e1.toNat : Int) (b.toNat : Int) (fun h2 => ?_) (fun h2 => ?_)
   · refine AW.q 1 ?_
     refine AW.ret ?_
     refine ⟨_, Sub.refl _ _, ?_⟩
     refine KF.conv (fun w => .bool w) (fun w => []) (show (true) = (hasU (b.toNat : Int) s.data.toList) from by rw [hR, dropCons hl1]; simp [hasU, h1, h2]) ?_
     exact KF.n []
   refine AW.skip ?_
   refine AW.g ?_
   refine At.a 2 ?_
   refine At.sI 11 ((k : Int) + 1) (by omega) ?_
   refine At.z 1 ?_
   exact ⟨k + 1, ⟨by omega, by rw [hR, dropCons hl1]; simp [hasU, h1, h2]⟩, (by omega), Sub.o [] [true, true, false, false, false, true]⟩
 refine AW.exit ?_
 refine AW.q 1 ?_
 refine AW.ret ?_
 refine ⟨_, Sub.refl _ _, ?_⟩
 refine KF.conv (fun w => .bool w) (fun w => []) (show (false) = (hasU (b.toNat : Int) s.data.toList) from by rw [hR, List.drop_of_length_le (by rw [Array.length_toList]; show s.size ≤ _; omega)]; rfl) ?_
 exact KF.n []
theorem spec_l8Num_spec  (has : Bool) (x : Int) (lo : Int) (hi : Int) : FnSpec Try.prog 52 [.bool has, .int .i64 x, .int .i64 lo, .int .i64 hi] [] (.bool (num8 has x lo hi)) [] := by
 refine FnSpec.of 24 Try.func52 rfl Try.ntmps52 (by simp) (AW.weakK ?_)
 refine AW.q 1 ?_
 refine AW.r ?_
 refine At.a 2 ?_
 by_cases h1 : has = true
 · refine At.sB 10 has true (sayB h1) ?_
   refine At.a 3 ?_
   refine At.c (spec_l1In_spec  x lo hi ) Try.call63 true [] [] [] trivial ?_
   refine At.a 2 ?_
   by_cases h2 : (inR x lo hi) = true
   · refine At.sB 16 (inR x lo hi) true (sayB h2) ?_
     have h2i := inR_iff.1 h2
     refine At.z 8 ?_
     refine AW.ret ?_
     refine ⟨_, Sub.refl _ _, ?_⟩
     refine KF.conv (fun w => .bool w) (fun w => []) (show (true) = (num8 has x lo hi) from by grind [num8]) ?_
     exact KF.n []
   refine At.sB 16 (inR x lo hi) false (sayB (Bool.eq_false_iff.2 h2)) ?_
   replace h2 := Bool.eq_false_iff.2 h2
   refine At.a 3 ?_
   refine At.sB 19 (!has) false (sayNF (sayB h1)) ?_
   refine At.z 5 ?_
   refine AW.ret ?_
   refine ⟨_, Sub.refl _ _, ?_⟩
   refine KF.conv (fun w => .bool w) (fun w => []) (show (false) = (num8 has x lo hi) from by grind [num8]) ?_
   exact KF.n []
 refine At.sB 10 has false (sayB (Bool.eq_false_iff.2 h1)) ?_
 replace h1 := Bool.eq_false_iff.2 h1
 refine At.a 9 ?_
 refine At.sB 19 (!has) true (sayNT (sayB h1)) ?_
 refine At.z 5 ?_
 refine AW.ret ?_
 refine ⟨_, Sub.refl _ _, ?_⟩
 refine KF.conv (fun w => .bool w) (fun w => []) (show (x == 0) = (num8 has x lo hi) from by grind [num8]) ?_
 exact KF.n []
def K_spec_CmdOk (rs : List ResultVar) (c : Cmd) (w0_ : Bool) : Exit → Sg → Prop := KF Try.prog 0 rs (.bool w0_) []
theorem spec_CmdOk_spec  (c : Cmd) : FnSpec Try.prog 54 [.agg [.int .i64 c.kind, .int .i64 c.release, .int .i64 c.node, .int .i64 c.size, .str c.digest]] [] (.bool (cmdOk c)) [] := by
 refine FnSpec.of 60 Try.func54 rfl Try.ntmps54 (by simp) (AW.weakK ?_)
 refine AW.q 2 ?_
 refine AW.q 5 ?_
 refine AW.seq ?_
 refine AW.q 3 ?_
 refine AW.cE c.kind (1 : Int) (fun h1 => ?_) (fun h1 => ?_)
 · refine AW.r ?_
   refine At.a 2 ?_
   refine At.eqA (t := 31) (u := 31) (d := 12) (op := .eql) (x := .tmp 10) (y := .tmp 11) (X := [.int .i64 c.kind, .int .i64 c.release, .int .i64 c.node, .int .i64 c.size, .str c.digest]) (Y := [.int .i64 c.kind, .int .i64 0, .int .i64 0, .int .i64 0, .str (⟨#[]⟩ : ByteArray)]) (cmdEq c (⟨c.kind, 0, 0, 0, (⟨#[]⟩ : ByteArray)⟩ : Cmd)) (by kernel_rfl) (by kernel_rfl) (by kernel_rfl) (by kernel_rfl) (by kernel_rfl) (.bool (cmdEq c (⟨c.kind, 0, 0, 0, (⟨#[]⟩ : ByteArray)⟩ : Cmd))) (.inl ⟨rfl, rfl⟩) ?_
   refine At.z 1 ?_
   exact AW.ret (rf (k1 (K_spec_CmdOk _ c) (show (cmdEq c (⟨c.kind, 0, 0, 0, (⟨#[]⟩ : ByteArray)⟩ : Cmd)) = (cmdOk c) from by (try simp only [inR_iff, inR_not] at *); rw [Bool.eq_iff_iff]; simp only [cmdOk, cmdEq, noBytes]; (repeat' split) <;> (try simp [inR_iff]) <;> grind) (KF.n [])))
 refine AW.skip ?_
 refine AW.seq ?_
 refine AW.r ?_
 refine At.a 2 ?_
 refine At.c (spec_l1In_spec  c.kind 2 5 ) Try.call63 true [] [] [] trivial ?_
 refine At.a 2 ?_
 by_cases h2 : (inR c.kind 2 5) = true
 · refine At.sB 17 (!(inR c.kind 2 5)) false (sayNF (sayB h2)) ?_
   refine At.a 2 ?_
   refine At.c (spec_l1In_spec  c.release 1 1000 ) Try.call63 true [] [] [] trivial ?_
   refine At.z 2 ?_
   refine AW.cNB (inR c.release 1 1000) (fun h3 => ?_) (fun h3 => ?_)
   · refine AW.q 1 ?_
     exact AW.ret (rf (k1 (K_spec_CmdOk _ c) (show (false) = (cmdOk c) from by (try simp only [inR_iff, inR_not] at *); rw [Bool.eq_iff_iff]; simp only [cmdOk, cmdEq, noBytes]; (repeat' split) <;> (try simp [inR_iff]) <;> grind) (KF.n [])))
   refine AW.skip ?_
   refine AW.q 4 ?_
   refine AW.seq ?_
   refine AW.q 2 ?_
   refine AW.block ?_
   refine AW.q 2 ?_
   refine AW.cE c.kind (2 : Int) (fun h4 => ?_) (fun h4 => ?_)
   · refine AW.r ?_
     refine At.a 2 ?_
     refine At.c (spec_l1In_spec  c.size 0 1000 ) Try.call63 true [] [] [] trivial ?_
     refine At.a 1 ?_
     by_cases h5 : (inR c.size 0 1000) = true
     · refine At.sB 33 (inR c.size 0 1000) true (sayB h5) ?_
       refine At.a 6 ?_
       by_cases h6 : (c.digest.size : Int) = 32
       · refine At.sB 39 _ _ (sayET h6) ?_
         refine At.z 5 ?_
         exact AW.ret (rf (k1 (K_spec_CmdOk _ c) (show (c.node == 0) = (cmdOk c) from by (try simp only [inR_iff, inR_not] at *); rw [Bool.eq_iff_iff]; simp only [cmdOk, cmdEq, noBytes]; (repeat' split) <;> (try simp [inR_iff]) <;> grind) (KF.n [])))
       refine At.sB 39 _ _ (sayEF h6) ?_
       refine At.z 5 ?_
       exact AW.ret (rf (k1 (K_spec_CmdOk _ c) (show (false) = (cmdOk c) from by (try simp only [inR_iff, inR_not] at *); rw [Bool.eq_iff_iff]; simp only [cmdOk, cmdEq, noBytes]; (repeat' split) <;> (try simp [inR_iff]) <;> grind) (KF.n [])))
     refine At.sB 33 (inR c.size 0 1000) false (sayB (Bool.eq_false_iff.2 h5)) ?_
     replace h5 := Bool.eq_false_iff.2 h5
     refine At.z 11 ?_
     exact AW.ret (rf (k1 (K_spec_CmdOk _ c) (show (false) = (cmdOk c) from by (try simp only [inR_iff, inR_not] at *); rw [Bool.eq_iff_iff]; simp only [cmdOk, cmdEq, noBytes]; (repeat' split) <;> (try simp [inR_iff]) <;> grind) (KF.n [])))
   refine AW.q 2 ?_
   refine AW.cE c.kind (3 : Int) (fun h7 => ?_) (fun h7 => ?_)
   · refine AW.q 4 ?_
     refine AW.r ?_
     refine At.a 2 ?_
     refine At.c (spec_l1In_spec  c.node 0 4 ) Try.call63 true [] [] [] trivial ?_
     refine At.a 1 ?_
     by_cases h8 : (inR c.node 0 4) = true
     · refine At.sB 52 (inR c.node 0 4) true (sayB h8) ?_
       refine At.a 2 ?_
       refine At.eqA (t := 31) (u := 31) (d := 55) (op := .eql) (x := .tmp 53) (y := .tmp 54) (X := [.int .i64 c.kind, .int .i64 c.release, .int .i64 c.node, .int .i64 c.size, .str c.digest]) (Y := [.int .i64 c.kind, .int .i64 c.release, .int .i64 c.node, .int .i64 0, .str (⟨#[]⟩ : ByteArray)]) (cmdEq c (⟨c.kind, c.release, c.node, 0, (⟨#[]⟩ : ByteArray)⟩ : Cmd)) (by kernel_rfl) (by kernel_rfl) (by kernel_rfl) (by kernel_rfl) (by kernel_rfl) (.bool (cmdEq c (⟨c.kind, c.release, c.node, 0, (⟨#[]⟩ : ByteArray)⟩ : Cmd))) (.inl ⟨rfl, rfl⟩) ?_
       refine At.z 2 ?_
       exact AW.ret (rf (k1 (K_spec_CmdOk _ c) (show (cmdEq c (⟨c.kind, c.release, c.node, 0, (⟨#[]⟩ : ByteArray)⟩ : Cmd)) = (cmdOk c) from by (try simp only [inR_iff, inR_not] at *); rw [Bool.eq_iff_iff]; simp only [cmdOk, cmdEq, noBytes]; (repeat' split) <;> (try simp [inR_iff]) <;> grind) (KF.n [])))
     refine At.sB 52 (inR c.node 0 4) false (sayB (Bool.eq_false_iff.2 h8)) ?_
     replace h8 := Bool.eq_false_iff.2 h8
     refine At.z 5 ?_
     exact AW.ret (rf (k1 (K_spec_CmdOk _ c) (show (false) = (cmdOk c) from by (try simp only [inR_iff, inR_not] at *); rw [Bool.eq_iff_iff]; simp only [cmdOk, cmdEq, noBytes]; (repeat' split) <;> (try simp [inR_iff]) <;> grind) (KF.n [])))
   refine AW.skip ?_
   refine AW.r ?_
   refine At.a 2 ?_
   refine At.eqA (t := 31) (u := 31) (d := 59) (op := .eql) (x := .tmp 57) (y := .tmp 58) (X := [.int .i64 c.kind, .int .i64 c.release, .int .i64 c.node, .int .i64 c.size, .str c.digest]) (Y := [.int .i64 c.kind, .int .i64 c.release, .int .i64 0, .int .i64 0, .str (⟨#[]⟩ : ByteArray)]) (cmdEq c (⟨c.kind, c.release, 0, 0, (⟨#[]⟩ : ByteArray)⟩ : Cmd)) (by kernel_rfl) (by kernel_rfl) (by kernel_rfl) (by kernel_rfl) (by kernel_rfl) (.bool (cmdEq c (⟨c.kind, c.release, 0, 0, (⟨#[]⟩ : ByteArray)⟩ : Cmd))) (.inl ⟨rfl, rfl⟩) ?_
   refine At.z 1 ?_
   exact AW.ret (rf (k1 (K_spec_CmdOk _ c) (show (cmdEq c (⟨c.kind, c.release, 0, 0, (⟨#[]⟩ : ByteArray)⟩ : Cmd)) = (cmdOk c) from by (try simp only [inR_iff, inR_not] at *); rw [Bool.eq_iff_iff]; simp only [cmdOk, cmdEq, noBytes]; (repeat' split) <;> (try simp [inR_iff]) <;> grind) (KF.n [])))
 refine At.sB 17 (!(inR c.kind 2 5)) true (sayNT (sayB (Bool.eq_false_iff.2 h2))) ?_
 replace h2 := Bool.eq_false_iff.2 h2
 refine At.z 5 ?_
 refine AW.cond true (by kernel_rfl) (fun _ => ?_) (fun h => by cases h)
 refine AW.q 1 ?_
 exact AW.ret (rf (k1 (K_spec_CmdOk _ c) (show (false) = (cmdOk c) from by (try simp only [inR_iff, inR_not] at *); rw [Bool.eq_iff_iff]; simp only [cmdOk, cmdEq, noBytes]; (repeat' split) <;> (try simp [inR_iff]) <;> grind) (KF.n [])))
theorem spec_l6Entry_spec  (e : Ent) : FnSpec Try.prog 55 [.agg [.int .i64 e.term, .int .i64 e.cmd.kind, .int .i64 e.cmd.release, .int .i64 e.cmd.node, .int .i64 e.cmd.size, .str e.cmd.digest]] [] (.bool (entOk e)) [] := by
 refine FnSpec.of 11 Try.func55 rfl Try.ntmps55 (by simp) (AW.weakK ?_)
 refine AW.q 2 ?_
 refine AW.r ?_
 refine At.a 2 ?_
 refine At.c (spec_l1In_spec  e.term 1 1000000000 ) Try.call63 true [] [] [] trivial ?_
 refine At.a 1 ?_
 by_cases h1 : (inR e.term 1 1000000000) = true
 · refine At.sB 6 (inR e.term 1 1000000000) true (sayB h1) ?_
   have h1i := inR_iff.1 h1
   refine At.a 2 ?_
   refine At.c (spec_CmdOk_spec  e.cmd ) Try.call54 true [] [] [] trivial ?_
   refine At.z 2 ?_
   refine AW.ret ?_
   refine ⟨_, Sub.refl _ _, ?_⟩
   refine KF.conv (fun w => .bool w) (fun w => []) (show (cmdOk e.cmd) = (entOk e) from by (try simp only [inR_iff, inR_not] at *); rw [Bool.eq_iff_iff]; simp only [entOk, noBytes]; (repeat' split) <;> (try simp [inR_iff]) <;> grind) ?_
   exact KF.n []
 refine At.sB 6 (inR e.term 1 1000000000) false (sayB (Bool.eq_false_iff.2 h1)) ?_
 replace h1 := Bool.eq_false_iff.2 h1
 refine At.z 5 ?_
 refine AW.ret ?_
 refine ⟨_, Sub.refl _ _, ?_⟩
 refine KF.conv (fun w => .bool w) (fun w => []) (show (false) = (entOk e) from by (try simp only [inR_iff, inR_not] at *); rw [Bool.eq_iff_iff]; simp only [entOk, noBytes]; (repeat' split) <;> (try simp [inR_iff]) <;> grind) ?_
 exact KF.n []
theorem spec_MsgFits_spec  (m : Msg) (hl : m.entries.length ≤ 1048576) : FnSpec Try.prog 21 [(msgA m)] [] (.bool (msgFits m)) [] := by
 refine FnSpec.of 132 Try.func21 rfl Try.ntmps21 (by simp) (AW.weakK ?_)
 refine AW.q 2 ?_
 refine AW.r ?_
 refine At.a 2 ?_
 refine At.c (spec_l8Has_spec  m.kind ) Try.call28 true [] [] [] trivial ?_
 refine At.z 1 ?_
 refine AW.seq ?_
 refine AW.seq ?_
 refine AW.cut [(101, 101)] [false, true, false, true] 50 (!(fits1 m)) ?_ ?_
 · refine AW.gD Try_mix ?_
   refine At.a 3 ?_
   by_cases h1 : (l8F m.kind).toList = (⟨#[]⟩ : ByteArray).toList
   · refine At.sB 11 _ _ (sayET h1) ?_
     refine At.a 39 ?_
     refine At.sB 50 true (!(fits1 m)) (congrArg V.bool (by simp only [noBytes] at *; grind [fits1, hasF])) ?_
     refine At.done rfl ⟨by kernel_rfl, rfl, ?_⟩
     exact Sub.cut [(101, 101)] [false, true, false, true] 50 _ (by kernel_rfl) (by kernel_rfl) (by kernel_rfl) (by kernel_rfl)
   refine At.sB 11 _ _ (sayEF h1) ?_
   refine At.a 1 ?_
   refine At.c (spec_l8In_spec  (l8F m.kind) (102 : UInt8) (l8F_small _)) Try.call53 true [] [] [] trivial ?_
   refine At.a 2 ?_
   refine At.c (spec_l8Num_spec  (hasU ((102 : UInt8).toNat : Int) (l8F m.kind).data.toList) m.from_ 0 4 ) Try.call52 true [] [] [] trivial ?_
   refine At.a 3 ?_
   by_cases h2 : (num8 (hasU ((102 : UInt8).toNat : Int) (l8F m.kind).data.toList) m.from_ 0 4) = true
   · refine At.sB 19 (!(num8 (hasU ((102 : UInt8).toNat : Int) (l8F m.kind).data.toList) m.from_ 0 4)) false (sayNF (sayB h2)) ?_
     refine At.a 1 ?_
     refine At.c (spec_l8In_spec  (l8F m.kind) (116 : UInt8) (l8F_small _)) Try.call53 true [] [] [] trivial ?_
     refine At.a 2 ?_
     refine At.c (spec_l8Num_spec  (hasU ((116 : UInt8).toNat : Int) (l8F m.kind).data.toList) m.term 0 1000000000 ) Try.call52 true [] [] [] trivial ?_
     refine At.a 3 ?_
     by_cases h3 : (num8 (hasU ((116 : UInt8).toNat : Int) (l8F m.kind).data.toList) m.term 0 1000000000) = true
     · refine At.sB 27 (!(num8 (hasU ((116 : UInt8).toNat : Int) (l8F m.kind).data.toList) m.term 0 1000000000)) false (sayNF (sayB h3)) ?_
       refine At.a 1 ?_
       refine At.c (spec_l8In_spec  (l8F m.kind) (97 : UInt8) (l8F_small _)) Try.call53 true [] [] [] trivial ?_
       refine At.a 2 ?_
       refine At.c (spec_l8Num_spec  (hasU ((97 : UInt8).toNat : Int) (l8F m.kind).data.toList) m.at_ 0 80 ) Try.call52 true [] [] [] trivial ?_
       refine At.a 3 ?_
       by_cases h4 : (num8 (hasU ((97 : UInt8).toNat : Int) (l8F m.kind).data.toList) m.at_ 0 80) = true
       · refine At.sB 35 (!(num8 (hasU ((97 : UInt8).toNat : Int) (l8F m.kind).data.toList) m.at_ 0 80)) false (sayNF (sayB h4)) ?_
         refine At.a 1 ?_
         refine At.c (spec_l8In_spec  (l8F m.kind) (115 : UInt8) (l8F_small _)) Try.call53 true [] [] [] trivial ?_
         refine At.a 2 ?_
         refine At.c (spec_l8Num_spec  (hasU ((115 : UInt8).toNat : Int) (l8F m.kind).data.toList) m.atTerm 0 1000000000 ) Try.call52 true [] [] [] trivial ?_
         refine At.a 3 ?_
         by_cases h5 : (num8 (hasU ((115 : UInt8).toNat : Int) (l8F m.kind).data.toList) m.atTerm 0 1000000000) = true
         · refine At.sB 43 (!(num8 (hasU ((115 : UInt8).toNat : Int) (l8F m.kind).data.toList) m.atTerm 0 1000000000)) false (sayNF (sayB h5)) ?_
           refine At.a 1 ?_
           refine At.c (spec_l8In_spec  (l8F m.kind) (99 : UInt8) (l8F_small _)) Try.call53 true [] [] [] trivial ?_
           refine At.a 2 ?_
           refine At.c (spec_l8Num_spec  (hasU ((99 : UInt8).toNat : Int) (l8F m.kind).data.toList) m.commit 0 80 ) Try.call52 true [] [] [] trivial ?_
           refine At.a 2 ?_
           refine At.sB 50 (!(num8 (hasU ((99 : UInt8).toNat : Int) (l8F m.kind).data.toList) m.commit 0 80)) (!(fits1 m)) (congrArg V.bool (by simp only [noBytes] at *; grind [fits1, hasF])) ?_
           refine At.done rfl ⟨by kernel_rfl, rfl, ?_⟩
           exact Sub.cut [(101, 101)] [false, true, false, true] 50 _ (by kernel_rfl) (by kernel_rfl) (by kernel_rfl) (by kernel_rfl)
         refine At.sB 43 (!(num8 (hasU ((115 : UInt8).toNat : Int) (l8F m.kind).data.toList) m.atTerm 0 1000000000)) true (sayNT (sayB (Bool.eq_false_iff.2 h5))) ?_
         replace h5 := Bool.eq_false_iff.2 h5
         refine At.a 7 ?_
         refine At.sB 50 true (!(fits1 m)) (congrArg V.bool (by simp only [noBytes] at *; grind [fits1, hasF])) ?_
         refine At.done rfl ⟨by kernel_rfl, rfl, ?_⟩
         exact Sub.cut [(101, 101)] [false, true, false, true] 50 _ (by kernel_rfl) (by kernel_rfl) (by kernel_rfl) (by kernel_rfl)
       refine At.sB 35 (!(num8 (hasU ((97 : UInt8).toNat : Int) (l8F m.kind).data.toList) m.at_ 0 80)) true (sayNT (sayB (Bool.eq_false_iff.2 h4))) ?_
       replace h4 := Bool.eq_false_iff.2 h4
       refine At.a 15 ?_
       refine At.sB 50 true (!(fits1 m)) (congrArg V.bool (by simp only [noBytes] at *; grind [fits1, hasF])) ?_
       refine At.done rfl ⟨by kernel_rfl, rfl, ?_⟩
       exact Sub.cut [(101, 101)] [false, true, false, true] 50 _ (by kernel_rfl) (by kernel_rfl) (by kernel_rfl) (by kernel_rfl)
     refine At.sB 27 (!(num8 (hasU ((116 : UInt8).toNat : Int) (l8F m.kind).data.toList) m.term 0 1000000000)) true (sayNT (sayB (Bool.eq_false_iff.2 h3))) ?_
     replace h3 := Bool.eq_false_iff.2 h3
     refine At.a 23 ?_
     refine At.sB 50 true (!(fits1 m)) (congrArg V.bool (by simp only [noBytes] at *; grind [fits1, hasF])) ?_
     refine At.done rfl ⟨by kernel_rfl, rfl, ?_⟩
     exact Sub.cut [(101, 101)] [false, true, false, true] 50 _ (by kernel_rfl) (by kernel_rfl) (by kernel_rfl) (by kernel_rfl)
   refine At.sB 19 (!(num8 (hasU ((102 : UInt8).toNat : Int) (l8F m.kind).data.toList) m.from_ 0 4)) true (sayNT (sayB (Bool.eq_false_iff.2 h2))) ?_
   replace h2 := Bool.eq_false_iff.2 h2
   refine At.a 31 ?_
   refine At.sB 50 true (!(fits1 m)) (congrArg V.bool (by simp only [noBytes] at *; grind [fits1, hasF])) ?_
   refine At.done rfl ⟨by kernel_rfl, rfl, ?_⟩
   exact Sub.cut [(101, 101)] [false, true, false, true] 50 _ (by kernel_rfl) (by kernel_rfl) (by kernel_rfl) (by kernel_rfl)
 refine AW.cNB (fits1 m) (fun h6 => ?_) (fun h6 => ?_)
 · refine AW.q 1 ?_
   refine AW.ret ?_
   refine ⟨_, Sub.refl _ _, ?_⟩
   refine KF.conv (fun w => .bool w) (fun w => []) (show (false) = (msgFits m) from by grind [msgFits]) ?_
   exact KF.n []
 refine AW.skip ?_
 refine AW.seq ?_
 refine AW.seq ?_
 refine AW.cut [(101, 101)] [false, true, false, true] 97 (!(fits2 m)) ?_ ?_
 · refine AW.gD Try_mix ?_
   refine At.a 1 ?_
   refine At.c (spec_l8In_spec  (l8F m.kind) (114 : UInt8) (l8F_small _)) Try.call53 true [] [] [] trivial ?_
   refine At.a 2 ?_
   refine At.c (spec_l8Num_spec  (hasU ((114 : UInt8).toNat : Int) (l8F m.kind).data.toList) m.release 1 1000 ) Try.call52 true [] [] [] trivial ?_
   refine At.a 2 ?_
   by_cases h7 : (num8 (hasU ((114 : UInt8).toNat : Int) (l8F m.kind).data.toList) m.release 1 1000) = true
   · refine At.sB 57 (!(num8 (hasU ((114 : UInt8).toNat : Int) (l8F m.kind).data.toList) m.release 1 1000)) false (sayNF (sayB h7)) ?_
     refine At.a 1 ?_
     refine At.c (spec_l8In_spec  (l8F m.kind) (112 : UInt8) (l8F_small _)) Try.call53 true [] [] [] trivial ?_
     refine At.a 2 ?_
     refine At.c (spec_l8Num_spec  (hasU ((112 : UInt8).toNat : Int) (l8F m.kind).data.toList) m.part 0 1000 ) Try.call52 true [] [] [] trivial ?_
     refine At.a 3 ?_
     by_cases h8 : (num8 (hasU ((112 : UInt8).toNat : Int) (l8F m.kind).data.toList) m.part 0 1000) = true
     · refine At.sB 65 (!(num8 (hasU ((112 : UInt8).toNat : Int) (l8F m.kind).data.toList) m.part 0 1000)) false (sayNF (sayB h8)) ?_
       refine At.a 3 ?_
       by_cases h9 : m.yes = true
       · refine At.sB 68 m.yes true (sayB h9) ?_
         refine At.a 1 ?_
         refine At.c (spec_l8In_spec  (l8F m.kind) (121 : UInt8) (l8F_small _)) Try.call53 true [] [] [] trivial ?_
         refine At.a 4 ?_
         by_cases h10 : (hasU ((121 : UInt8).toNat : Int) (l8F m.kind).data.toList) = true
         · refine At.sB 74 (!(hasU ((121 : UInt8).toNat : Int) (l8F m.kind).data.toList)) false (sayNF (sayB h10)) ?_
           refine At.a 1 ?_
           refine At.c (spec_l8In_spec  (l8F m.kind) (98 : UInt8) (l8F_small _)) Try.call53 true [] [] [] trivial ?_
           refine At.a 3 ?_
           refine At.c (spec_l8Num_spec  (hasU ((98 : UInt8).toNat : Int) (l8F m.kind).data.toList) (m.bytes.size : Int) 1 16 ) Try.call52 true [] [] [] trivial ?_
           refine At.a 3 ?_
           by_cases h11 : (num8 (hasU ((98 : UInt8).toNat : Int) (l8F m.kind).data.toList) (m.bytes.size : Int) 1 16) = true
           · refine At.sB 83 (!(num8 (hasU ((98 : UInt8).toNat : Int) (l8F m.kind).data.toList) (m.bytes.size : Int) 1 16)) false (sayNF (sayB h11)) ?_
             refine At.a 1 ?_
             refine At.c (spec_l8In_spec  (l8F m.kind) (101 : UInt8) (l8F_small _)) Try.call53 true [] [] [] trivial ?_
             refine At.a 1 ?_
             by_cases h12 : (hasU ((101 : UInt8).toNat : Int) (l8F m.kind).data.toList) = true
             · refine At.sB 86 (hasU ((101 : UInt8).toNat : Int) (l8F m.kind).data.toList) true (sayB h12) ?_
               refine At.a 8 ?_
               refine At.sL 94 encEnt m.entries ?_
               refine At.c (spec_l8Num_spec  true (m.entries.length : Int) 0 6 ) Try.call52 true [] [] [] trivial ?_
               refine At.a 2 ?_
               refine At.sB 97 (!(num8 true (m.entries.length : Int) 0 6)) (!(fits2 m)) (congrArg V.bool (by grind [fits2, hasF])) ?_
               refine At.done rfl ⟨by kernel_rfl, rfl, ?_⟩
               exact Sub.cut [(101, 101)] [false, true, false, true] 97 _ (by kernel_rfl) (by kernel_rfl) (by kernel_rfl) (by kernel_rfl)
             refine At.sB 86 (hasU ((101 : UInt8).toNat : Int) (l8F m.kind).data.toList) false (sayB (Bool.eq_false_iff.2 h12)) ?_
             replace h12 := Bool.eq_false_iff.2 h12
             refine At.a 3 ?_
             refine At.sL 89 encEnt m.entries ?_
             refine At.a 5 ?_
             refine At.sL 94 encEnt m.entries ?_
             refine At.c (spec_l8Num_spec  ((m.entries.length : Int) == 0) (m.entries.length : Int) 0 6 ) Try.call52 true [] [] [] trivial ?_
             refine At.a 2 ?_
             refine At.sB 97 (!(num8 ((m.entries.length : Int) == 0) (m.entries.length : Int) 0 6)) (!(fits2 m)) (congrArg V.bool (by grind [fits2, hasF])) ?_
             refine At.done rfl ⟨by kernel_rfl, rfl, ?_⟩
             exact Sub.cut [(101, 101)] [false, true, false, true] 97 _ (by kernel_rfl) (by kernel_rfl) (by kernel_rfl) (by kernel_rfl)
           refine At.sB 83 (!(num8 (hasU ((98 : UInt8).toNat : Int) (l8F m.kind).data.toList) (m.bytes.size : Int) 1 16)) true (sayNT (sayB (Bool.eq_false_iff.2 h11))) ?_
           replace h11 := Bool.eq_false_iff.2 h11
           refine At.a 14 ?_
           refine At.sB 97 true (!(fits2 m)) (congrArg V.bool (by grind [fits2, hasF])) ?_
           refine At.done rfl ⟨by kernel_rfl, rfl, ?_⟩
           exact Sub.cut [(101, 101)] [false, true, false, true] 97 _ (by kernel_rfl) (by kernel_rfl) (by kernel_rfl) (by kernel_rfl)
         refine At.sB 74 (!(hasU ((121 : UInt8).toNat : Int) (l8F m.kind).data.toList)) true (sayNT (sayB (Bool.eq_false_iff.2 h10))) ?_
         replace h10 := Bool.eq_false_iff.2 h10
         refine At.a 23 ?_
         refine At.sB 97 true (!(fits2 m)) (congrArg V.bool (by grind [fits2, hasF])) ?_
         refine At.done rfl ⟨by kernel_rfl, rfl, ?_⟩
         exact Sub.cut [(101, 101)] [false, true, false, true] 97 _ (by kernel_rfl) (by kernel_rfl) (by kernel_rfl) (by kernel_rfl)
       refine At.sB 68 m.yes false (sayB (Bool.eq_false_iff.2 h9)) ?_
       replace h9 := Bool.eq_false_iff.2 h9
       refine At.a 7 ?_
       refine At.c (spec_l8In_spec  (l8F m.kind) (98 : UInt8) (l8F_small _)) Try.call53 true [] [] [] trivial ?_
       refine At.a 3 ?_
       refine At.c (spec_l8Num_spec  (hasU ((98 : UInt8).toNat : Int) (l8F m.kind).data.toList) (m.bytes.size : Int) 1 16 ) Try.call52 true [] [] [] trivial ?_
       refine At.a 3 ?_
       by_cases h13 : (num8 (hasU ((98 : UInt8).toNat : Int) (l8F m.kind).data.toList) (m.bytes.size : Int) 1 16) = true
       · refine At.sB 83 (!(num8 (hasU ((98 : UInt8).toNat : Int) (l8F m.kind).data.toList) (m.bytes.size : Int) 1 16)) false (sayNF (sayB h13)) ?_
         refine At.a 1 ?_
         refine At.c (spec_l8In_spec  (l8F m.kind) (101 : UInt8) (l8F_small _)) Try.call53 true [] [] [] trivial ?_
         refine At.a 1 ?_
         by_cases h14 : (hasU ((101 : UInt8).toNat : Int) (l8F m.kind).data.toList) = true
         · refine At.sB 86 (hasU ((101 : UInt8).toNat : Int) (l8F m.kind).data.toList) true (sayB h14) ?_
           refine At.a 8 ?_
           refine At.sL 94 encEnt m.entries ?_
           refine At.c (spec_l8Num_spec  true (m.entries.length : Int) 0 6 ) Try.call52 true [] [] [] trivial ?_
           refine At.a 2 ?_
           refine At.sB 97 (!(num8 true (m.entries.length : Int) 0 6)) (!(fits2 m)) (congrArg V.bool (by grind [fits2, hasF])) ?_
           refine At.done rfl ⟨by kernel_rfl, rfl, ?_⟩
           exact Sub.cut [(101, 101)] [false, true, false, true] 97 _ (by kernel_rfl) (by kernel_rfl) (by kernel_rfl) (by kernel_rfl)
         refine At.sB 86 (hasU ((101 : UInt8).toNat : Int) (l8F m.kind).data.toList) false (sayB (Bool.eq_false_iff.2 h14)) ?_
         replace h14 := Bool.eq_false_iff.2 h14
         refine At.a 3 ?_
         refine At.sL 89 encEnt m.entries ?_
         refine At.a 5 ?_
         refine At.sL 94 encEnt m.entries ?_
         refine At.c (spec_l8Num_spec  ((m.entries.length : Int) == 0) (m.entries.length : Int) 0 6 ) Try.call52 true [] [] [] trivial ?_
         refine At.a 2 ?_
         refine At.sB 97 (!(num8 ((m.entries.length : Int) == 0) (m.entries.length : Int) 0 6)) (!(fits2 m)) (congrArg V.bool (by grind [fits2, hasF])) ?_
         refine At.done rfl ⟨by kernel_rfl, rfl, ?_⟩
         exact Sub.cut [(101, 101)] [false, true, false, true] 97 _ (by kernel_rfl) (by kernel_rfl) (by kernel_rfl) (by kernel_rfl)
       refine At.sB 83 (!(num8 (hasU ((98 : UInt8).toNat : Int) (l8F m.kind).data.toList) (m.bytes.size : Int) 1 16)) true (sayNT (sayB (Bool.eq_false_iff.2 h13))) ?_
       replace h13 := Bool.eq_false_iff.2 h13
       refine At.a 14 ?_
       refine At.sB 97 true (!(fits2 m)) (congrArg V.bool (by grind [fits2, hasF])) ?_
       refine At.done rfl ⟨by kernel_rfl, rfl, ?_⟩
       exact Sub.cut [(101, 101)] [false, true, false, true] 97 _ (by kernel_rfl) (by kernel_rfl) (by kernel_rfl) (by kernel_rfl)
     refine At.sB 65 (!(num8 (hasU ((112 : UInt8).toNat : Int) (l8F m.kind).data.toList) m.part 0 1000)) true (sayNT (sayB (Bool.eq_false_iff.2 h8))) ?_
     replace h8 := Bool.eq_false_iff.2 h8
     refine At.a 32 ?_
     refine At.sB 97 true (!(fits2 m)) (congrArg V.bool (by grind [fits2, hasF])) ?_
     refine At.done rfl ⟨by kernel_rfl, rfl, ?_⟩
     exact Sub.cut [(101, 101)] [false, true, false, true] 97 _ (by kernel_rfl) (by kernel_rfl) (by kernel_rfl) (by kernel_rfl)
   refine At.sB 57 (!(num8 (hasU ((114 : UInt8).toNat : Int) (l8F m.kind).data.toList) m.release 1 1000)) true (sayNT (sayB (Bool.eq_false_iff.2 h7))) ?_
   replace h7 := Bool.eq_false_iff.2 h7
   refine At.a 40 ?_
   refine At.sB 97 true (!(fits2 m)) (congrArg V.bool (by grind [fits2, hasF])) ?_
   refine At.done rfl ⟨by kernel_rfl, rfl, ?_⟩
   exact Sub.cut [(101, 101)] [false, true, false, true] 97 _ (by kernel_rfl) (by kernel_rfl) (by kernel_rfl) (by kernel_rfl)
 refine AW.cNB (fits2 m) (fun h15 => ?_) (fun h15 => ?_)
 · refine AW.q 1 ?_
   refine AW.ret ?_
   refine ⟨_, Sub.refl _ _, ?_⟩
   refine KF.conv (fun w => .bool w) (fun w => []) (show (false) = (msgFits m) from by grind [msgFits]) ?_
   exact KF.n []
 refine AW.skip ?_
 refine AW.q 3 ?_
 refine AW.seq ?_
 refine AW.seq ?_
 refine AW.cut [(101, 101), (104, 104)] [false, true] 117 (!(fits3 m)) ?_ ?_
 · refine AW.g ?_
   refine At.a 1 ?_
   refine At.c (spec_l8In_spec  (l8F m.kind) (100 : UInt8) (l8F_small _)) Try.call53 true [] [] [] trivial ?_
   refine At.a 1 ?_
   by_cases h16 : (hasU ((100 : UInt8).toNat : Int) (l8F m.kind).data.toList) = true
   · refine At.sB 101 (hasU ((100 : UInt8).toNat : Int) (l8F m.kind).data.toList) true (sayB h16) ?_
     refine At.a 2 ?_
     refine At.c (spec_CmdOk_spec  m.cmd ) Try.call54 true [] [] [] trivial ?_
     refine At.a 3 ?_
     by_cases h17 : (cmdOk m.cmd) = true
     · refine At.sB 107 (!(cmdOk m.cmd)) false (sayNF (sayB h17)) ?_
       refine At.a 1 ?_
       refine At.c (spec_l8In_spec  (l8F m.kind) (100 : UInt8) (l8F_small _)) Try.call53 true [] [] [] trivial ?_
       refine At.a 2 ?_
       refine At.sB 111 (!(hasU ((100 : UInt8).toNat : Int) (l8F m.kind).data.toList)) false (sayNF (sayB h16)) ?_
       refine At.a 6 ?_
       refine At.sB 117 false (!(fits3 m)) (congrArg V.bool (by grind [fits3, hasF, zCmd])) ?_
       refine At.done rfl ⟨rfl, ?_⟩
       exact Sub.cut [(101, 101), (104, 104)] [false, true] 117 _ (by kernel_rfl) (by kernel_rfl) (by kernel_rfl) (by kernel_rfl)
     refine At.sB 107 (!(cmdOk m.cmd)) true (sayNT (sayB (Bool.eq_false_iff.2 h17))) ?_
     replace h17 := Bool.eq_false_iff.2 h17
     refine At.a 10 ?_
     refine At.sB 117 true (!(fits3 m)) (congrArg V.bool (by grind [fits3, hasF, zCmd])) ?_
     refine At.done rfl ⟨rfl, ?_⟩
     exact Sub.cut [(101, 101), (104, 104)] [false, true] 117 _ (by kernel_rfl) (by kernel_rfl) (by kernel_rfl) (by kernel_rfl)
   refine At.sB 101 (hasU ((100 : UInt8).toNat : Int) (l8F m.kind).data.toList) false (sayB (Bool.eq_false_iff.2 h16)) ?_
   replace h16 := Bool.eq_false_iff.2 h16
   refine At.a 7 ?_
   refine At.c (spec_l8In_spec  (l8F m.kind) (100 : UInt8) (l8F_small _)) Try.call53 true [] [] [] trivial ?_
   refine At.a 2 ?_
   refine At.sB 111 (!(hasU ((100 : UInt8).toNat : Int) (l8F m.kind).data.toList)) true (sayNT (sayB h16)) ?_
   refine At.a 3 ?_
   refine At.eqA (t := 31) (u := 31) (d := 115) (op := .neq) (x := .tmp 113) (y := .tmp 114) (X := [.int .i64 m.cmd.kind, .int .i64 m.cmd.release, .int .i64 m.cmd.node, .int .i64 m.cmd.size, .str m.cmd.digest]) (Y := [.int .i64 0, .int .i64 0, .int .i64 0, .int .i64 0, .str (⟨#[]⟩ : ByteArray)]) (cmdEq m.cmd (⟨0, 0, 0, 0, (⟨#[]⟩ : ByteArray)⟩ : Cmd)) (by kernel_rfl) (by kernel_rfl) (by kernel_rfl) (by kernel_rfl) (by kernel_rfl) (.bool (!(cmdEq m.cmd (⟨0, 0, 0, 0, (⟨#[]⟩ : ByteArray)⟩ : Cmd)))) (.inr ⟨rfl, rfl⟩) ?_
   refine At.a 2 ?_
   refine At.sB 117 (!(cmdEq m.cmd (⟨0, 0, 0, 0, (⟨#[]⟩ : ByteArray)⟩ : Cmd))) (!(fits3 m)) (congrArg V.bool (by grind [fits3, hasF, zCmd])) ?_
   refine At.done rfl ⟨rfl, ?_⟩
   exact Sub.cut [(101, 101), (104, 104)] [false, true] 117 _ (by kernel_rfl) (by kernel_rfl) (by kernel_rfl) (by kernel_rfl)
 refine AW.cNB (fits3 m) (fun h20 => ?_) (fun h20 => ?_)
 · refine AW.q 1 ?_
   refine AW.ret ?_
   refine ⟨_, Sub.refl _ _, ?_⟩
   refine KF.conv (fun w => .bool w) (fun w => []) (show (false) = (msgFits m) from by grind [msgFits]) ?_
   exact KF.n []
 refine AW.skip ?_
 refine AW.seq ?_
 refine AW.q 1 ?_
 refine AW.block ?_
 refine AW.loopW (fun (k : Nat) => Go.Sy.mk [.un, .ptr 101 0 0, .un, .un, .un, .int .i64 (k : Int)] [(101, .box 34 [.int .i64 m.kind, .int .i64 m.from_, .int .i64 m.term, .int .i64 m.at_, .int .i64 m.atTerm, .int .i64 m.commit, .bool m.yes, .int .i64 m.release, .int .i64 m.part, .str m.bytes, .int .i64 m.cmd.kind, .int .i64 m.cmd.release, .int .i64 m.cmd.node, .int .i64 m.cmd.size, .str m.cmd.digest, .sl false 6 (m.entries.map encEnt)])]) (fun (k : Nat) => k ≤ m.entries.length ∧ entsOk m.entries = entsOk (m.entries.drop k)) (fun (k : Nat) => m.entries.length - k) 0 ⟨by omega, by rw [List.drop_zero]⟩ (Sub.o [(101, 101)] [false, true, false, false, false, true]) ?_
 rintro k ⟨hk, hR⟩
 refine AW.seq ?_
 refine AW.r ?_
 refine At.a 4 ?_
 refine At.sL 121 encEnt m.entries ?_
 refine At.z 1 ?_
 refine AW.cD ((k : Int) < (m.entries.length : Int)) (fun h21 => ?_) (fun h21 => ?_)
 · refine AW.skip ?_
   refine AW.seq ?_
   refine AW.block ?_
   refine AW.r ?_
   refine At.a 3 ?_
   refine At.iSl 32 128 (.tmp 126) (.tmp 127) false 6 (m.entries.map encEnt) .i64 (k : Int) 56 (by omega) (by simp only [List.length_map]; omega) ?_
   refine Exists.elim (gE m.entries k (by omega)) fun e1 he1 => ?_
   refine At.lVp 56 129 (.tmp 128) false 6 (m.entries.map encEnt) k 0 true 6 (encEnt e1) (.agg [.int .i64 e1.term, .int .i64 e1.cmd.kind, .int .i64 e1.cmd.release, .int .i64 e1.cmd.node, .int .i64 e1.cmd.size, .str e1.cmd.digest]) (mapGet he1) ?_
   refine At.c (spec_l6Entry_spec  e1 ) Try.call55 true [] [] [] trivial ?_
   refine At.z 1 ?_
   refine AW.cNB (entOk e1) (fun h22 => ?_) (fun h22 => ?_)
   · refine AW.q 1 ?_
     refine AW.ret ?_
     refine ⟨_, Sub.refl _ _, ?_⟩
     refine KF.conv (fun w => .bool w) (fun w => []) (show (false) = (msgFits m) from by rw [dropCons he1] at hR; grind [msgFits, entsOk]) ?_
     exact KF.n []
   have h22n := entOk_nums h22
   refine AW.skip ?_
   refine AW.g ?_
   refine At.a 2 ?_
   refine At.sI 124 ((k : Int) + 1) (by omega) ?_
   refine At.z 1 ?_
   exact ⟨k + 1, ⟨by omega, by rw [hR, dropCons he1, entsOk]; simp only [*, Bool.true_and]⟩, (by omega), Sub.o [(101, 101)] [false, true, false, false, false, true]⟩
 refine AW.exit ?_
 refine AW.q 1 ?_
 refine AW.ret ?_
 refine ⟨_, Sub.refl _ _, ?_⟩
 refine KF.conv (fun w => .bool w) (fun w => []) (show (true) = (msgFits m) from by rw [List.drop_of_length_le (by omega)] at hR; grind [msgFits, entsOk]) ?_
 exact KF.n []
theorem spec_PutNum_spec  (x : Int) (hx : x ≤ 4611686018427387904) : FnSpec Try.prog 29 [.int .i64 x] [] (.ref 0) [.arr 5 1 ((putI x).map encU8)] := by
 refine FnSpec.of 24 Try.func29 rfl Try.ntmps29 (by simp) (AW.weakK ?_)
 refine AW.q 1 ?_
 refine AW.r ?_
 refine At.lit0 (t := 28) (d := 4) (e := 5) (es := 1) (bytes := 1) 104 (by kernel_rfl) (by kernel_rfl) (by kernel_rfl) (by kernel_rfl) ?_
 refine At.z 1 ?_
 refine AW.seq ?_
 refine AW.q 2 ?_
 refine AW.cD (x < 0) (fun h1 => ?_) (fun h1 => ?_)
 · refine AW.q 2 ?_
   refine AW.ret ?_
   refine ⟨_, Sub.refl _ _, ?_⟩
   refine KF.conv (fun w => .ref 0) (fun w => [.arr 5 1 (w.map encU8)]) (show ([]) = (putI x) from by unfold putI; rw [if_pos (by omega)]) ?_
   exact KF.n [(104, 0)]
 refine AW.skip ?_
 refine AW.seq ?_
 refine AW.block ?_
 refine AW.loopW (fun (z_ : Int × List UInt8) => match z_ with | (y, o) => Go.Sy.mk [.int .i64 y, .un, .un, .ref 104] [(104, .arr 5 1 (o.map encU8))]) (fun (z_ : Int × List UInt8) => match z_ with | (y, o) => (0 ≤ y ∧ y ≤ x) ∧ putI x = o ++ putN y) (fun (z_ : Int × List UInt8) => match z_ with | (y, o) => y.toNat) (x, []) ⟨⟨by omega, by omega⟩, by unfold putI; rw [if_neg (by omega)]; rfl⟩ (Sub.o [(104, 104)] [true, false, false, true]) ?_
 rintro ⟨y, o⟩ ⟨⟨hy, hyx⟩, hR⟩
 have hl9 := putI_len hx
 have hle := congrArg List.length hR
 rw [List.length_append] at hle
 refine AW.seq ?_
 refine AW.q 2 ?_
 refine AW.cD (y > 127) (fun h2 => ?_) (fun h2 => ?_)
 · refine AW.skip ?_
   refine AW.block ?_
   refine AW.r ?_
   refine At.a 2 ?_
   refine At.div (t := 3) (u := 3) (d := 12) (op := .rem) (x := .tmp 11) (y := .const (.int .i64 128)) (kd := .i64) (a := y) (b := 128) (by kernel_rfl) (by kernel_rfl) (by kernel_rfl) (by kernel_rfl) (by omega) (.int .i64 (y.tmod 128)) (.inr ⟨rfl, rfl⟩) ?_
   refine At.say 12 (.int .i64 (y.tmod 128)) (.int .i64 (y % 128)) (by kernel_rfl) (sayRem (by omega)) ?_
   refine At.a 1 ?_
   refine At.sI 13 ((y % 128) + 128) (by omega) ?_
   refine At.conv (s := 3) (t := 5) (d := 14) (x := .tmp 13) (kd := .i64) (kd' := .u8) (a := (y % 128) + 128) (.int .u8 ((u8Of ((y % 128) + 128)).toNat : Int)) (by kernel_rfl) (by kernel_rfl) (by kernel_rfl) (by kernel_rfl) (sayByte _) ?_
   refine At.ll 15 5 1 115 (56, 6) (([(u8Of ((y % 128) + 128))]).map encU8) ?_
   refine At.apK 16 5 1 1 116 104 115 encU8 o ([(u8Of ((y % 128) + 128))]) (by simp only [List.length_map, List.length_append, List.length_take, List.length_drop, List.length_replicate, List.length_set, List.length_cons, List.length_nil]; omega) ?_
   refine At.z 1 ?_
   refine AW.g ?_
   refine At.a 1 ?_
   refine At.div (t := 3) (u := 3) (d := 18) (op := .quo) (x := .tmp 17) (y := .const (.int .i64 128)) (kd := .i64) (a := y) (b := 128) (by kernel_rfl) (by kernel_rfl) (by kernel_rfl) (by kernel_rfl) (by omega) (.int .i64 (IntKind.i64.wrap (y.tdiv 128))) (.inl ⟨rfl, rfl⟩) ?_
   refine At.say 18 (.int .i64 (IntKind.i64.wrap (y.tdiv 128))) (.int .i64 (y / 128)) (by kernel_rfl) (sayQuo (by omega) (by omega) (by omega)) ?_
   refine At.z 1 ?_
   exact ⟨((y / 128), (o ++ ([(u8Of ((y % 128) + 128))]))), ⟨by omega, by (try rw [shr7, or128 hy]); exact putI_step hR (by omega)⟩, (by (try rw [shr7]); simp only; omega), Sub.o [(116, 104)] [true, false, false, true]⟩
 refine AW.exit ?_
 refine AW.r ?_
 refine At.a 2 ?_
 refine At.conv (s := 3) (t := 5) (d := 21) (x := .tmp 20) (kd := .i64) (kd' := .u8) (a := y) (.int .u8 ((u8Of y).toNat : Int)) (by kernel_rfl) (by kernel_rfl) (by kernel_rfl) (by kernel_rfl) (sayByte _) ?_
 refine At.ll 22 5 1 122 (56, 6) (([(u8Of y)]).map encU8) ?_
 refine At.apK 23 5 1 1 123 104 122 encU8 o ([(u8Of y)]) (by simp only [List.length_map, List.length_append, List.length_take, List.length_drop, List.length_replicate, List.length_set, List.length_cons, List.length_nil]; omega) ?_
 refine At.z 1 ?_
 refine AW.ret ?_
 refine ⟨_, Sub.refl _ _, ?_⟩
 refine KF.conv (fun w => .ref 0) (fun w => [.arr 5 1 (w.map encU8)]) (show (o ++ ([(u8Of y)])) = (putI x) from by exact putI_end hR (by omega)) ?_
 exact KF.n [(123, 0)]
theorem spec_PutText_spec  (s : ByteArray) (hs : s.size ≤ 1048576) : FnSpec Try.prog 30 [.str s] [] (.ref 0) [.arr 5 1 ((putT s).map encU8)] := by
 have hpl := putI_len (x := (s.size : Int)) (by omega)
 have hsl : s.data.toList.length = s.size := Array.length_toList
 refine FnSpec.of 13 Try.func30 rfl Try.ntmps30 (by simp) (AW.weakK ?_)
 refine AW.q 1 ?_
 refine AW.seq ?_
 refine AW.q 3 ?_
 refine AW.cD ((s.size : Int) > 3000) (fun h1 => ?_) (fun h1 => ?_)
 · refine AW.r ?_
   refine At.lit0 (t := 28) (d := 6) (e := 5) (es := 1) (bytes := 1) 106 (by kernel_rfl) (by kernel_rfl) (by kernel_rfl) (by kernel_rfl) ?_
   refine At.z 1 ?_
   refine AW.ret ?_
   refine ⟨_, Sub.refl _ _, ?_⟩
   refine KF.conv (fun w => .ref 0) (fun w => [.arr 5 1 (w.map encU8)]) (show ([]) = (putT s) from by rw [putT_no (by assumption)]) ?_
   exact KF.n [(106, 0)]
 refine AW.skip ?_
 refine AW.r ?_
 refine At.a 2 ?_
 refine At.c (spec_PutNum_spec  (s.size : Int) (by omega)) Try.call29 true [] [(1180, 0)] [] trivial ?_
 refine At.a 1 ?_
 refine At.s2b (s := 9) (t := 28) (e := 5) (d := 11) (x := .tmp 10) (b := s) ((s.data.toList.map encU8)) (by kernel_rfl) (by kernel_rfl) (by kernel_rfl) (by kernel_rfl) (by omega) rfl ?_
 refine At.append (t := 28) (d := 12) (e := 5) (es := 1) (bytes := 1) (s := .tmp 9) (x := .tmp 11) (S := .ref 1180) (T := .sl true 1 (s.data.toList.map encU8)) (xs := ((putI (s.size : Int)).map encU8)) (ys := (s.data.toList.map encU8)) 112 [1180] [] (((putI (s.size : Int)) ++ s.data.toList).map encU8) (by kernel_rfl) (by kernel_rfl) (by kernel_rfl) (by kernel_rfl) ⟨by kernel_rfl, rfl⟩ ⟨rfl, rfl, (allP_encU8 _), rfl⟩ (by kernel_rfl) (by kernel_rfl) (by simp) (by simp only [List.length_map]; omega) (by simp only [List.length_map]; omega) ?_
 refine At.z 1 ?_
 refine AW.ret ?_
 refine ⟨_, Sub.refl _ _, ?_⟩
 refine KF.conv (fun w => .ref 0) (fun w => [.arr 5 1 (w.map encU8)]) (show ((putI (s.size : Int)) ++ s.data.toList) = (putT s) from by rw [putT_yes (by assumption)]) ?_
 exact KF.n [(112, 0)]
def K_spec_CmdPack (rs : List ResultVar) (c : Cmd) (w0_ : List UInt8) (w1_ : Bool) : Exit → Sg → Prop := KF Try.prog 0 rs (.tup [.ref 0, .bool w1_]) [.arr 5 1 (w0_.map encU8)]
theorem spec_CmdPack_spec  (c : Cmd) : FnSpec Try.prog 31 [.agg [.int .i64 c.kind, .int .i64 c.release, .int .i64 c.node, .int .i64 c.size, .str c.digest]] [] (.tup [.ref 0, .bool (cmdOk c)]) [.arr 5 1 ((cmdP c).map encU8)] := by
 refine FnSpec.of 42 Try.func31 rfl Try.ntmps31 (by simp) (AW.weakK ?_)
 refine AW.q 3 ?_
 refine AW.seq ?_
 refine AW.r ?_
 refine At.a 1 ?_
 refine At.c (spec_CmdOk_spec  c ) Try.call54 true [] [] [] trivial ?_
 refine At.z 1 ?_
 refine AW.cNB (cmdOk c) (fun h1 => ?_) (fun h1 => ?_)
 · refine AW.r ?_
   refine At.lit0 (t := 28) (d := 8) (e := 5) (es := 1) (bytes := 1) 108 (by kernel_rfl) (by kernel_rfl) (by kernel_rfl) (by kernel_rfl) ?_
   refine At.z 2 ?_
   exact AW.ret (rf (k2 (K_spec_CmdPack _ c) (show ([]) = (cmdP c) from by rw [cmdP_no (by assumption)]) (show (false) = (cmdOk c) from by simp [*]) (KF.n [(108, 0)])))
 have hci := cmdOk_in h1
 have p1 := putI_len (x := c.kind) (by omega)
 have p2 := putI_len (x := c.release) (by omega)
 have p3 := putI_len (x := c.node) (by omega)
 have p4 := putI_len (x := c.size) (by omega)
 have p5 : c.digest.data.toList.length = c.digest.size := Array.length_toList
 have p6 := putAll_len3 c.kind c.release c.size (by omega) (by omega) (by omega)
 refine AW.skip ?_
 refine AW.r ?_
 refine At.a 2 ?_
 refine At.c (spec_PutNum_spec  c.kind (by omega)) Try.call29 true [] [(1220, 0)] [] trivial ?_
 refine At.z 1 ?_
 refine AW.seq ?_
 refine AW.q 3 ?_
 refine AW.cU c.kind (1 : Int) (fun h2 => ?_) (fun h2 => ?_)
 · refine AW.g ?_
   refine At.a 3 ?_
   refine At.c (spec_PutNum_spec  c.release (by omega)) Try.call29 true [] [(1360, 0)] [] trivial ?_
   refine At.apC 19 5 1 1 119 1220 1360 encU8 (putI c.kind) (putI c.release) (by omega) (allP_encU8 _) ?_
   refine At.z 1 ?_
   refine AW.seq ?_
   refine AW.q 2 ?_
   refine AW.block ?_
   refine AW.q 2 ?_
   refine AW.cE c.kind (3 : Int) (fun h3 => ?_) (fun h3 => ?_)
   · refine AW.g ?_
     refine At.a 3 ?_
     refine At.c (spec_PutNum_spec  c.node (by omega)) Try.call29 true [] [(1540, 0)] [] trivial ?_
     refine At.apC 28 5 1 1 128 119 1540 encU8 ((putI c.kind) ++ (putI c.release)) (putI c.node) (by simp only [List.length_map, List.length_append, List.length_take, List.length_drop, List.length_replicate, List.length_set, List.length_cons, List.length_nil]; omega) (allP_encU8 _) ?_
     refine At.z 1 ?_
     refine AW.q 3 ?_
     exact AW.ret (rf (k2 (K_spec_CmdPack _ c) (show (((putI c.kind) ++ (putI c.release)) ++ (putI c.node)) = (cmdP c) from by rw [cmdP_yes (by assumption)]; simp [cmdB, putAll, h1, h2, h3]) (show (true) = (cmdOk c) from by simp [*]) (KF.n [(128, 0)])))
   refine AW.q 2 ?_
   refine AW.cE c.kind (2 : Int) (fun h4 => ?_) (fun h4 => ?_)
   · refine AW.r ?_
     refine At.a 3 ?_
     refine At.c (spec_PutNum_spec  c.size (by omega)) Try.call29 true [] [(1680, 0)] [] trivial ?_
     refine At.apC 35 5 1 1 135 119 1680 encU8 ((putI c.kind) ++ (putI c.release)) (putI c.size) (by simp only [List.length_map, List.length_append, List.length_take, List.length_drop, List.length_replicate, List.length_set, List.length_cons, List.length_nil]; omega) (allP_encU8 _) ?_
     refine At.z 1 ?_
     refine AW.g ?_
     refine At.a 3 ?_
     refine At.s2b (s := 9) (t := 28) (e := 5) (d := 39) (x := .tmp 38) (b := c.digest) ((c.digest.data.toList.map encU8)) (by kernel_rfl) (by kernel_rfl) (by kernel_rfl) (by kernel_rfl) (by omega) rfl ?_
     refine At.append (t := 28) (d := 40) (e := 5) (es := 1) (bytes := 1) (s := .tmp 36) (x := .tmp 39) (S := .ref 135) (T := .sl true 1 (c.digest.data.toList.map encU8)) (xs := ((((putI c.kind) ++ (putI c.release)) ++ (putI c.size)).map encU8)) (ys := (c.digest.data.toList.map encU8)) 140 [135] [] (((((putI c.kind) ++ (putI c.release)) ++ (putI c.size)) ++ c.digest.data.toList).map encU8) (by kernel_rfl) (by kernel_rfl) (by kernel_rfl) (by kernel_rfl) ⟨by kernel_rfl, rfl⟩ ⟨rfl, rfl, (allP_encU8 _), rfl⟩ (by kernel_rfl) (by kernel_rfl) (by simp) (by simp only [List.length_map, List.length_append, List.length_take, List.length_drop, List.length_replicate, List.length_set, List.length_cons, List.length_nil]; omega) (by simp only [List.length_map, List.length_append, List.length_take, List.length_drop, List.length_replicate, List.length_set, List.length_cons, List.length_nil]; omega) ?_
     refine At.z 1 ?_
     refine AW.q 3 ?_
     exact AW.ret (rf (k2 (K_spec_CmdPack _ c) (show ((((putI c.kind) ++ (putI c.release)) ++ (putI c.size)) ++ c.digest.data.toList) = (cmdP c) from by rw [cmdP_yes (by assumption)]; simp [cmdB, putAll, h1, h2, h3, h4]) (show (true) = (cmdOk c) from by simp [*]) (KF.n [(140, 0)])))
   refine AW.skip ?_
   refine AW.q 3 ?_
   exact AW.ret (rf (k2 (K_spec_CmdPack _ c) (show ((putI c.kind) ++ (putI c.release)) = (cmdP c) from by rw [cmdP_yes (by assumption)]; simp [cmdB, putAll, h1, h2, h3, h4]) (show (true) = (cmdOk c) from by simp [*]) (KF.n [(119, 0)])))
 refine AW.skip ?_
 refine AW.seq ?_
 refine AW.q 2 ?_
 refine AW.block ?_
 refine AW.q 2 ?_
 refine AW.cE c.kind (3 : Int) (fun h5 => ?_) (fun h5 => ?_)
 · refine AW.g ?_
   refine At.a 3 ?_
   refine At.c (spec_PutNum_spec  c.node (by omega)) Try.call29 true [] [(1540, 0)] [] trivial ?_
   refine At.apC 28 5 1 1 128 1220 1540 encU8 (putI c.kind) (putI c.node) (by omega) (allP_encU8 _) ?_
   refine At.z 1 ?_
   refine AW.q 3 ?_
   exact AW.ret (rf (k2 (K_spec_CmdPack _ c) (show ((putI c.kind) ++ (putI c.node)) = (cmdP c) from by exfalso; omega) (show (true) = (cmdOk c) from by simp [*]) (KF.n [(128, 0)])))
 refine AW.q 2 ?_
 refine AW.cE c.kind (2 : Int) (fun h6 => ?_) (fun h6 => ?_)
 · refine AW.r ?_
   refine At.a 3 ?_
   refine At.c (spec_PutNum_spec  c.size (by omega)) Try.call29 true [] [(1680, 0)] [] trivial ?_
   refine At.apC 35 5 1 1 135 1220 1680 encU8 (putI c.kind) (putI c.size) (by omega) (allP_encU8 _) ?_
   refine At.z 1 ?_
   refine AW.g ?_
   refine At.a 3 ?_
   refine At.s2b (s := 9) (t := 28) (e := 5) (d := 39) (x := .tmp 38) (b := c.digest) ((c.digest.data.toList.map encU8)) (by kernel_rfl) (by kernel_rfl) (by kernel_rfl) (by kernel_rfl) (by omega) rfl ?_
   refine At.append (t := 28) (d := 40) (e := 5) (es := 1) (bytes := 1) (s := .tmp 36) (x := .tmp 39) (S := .ref 135) (T := .sl true 1 (c.digest.data.toList.map encU8)) (xs := (((putI c.kind) ++ (putI c.size)).map encU8)) (ys := (c.digest.data.toList.map encU8)) 140 [135] [] ((((putI c.kind) ++ (putI c.size)) ++ c.digest.data.toList).map encU8) (by kernel_rfl) (by kernel_rfl) (by kernel_rfl) (by kernel_rfl) ⟨by kernel_rfl, rfl⟩ ⟨rfl, rfl, (allP_encU8 _), rfl⟩ (by kernel_rfl) (by kernel_rfl) (by simp) (by omega) (by omega) ?_
   refine At.z 1 ?_
   refine AW.q 3 ?_
   exact AW.ret (rf (k2 (K_spec_CmdPack _ c) (show (((putI c.kind) ++ (putI c.size)) ++ c.digest.data.toList) = (cmdP c) from by exfalso; omega) (show (true) = (cmdOk c) from by simp [*]) (KF.n [(140, 0)])))
 refine AW.skip ?_
 refine AW.q 3 ?_
 exact AW.ret (rf (k2 (K_spec_CmdPack _ c) (show (putI c.kind) = (cmdP c) from by rw [cmdP_yes (by assumption)]; simp [cmdB, putAll, h1, h2, h5, h6]) (show (true) = (cmdOk c) from by simp [*]) (KF.n [(1220, 0)])))
theorem spec_Sum_spec  (b : List UInt8) (hb : b.length ≤ 1048576) : FnSpec Try.prog 64 [.sl false 1 (b.map encU8)] [] (.int .i64 (sumB b)) [] := by
 refine FnSpec.of 28 Try.func64 rfl Try.ntmps64 (by simp) (AW.weakK ?_)
 refine AW.q 1 ?_
 refine AW.q 2 ?_
 refine AW.seq ?_
 refine AW.q 1 ?_
 refine AW.block ?_
 refine AW.loopW (fun (x : Nat × Int × Int) => match x with | (k, x, y) => Go.Sy.mk [.sl false 1 (b.map encU8), .un, .un, .int .i64 x, .int .i64 y, .int .i64 (k : Int)] []) (fun (x : Nat × Int × Int) => match x with | (k, x, y) => k ≤ b.length ∧ (0 ≤ x ∧ x < 65521) ∧ (0 ≤ y ∧ y < 65521) ∧ sumGo b 1 0 = sumGo (b.drop k) x y) (fun (x : Nat × Int × Int) => match x with | (k, x, y) => b.length - k) (0, 1, 0) ⟨by omega, by omega, by omega, by rw [List.drop_zero]⟩ (Sub.o [] [true, false, false, true, true, true]) ?_
 rintro ⟨k, x, y⟩ ⟨hk, hx, hy, hR⟩
 refine AW.seq ?_
 refine AW.r ?_
 refine At.a 3 ?_
 refine At.sL 8 encU8 b ?_
 refine At.z 1 ?_
 refine AW.cD ((k : Int) < (b.length : Int)) (fun h1 => ?_) (fun h1 => ?_)
 · refine AW.skip ?_
   refine AW.seq ?_
   refine AW.block ?_
   refine AW.r ?_
   refine At.a 3 ?_
   refine At.iSl 28 15 (.tmp 13) (.tmp 14) false 1 (b.map encU8) .i64 (k : Int) 5 (by omega) (by simp only [List.length_map]; omega) ?_
   refine Exists.elim (gE b k (by omega)) fun e1 he1 => ?_
   have hbe1 := UInt8.toNat_lt e1
   refine At.lVp 5 16 (.tmp 15) false 1 (b.map encU8) k 0 false 1 (encU8 e1) (.int .u8 (e1.toNat : Int)) (mapGet he1) ?_
   refine At.conv (s := 5) (t := 3) (d := 17) (x := .tmp 16) (kd := .u8) (kd' := .i64) (a := (e1.toNat : Int)) (.int .i64 (e1.toNat : Int)) (by kernel_rfl) (by kernel_rfl) (by kernel_rfl) (by kernel_rfl) (sayI _ (by have := UInt8.toNat_lt e1; omega)) ?_
   refine At.a 1 ?_
   refine At.sI 18 (x + (e1.toNat : Int)) (by omega) ?_
   refine At.div (t := 3) (u := 3) (d := 19) (op := .rem) (x := .tmp 18) (y := .const (.int .i64 65521)) (kd := .i64) (a := x + (e1.toNat : Int)) (b := 65521) (by kernel_rfl) (by kernel_rfl) (by kernel_rfl) (by kernel_rfl) (by omega) (.int .i64 ((x + (e1.toNat : Int)).tmod 65521)) (.inr ⟨rfl, rfl⟩) ?_
   refine At.say 19 (.int .i64 ((x + (e1.toNat : Int)).tmod 65521)) (.int .i64 ((x + (e1.toNat : Int)) % 65521)) (by kernel_rfl) (sayRem (by omega)) ?_
   refine At.z 1 ?_
   refine AW.g ?_
   refine At.a 3 ?_
   refine At.sI 22 (y + ((x + (e1.toNat : Int)) % 65521)) (by omega) ?_
   refine At.div (t := 3) (u := 3) (d := 23) (op := .rem) (x := .tmp 22) (y := .const (.int .i64 65521)) (kd := .i64) (a := y + ((x + (e1.toNat : Int)) % 65521)) (b := 65521) (by kernel_rfl) (by kernel_rfl) (by kernel_rfl) (by kernel_rfl) (by omega) (.int .i64 ((y + ((x + (e1.toNat : Int)) % 65521)).tmod 65521)) (.inr ⟨rfl, rfl⟩) ?_
   refine At.say 23 (.int .i64 ((y + ((x + (e1.toNat : Int)) % 65521)).tmod 65521)) (.int .i64 ((y + ((x + (e1.toNat : Int)) % 65521)) % 65521)) (by kernel_rfl) (sayRem (by omega)) ?_
   refine At.z 1 ?_
   refine AW.g ?_
   refine At.a 2 ?_
   refine At.sI 11 ((k : Int) + 1) (by omega) ?_
   refine At.z 1 ?_
   exact ⟨(k + 1, ((x + (e1.toNat : Int)) % 65521), ((y + ((x + (e1.toNat : Int)) % 65521)) % 65521)), ⟨by omega, by omega, by omega, sum_step hR he1⟩, (by simp only; omega), Sub.o [] [true, false, false, true, true, true]⟩
 refine AW.exit ?_
 refine AW.r ?_
 refine At.a 2 ?_
 refine At.sI 25 (65536 * y) (by omega) ?_
 refine At.a 2 ?_
 refine At.sI 27 ((65536 * y) + x) (by omega) ?_
 refine At.z 1 ?_
 refine AW.ret ?_
 refine ⟨_, Sub.refl _ _, ?_⟩
 refine KF.conv (fun w => .int .i64 w) (fun w => []) (show ((65536 * y) + x) = (sumB b) from sum_end hR (by omega)) ?_
 exact KF.n []
def K_spec_Seal (rs : List ResultVar) (b : List UInt8) (w0_ : List UInt8) (w1_ : Bool) : Exit → Sg → Prop := KF Try.prog 0 rs (.tup [.ref 0, .bool w1_]) [.arr 5 1 (w0_.map encU8)]
theorem spec_Seal_spec  (b : List UInt8) (hb : b.length ≤ 1048576) : FnSpec Try.prog 32 [.sl false 1 (b.map encU8)] [] (.tup [.ref 0, .bool (decide (¬ (b.length : Int) > 3000))]) [.arr 5 1 ((sealP b).map encU8)] := by
 have hpl := putI_len (x := (b.length : Int)) (by omega)
 have hsl : (sum4 (sumB b)).length = 4 := rfl
 refine FnSpec.of 31 Try.func32 rfl Try.ntmps32 (by simp) (AW.weakK ?_)
 refine AW.q 2 ?_
 refine AW.seq ?_
 refine AW.r ?_
 refine At.a 2 ?_
 refine At.sL 7 encU8 b ?_
 refine At.z 1 ?_
 refine AW.cD ((b.length : Int) > 3000) (fun h1 => ?_) (fun h1 => ?_)
 · refine AW.r ?_
   refine At.lit0 (t := 28) (d := 9) (e := 5) (es := 1) (bytes := 1) 109 (by kernel_rfl) (by kernel_rfl) (by kernel_rfl) (by kernel_rfl) ?_
   refine At.z 2 ?_
   exact AW.ret (rf (k2 (K_spec_Seal _ b) (show ([]) = (sealP b) from by rw [sealP_no (by assumption)]) (show (false) = (decide (¬ (b.length : Int) > 3000)) from by rw [decide_eq_false (by omega)]) (KF.n [(109, 0)])))
 refine AW.skip ?_
 refine AW.r ?_
 refine At.a 1 ?_
 refine At.c (spec_Sum_spec  b hb) Try.call64 true [] [] [] trivial ?_
 refine At.z 1 ?_
 refine AW.r ?_
 refine At.a 2 ?_
 refine At.sL 13 encU8 b ?_
 refine At.c (spec_PutNum_spec  (b.length : Int) (by omega)) Try.call29 true [] [(1280, 0)] [] trivial ?_
 refine At.a 1 ?_
 refine At.append (t := 28) (d := 16) (e := 5) (es := 1) (bytes := 1) (s := .tmp 14) (x := .tmp 15) (S := .ref 1280) (T := .sl false 1 (b.map encU8)) (xs := ((putI (b.length : Int)).map encU8)) (ys := (b.map encU8)) 116 [1280] [] (((putI (b.length : Int)) ++ b).map encU8) (by kernel_rfl) (by kernel_rfl) (by kernel_rfl) (by kernel_rfl) ⟨by kernel_rfl, rfl⟩ ⟨rfl, rfl, (allP_encU8 _), rfl⟩ (by kernel_rfl) (by kernel_rfl) (by simp) (by simp only [List.length_map]; omega) (by simp only [List.length_map]; omega) ?_
 refine At.z 1 ?_
 refine AW.r ?_
 refine At.a 2 ?_
 refine At.conv (s := 3) (t := 5) (d := 19) (x := .tmp 18) (kd := .i64) (kd' := .u8) (a := sumB b) (.int .u8 ((u8Of (sumB b)).toNat : Int)) (by kernel_rfl) (by kernel_rfl) (by kernel_rfl) (by kernel_rfl) (sayByte _) ?_
 refine At.a 1 ?_
 refine At.shift (t := 3) (u := 93) (d := 21) (op := .shr) (x := .tmp 20) (y := .const (.int .u64 8)) (kd := .i64) (kd' := .u64) (a := sumB b) (b := 8) (shV .shr .i64 (sumB b) 8) (by kernel_rfl) (by kernel_rfl) (by kernel_rfl) (by kernel_rfl) (by omega) (shS_shr _ _ _) ?_
 refine At.conv (s := 3) (t := 5) (d := 22) (x := .tmp 21) (kd := .i64) (kd' := .u8) (a := shV .shr .i64 (sumB b) 8) (.int .u8 ((u8Of (shV .shr .i64 (sumB b) 8)).toNat : Int)) (by kernel_rfl) (by kernel_rfl) (by kernel_rfl) (by kernel_rfl) (sayByte _) ?_
 refine At.a 1 ?_
 refine At.shift (t := 3) (u := 93) (d := 24) (op := .shr) (x := .tmp 23) (y := .const (.int .u64 16)) (kd := .i64) (kd' := .u64) (a := sumB b) (b := 16) (shV .shr .i64 (sumB b) 16) (by kernel_rfl) (by kernel_rfl) (by kernel_rfl) (by kernel_rfl) (by omega) (shS_shr _ _ _) ?_
 refine At.conv (s := 3) (t := 5) (d := 25) (x := .tmp 24) (kd := .i64) (kd' := .u8) (a := shV .shr .i64 (sumB b) 16) (.int .u8 ((u8Of (shV .shr .i64 (sumB b) 16)).toNat : Int)) (by kernel_rfl) (by kernel_rfl) (by kernel_rfl) (by kernel_rfl) (sayByte _) ?_
 refine At.a 1 ?_
 refine At.shift (t := 3) (u := 93) (d := 27) (op := .shr) (x := .tmp 26) (y := .const (.int .u64 24)) (kd := .i64) (kd' := .u64) (a := sumB b) (b := 24) (shV .shr .i64 (sumB b) 24) (by kernel_rfl) (by kernel_rfl) (by kernel_rfl) (by kernel_rfl) (by omega) (shS_shr _ _ _) ?_
 refine At.conv (s := 3) (t := 5) (d := 28) (x := .tmp 27) (kd := .i64) (kd' := .u8) (a := shV .shr .i64 (sumB b) 24) (.int .u8 ((u8Of (shV .shr .i64 (sumB b) 24)).toNat : Int)) (by kernel_rfl) (by kernel_rfl) (by kernel_rfl) (by kernel_rfl) (sayByte _) ?_
 refine At.ll 29 5 1 129 (56, 6) (([(u8Of (sumB b)), (u8Of (shV .shr .i64 (sumB b) 8)), (u8Of (shV .shr .i64 (sumB b) 16)), (u8Of (shV .shr .i64 (sumB b) 24))]).map encU8) ?_
 refine At.apK 30 5 1 1 130 116 129 encU8 ((putI (b.length : Int)) ++ b) ([(u8Of (sumB b)), (u8Of (shV .shr .i64 (sumB b) 8)), (u8Of (shV .shr .i64 (sumB b) 16)), (u8Of (shV .shr .i64 (sumB b) 24))]) (by simp only [List.length_map, List.length_append, List.length_take, List.length_drop, List.length_replicate, List.length_set, List.length_cons, List.length_nil]; omega) ?_
 refine At.z 2 ?_
 exact AW.ret (rf (k2 (K_spec_Seal _ b) (show (((putI (b.length : Int)) ++ b) ++ ([(u8Of (sumB b)), (u8Of (shV .shr .i64 (sumB b) 8)), (u8Of (shV .shr .i64 (sumB b) 16)), (u8Of (shV .shr .i64 (sumB b) 24))])) = (sealP b) from by rw [sealP_yes (by assumption), ← sum4_spec]) (show (true) = (decide (¬ (b.length : Int) > 3000)) from by rw [decide_eq_true (by assumption)]) (KF.n [(130, 0)])))
def K_spec_MsgPack (rs : List ResultVar) (m : Msg) (w0_ : List UInt8) (w1_ : Bool) : Exit → Sg → Prop := KF Try.prog 0 rs (.tup [.ref 0, .bool w1_]) [.arr 5 1 (w0_.map encU8)]
theorem spec_MsgPack_spec  (m : Msg) (hl : m.entries.length ≤ 1048576) : FnSpec Try.prog 7 [(msgA m)] [] (.tup [.ref 0, .bool (msgPok m)]) [.arr 5 1 ((msgP m).map encU8)] := by
 have hfs := l8F_six m.kind
 refine FnSpec.of 149 Try.func7 rfl Try.ntmps7 (by simp) (AW.weakK ?_)
 refine AW.q 3 ?_
 refine AW.seq ?_
 refine AW.r ?_
 refine At.a 1 ?_
 refine At.c (spec_MsgFits_spec  m hl) Try.call21 true [] [] [] trivial ?_
 refine At.z 1 ?_
 refine AW.cNB (msgFits m) (fun h1 => ?_) (fun h1 => ?_)
 · refine AW.r ?_
   refine At.lit0 (t := 28) (d := 15) (e := 5) (es := 1) (bytes := 1) 115 (by kernel_rfl) (by kernel_rfl) (by kernel_rfl) (by kernel_rfl) ?_
   refine At.z 2 ?_
   exact AW.ret (rf (k2 (K_spec_MsgPack _ m) (show ([]) = (msgP m) from by rw [msgP_no (by assumption)]) (show (false) = (msgPok m) from by rw [msgPok_no (by assumption)]) (KF.n [(115, 0)])))
 have hmp := msgFits_packs h1
 have hm6 := (msgFits_nums h1).2.2.2.2
 have hkl := putI_len (x := m.kind) (by have := msgFits_kind h1; omega)
 have hkk := msgFits_kind h1
 obtain ⟨b1, b2, b3, b4, b5, b6, b7, b8, b9⟩ := id hmp
 have g1 := putI_len b1
 have g2 := putI_len b2
 have g3 := putI_len b3
 have g4 := putI_len b4
 have g5 := putI_len b5
 have g6 := putI_len b6
 have g7 := putI_len b7
 have g8 := putT_len m.bytes
 have g9 := cmdP_len m.cmd
 have g10 := putI_len (x := (m.entries.length : Int)) (by omega)
 refine AW.skip ?_
 refine AW.r ?_
 refine At.a 2 ?_
 refine At.c (spec_l8Has_spec  m.kind ) Try.call28 true [] [] [] trivial ?_
 refine At.z 1 ?_
 refine AW.r ?_
 refine At.a 2 ?_
 refine At.c (spec_PutNum_spec  m.kind (by omega)) Try.call29 true [] [(1420, 0)] [] trivial ?_
 refine At.z 1 ?_
 refine AW.seq ?_
 refine AW.q 1 ?_
 refine AW.block ?_
 refine AW.loopW (fun (x : Nat × List UInt8) => match x with | (k, o) => Go.Sy.mk [.un, .ptr 101 0 0, .un, .un, .str (l8F m.kind), .ref 1420, .int .i64 (k : Int)] [(101, .box 34 [.int .i64 m.kind, .int .i64 m.from_, .int .i64 m.term, .int .i64 m.at_, .int .i64 m.atTerm, .int .i64 m.commit, .bool m.yes, .int .i64 m.release, .int .i64 m.part, .str m.bytes, .int .i64 m.cmd.kind, .int .i64 m.cmd.release, .int .i64 m.cmd.node, .int .i64 m.cmd.size, .str m.cmd.digest, .sl false 6 (m.entries.map encEnt)]), (1420, .arr 5 1 (o.map encU8))]) (fun (x : Nat × List UInt8) => match x with | (k, o) => k ≤ (l8F m.kind).size ∧ o.length ≤ 4000 * k + 9 ∧ msgB m = o ++ fAllS m ((l8F m.kind).data.toList.drop k)) (fun (x : Nat × List UInt8) => match x with | (k, o) => (l8F m.kind).size - k) (0, putI m.kind) ⟨by omega, by omega, by rw [List.drop_zero]; exact (msgB_spec (by assumption))⟩ (Sub.o [(101, 101), (1420, 1420)] [false, true, false, false, true, true, true]) ?_
 rintro ⟨k, o⟩ ⟨hk, ho, hR⟩
 refine AW.seq ?_
 refine AW.q 4 ?_
 refine AW.cD ((k : Int) < ((l8F m.kind).size : Int)) (fun h2 => ?_) (fun h2 => ?_)
 · refine AW.skip ?_
   refine AW.seq ?_
   refine AW.block ?_
   refine AW.r ?_
   refine At.a 2 ?_
   refine Exists.elim (show ∃ e, (l8F m.kind).data[k]? = some e from ⟨_, Array.getElem?_eq_getElem (by show _ < (l8F m.kind).size; omega)⟩) fun e1 he1 => ?_
   have hl1 : (l8F m.kind).data.toList[k]? = some e1 := by simpa using he1
   refine At.idxStr (t := 9) (d := 30) (x := .tmp 28) (y := .tmp 29) (s := l8F m.kind) (kd := .i64) (i := (k : Int)) e1 (by kernel_rfl) (by kernel_rfl) (by kernel_rfl) (by kernel_rfl) (by omega) he1 ?_
   refine At.done rfl ?_
   refine AW.block ?_
   refine AW.q 2 ?_
   refine AW.cE (e1.toNat : Int) (102 : Int) (fun h3 => ?_) (fun h3 => ?_)
   · refine AW.g ?_
     refine At.a 3 ?_
     refine At.c (spec_PutNum_spec  m.from_ (by omega)) Try.call29 true [] [(1720, 0)] [] trivial ?_
     refine At.apC 37 5 1 1 137 1420 1720 encU8 o (putI m.from_) (by omega) (allP_encU8 _) ?_
     refine At.z 1 ?_
     refine AW.g ?_
     refine At.a 2 ?_
     refine At.sI 27 ((k : Int) + 1) (by omega) ?_
     refine At.z 1 ?_
     exact ⟨(k + 1, (o ++ (putI m.from_))), ⟨by omega, by simp only [List.length_append, List.length_cons, List.length_nil]; omega, by rw [hR, dropCons hl1, fAllS]; simp only [fByteS, h1, h2, h3, if_true, if_false, Int.reduceEq, reduceIte, Bool.false_eq_true, List.append_nil, List.nil_append, List.append_assoc]⟩, (by simp only; omega), Sub.o [(101, 101), (137, 1420)] [false, true, false, false, true, true, true]⟩
   refine AW.q 2 ?_
   refine AW.cE (e1.toNat : Int) (116 : Int) (fun h4 => ?_) (fun h4 => ?_)
   · refine AW.g ?_
     refine At.a 3 ?_
     refine At.c (spec_PutNum_spec  m.term (by omega)) Try.call29 true [] [(1860, 0)] [] trivial ?_
     refine At.apC 44 5 1 1 144 1420 1860 encU8 o (putI m.term) (by omega) (allP_encU8 _) ?_
     refine At.z 1 ?_
     refine AW.g ?_
     refine At.a 2 ?_
     refine At.sI 27 ((k : Int) + 1) (by omega) ?_
     refine At.z 1 ?_
     exact ⟨(k + 1, (o ++ (putI m.term))), ⟨by omega, by simp only [List.length_append, List.length_cons, List.length_nil]; omega, by rw [hR, dropCons hl1, fAllS]; simp only [fByteS, h1, h2, h3, h4, if_true, if_false, Int.reduceEq, reduceIte, Bool.false_eq_true, List.append_nil, List.nil_append, List.append_assoc]⟩, (by simp only; omega), Sub.o [(101, 101), (144, 1420)] [false, true, false, false, true, true, true]⟩
   refine AW.q 2 ?_
   refine AW.cE (e1.toNat : Int) (97 : Int) (fun h5 => ?_) (fun h5 => ?_)
   · refine AW.g ?_
     refine At.a 3 ?_
     refine At.c (spec_PutNum_spec  m.at_ (by omega)) Try.call29 true [] [(2000, 0)] [] trivial ?_
     refine At.apC 51 5 1 1 151 1420 2000 encU8 o (putI m.at_) (by omega) (allP_encU8 _) ?_
     refine At.z 1 ?_
     refine AW.g ?_
     refine At.a 2 ?_
     refine At.sI 27 ((k : Int) + 1) (by omega) ?_
     refine At.z 1 ?_
     exact ⟨(k + 1, (o ++ (putI m.at_))), ⟨by omega, by simp only [List.length_append, List.length_cons, List.length_nil]; omega, by rw [hR, dropCons hl1, fAllS]; simp only [fByteS, h1, h2, h3, h4, h5, if_true, if_false, Int.reduceEq, reduceIte, Bool.false_eq_true, List.append_nil, List.nil_append, List.append_assoc]⟩, (by simp only; omega), Sub.o [(101, 101), (151, 1420)] [false, true, false, false, true, true, true]⟩
   refine AW.q 2 ?_
   refine AW.cE (e1.toNat : Int) (115 : Int) (fun h6 => ?_) (fun h6 => ?_)
   · refine AW.g ?_
     refine At.a 3 ?_
     refine At.c (spec_PutNum_spec  m.atTerm (by omega)) Try.call29 true [] [(2140, 0)] [] trivial ?_
     refine At.apC 58 5 1 1 158 1420 2140 encU8 o (putI m.atTerm) (by omega) (allP_encU8 _) ?_
     refine At.z 1 ?_
     refine AW.g ?_
     refine At.a 2 ?_
     refine At.sI 27 ((k : Int) + 1) (by omega) ?_
     refine At.z 1 ?_
     exact ⟨(k + 1, (o ++ (putI m.atTerm))), ⟨by omega, by simp only [List.length_append, List.length_cons, List.length_nil]; omega, by rw [hR, dropCons hl1, fAllS]; simp only [fByteS, h1, h2, h3, h4, h5, h6, if_true, if_false, Int.reduceEq, reduceIte, Bool.false_eq_true, List.append_nil, List.nil_append, List.append_assoc]⟩, (by simp only; omega), Sub.o [(101, 101), (158, 1420)] [false, true, false, false, true, true, true]⟩
   refine AW.q 2 ?_
   refine AW.cE (e1.toNat : Int) (99 : Int) (fun h7 => ?_) (fun h7 => ?_)
   · refine AW.g ?_
     refine At.a 3 ?_
     refine At.c (spec_PutNum_spec  m.commit (by omega)) Try.call29 true [] [(2280, 0)] [] trivial ?_
     refine At.apC 65 5 1 1 165 1420 2280 encU8 o (putI m.commit) (by omega) (allP_encU8 _) ?_
     refine At.z 1 ?_
     refine AW.g ?_
     refine At.a 2 ?_
     refine At.sI 27 ((k : Int) + 1) (by omega) ?_
     refine At.z 1 ?_
     exact ⟨(k + 1, (o ++ (putI m.commit))), ⟨by omega, by simp only [List.length_append, List.length_cons, List.length_nil]; omega, by rw [hR, dropCons hl1, fAllS]; simp only [fByteS, h1, h2, h3, h4, h5, h6, h7, if_true, if_false, Int.reduceEq, reduceIte, Bool.false_eq_true, List.append_nil, List.nil_append, List.append_assoc]⟩, (by simp only; omega), Sub.o [(101, 101), (165, 1420)] [false, true, false, false, true, true, true]⟩
   refine AW.q 2 ?_
   refine AW.cE (e1.toNat : Int) (121 : Int) (fun h8 => ?_) (fun h8 => ?_)
   · refine AW.q 2 ?_
     refine AW.cB (m.yes) (fun h9 => ?_) (fun h9 => ?_)
     · refine AW.g ?_
       refine At.a 1 ?_
       refine At.ll 71 5 1 171 (56, 6) (([(1 : UInt8)]).map encU8) ?_
       refine At.apK 72 5 1 1 172 1420 171 encU8 o ([(1 : UInt8)]) (by simp only [List.length_map, List.length_append, List.length_take, List.length_drop, List.length_replicate, List.length_set, List.length_cons, List.length_nil]; omega) ?_
       refine At.z 1 ?_
       refine AW.g ?_
       refine At.a 2 ?_
       refine At.sI 27 ((k : Int) + 1) (by omega) ?_
       refine At.z 1 ?_
       exact ⟨(k + 1, (o ++ ([(1 : UInt8)]))), ⟨by omega, by simp only [List.length_append, List.length_cons, List.length_nil]; omega, by rw [hR, dropCons hl1, fAllS]; simp only [fByteS, h1, h2, h3, h4, h5, h6, h7, h8, h9, if_true, if_false, Int.reduceEq, reduceIte, Bool.false_eq_true, List.append_nil, List.nil_append, List.append_assoc]⟩, (by simp only; omega), Sub.o [(101, 101), (172, 1420)] [false, true, false, false, true, true, true]⟩
     refine AW.g ?_
     refine At.a 1 ?_
     refine At.ll 74 5 1 174 (56, 6) (([(0 : UInt8)]).map encU8) ?_
     refine At.apK 75 5 1 1 175 1420 174 encU8 o ([(0 : UInt8)]) (by simp only [List.length_map, List.length_append, List.length_take, List.length_drop, List.length_replicate, List.length_set, List.length_cons, List.length_nil]; omega) ?_
     refine At.z 1 ?_
     refine AW.g ?_
     refine At.a 2 ?_
     refine At.sI 27 ((k : Int) + 1) (by omega) ?_
     refine At.z 1 ?_
     exact ⟨(k + 1, (o ++ ([(0 : UInt8)]))), ⟨by omega, by simp only [List.length_append, List.length_cons, List.length_nil]; omega, by rw [hR, dropCons hl1, fAllS]; simp only [fByteS, h1, h2, h3, h4, h5, h6, h7, h8, h9, if_true, if_false, Int.reduceEq, reduceIte, Bool.false_eq_true, List.append_nil, List.nil_append, List.append_assoc]⟩, (by simp only; omega), Sub.o [(101, 101), (175, 1420)] [false, true, false, false, true, true, true]⟩
   refine AW.q 2 ?_
   refine AW.cE (e1.toNat : Int) (114 : Int) (fun h10 => ?_) (fun h10 => ?_)
   · refine AW.g ?_
     refine At.a 3 ?_
     refine At.c (spec_PutNum_spec  m.release (by omega)) Try.call29 true [] [(2620, 0)] [] trivial ?_
     refine At.apC 82 5 1 1 182 1420 2620 encU8 o (putI m.release) (by omega) (allP_encU8 _) ?_
     refine At.z 1 ?_
     refine AW.g ?_
     refine At.a 2 ?_
     refine At.sI 27 ((k : Int) + 1) (by omega) ?_
     refine At.z 1 ?_
     exact ⟨(k + 1, (o ++ (putI m.release))), ⟨by omega, by simp only [List.length_append, List.length_cons, List.length_nil]; omega, by rw [hR, dropCons hl1, fAllS]; simp only [fByteS, h1, h2, h3, h4, h5, h6, h7, h8, h10, if_true, if_false, Int.reduceEq, reduceIte, Bool.false_eq_true, List.append_nil, List.nil_append, List.append_assoc]⟩, (by simp only; omega), Sub.o [(101, 101), (182, 1420)] [false, true, false, false, true, true, true]⟩
   refine AW.q 2 ?_
   refine AW.cE (e1.toNat : Int) (112 : Int) (fun h11 => ?_) (fun h11 => ?_)
   · refine AW.g ?_
     refine At.a 3 ?_
     refine At.c (spec_PutNum_spec  m.part (by omega)) Try.call29 true [] [(2760, 0)] [] trivial ?_
     refine At.apC 89 5 1 1 189 1420 2760 encU8 o (putI m.part) (by omega) (allP_encU8 _) ?_
     refine At.z 1 ?_
     refine AW.g ?_
     refine At.a 2 ?_
     refine At.sI 27 ((k : Int) + 1) (by omega) ?_
     refine At.z 1 ?_
     exact ⟨(k + 1, (o ++ (putI m.part))), ⟨by omega, by simp only [List.length_append, List.length_cons, List.length_nil]; omega, by rw [hR, dropCons hl1, fAllS]; simp only [fByteS, h1, h2, h3, h4, h5, h6, h7, h8, h10, h11, if_true, if_false, Int.reduceEq, reduceIte, Bool.false_eq_true, List.append_nil, List.nil_append, List.append_assoc]⟩, (by simp only; omega), Sub.o [(101, 101), (189, 1420)] [false, true, false, false, true, true, true]⟩
   refine AW.q 2 ?_
   refine AW.cE (e1.toNat : Int) (98 : Int) (fun h12 => ?_) (fun h12 => ?_)
   · refine AW.g ?_
     refine At.a 3 ?_
     refine At.c (spec_PutText_spec  m.bytes (by omega)) Try.call30 true [] [(2900, 0)] [] trivial ?_
     refine At.apC 96 5 1 1 196 1420 2900 encU8 o (putT m.bytes) (by omega) (allP_encU8 _) ?_
     refine At.z 1 ?_
     refine AW.g ?_
     refine At.a 2 ?_
     refine At.sI 27 ((k : Int) + 1) (by omega) ?_
     refine At.z 1 ?_
     exact ⟨(k + 1, (o ++ (putT m.bytes))), ⟨by omega, by simp only [List.length_append, List.length_cons, List.length_nil]; omega, by rw [hR, dropCons hl1, fAllS]; simp only [fByteS, h1, h2, h3, h4, h5, h6, h7, h8, h10, h11, h12, if_true, if_false, Int.reduceEq, reduceIte, Bool.false_eq_true, List.append_nil, List.nil_append, List.append_assoc]⟩, (by simp only; omega), Sub.o [(101, 101), (196, 1420)] [false, true, false, false, true, true, true]⟩
   refine AW.q 2 ?_
   refine AW.cE (e1.toNat : Int) (100 : Int) (fun h13 => ?_) (fun h13 => ?_)
   · refine AW.r ?_
     refine At.a 2 ?_
     refine At.c (spec_CmdPack_spec  m.cmd ) Try.call31 true [] [(3040, 0)] [] trivial ?_
     refine At.z 5 ?_
     refine AW.g ?_
     refine At.a 2 ?_
     refine At.apC 107 5 1 1 207 1420 3040 encU8 o (cmdP m.cmd) (by omega) (allP_encU8 _) ?_
     refine At.z 1 ?_
     refine AW.g ?_
     refine At.a 2 ?_
     refine At.sI 27 ((k : Int) + 1) (by omega) ?_
     refine At.z 1 ?_
     exact ⟨(k + 1, (o ++ (cmdP m.cmd))), ⟨by omega, by simp only [List.length_append, List.length_cons, List.length_nil]; omega, by rw [hR, dropCons hl1, fAllS]; simp only [fByteS, h1, h2, h3, h4, h5, h6, h7, h8, h10, h11, h12, h13, if_true, if_false, Int.reduceEq, reduceIte, Bool.false_eq_true, List.append_nil, List.nil_append, List.append_assoc]⟩, (by simp only; omega), Sub.o [(101, 101), (207, 1420)] [false, true, false, false, true, true, true]⟩
   refine AW.q 2 ?_
   refine AW.cE (e1.toNat : Int) (101 : Int) (fun h14 => ?_) (fun h14 => ?_)
   · refine AW.r ?_
     refine At.a 4 ?_
     refine At.sL 113 encEnt m.entries ?_
     refine At.c (spec_PutNum_spec  (m.entries.length : Int) (by omega)) Try.call29 true [] [(3280, 0)] [] trivial ?_
     refine At.apC 115 5 1 1 215 1420 3280 encU8 o (putI (m.entries.length : Int)) (by omega) (allP_encU8 _) ?_
     refine At.z 1 ?_
     refine AW.q 1 ?_
     refine AW.block ?_
     refine AW.loopW (fun (x : Nat × List UInt8) => match x with | (j, q) => Go.Sy.mk [.un, .ptr 101 0 0, .un, .un, .str (l8F m.kind), .ref 215, .int .i64 (k : Int), .un, .un, .int .i64 (j : Int)] [(101, .box 34 [.int .i64 m.kind, .int .i64 m.from_, .int .i64 m.term, .int .i64 m.at_, .int .i64 m.atTerm, .int .i64 m.commit, .bool m.yes, .int .i64 m.release, .int .i64 m.part, .str m.bytes, .int .i64 m.cmd.kind, .int .i64 m.cmd.release, .int .i64 m.cmd.node, .int .i64 m.cmd.size, .str m.cmd.digest, .sl false 6 (m.entries.map encEnt)]), (215, .arr 5 1 (q.map encU8))]) (fun (x : Nat × List UInt8) => match x with | (j, q) => j ≤ m.entries.length ∧ q.length ≤ 4000 * k + 18 + 77 * j ∧ o ++ packE m.entries = q ++ entsB (m.entries.drop j)) (fun (x : Nat × List UInt8) => match x with | (j, q) => m.entries.length - j) (0, o ++ (putI (m.entries.length : Int))) ⟨by omega, by simp only [List.length_append]; omega, by rw [List.drop_zero, packE, List.append_assoc]⟩ (Sub.o [(101, 101), (215, 215)] [false, true, false, false, true, true, true, false, false, true]) ?_
     rintro ⟨j, q⟩ ⟨hj, hq, hS⟩
     refine AW.seq ?_
     refine AW.r ?_
     refine At.a 4 ?_
     refine At.sL 119 encEnt m.entries ?_
     refine At.z 1 ?_
     refine AW.cD ((j : Int) < (m.entries.length : Int)) (fun h15 => ?_) (fun h15 => ?_)
     · refine AW.skip ?_
       refine AW.seq ?_
       refine AW.block ?_
       refine AW.r ?_
       refine At.a 4 ?_
       refine At.iSl 32 127 (.tmp 125) (.tmp 126) false 6 (m.entries.map encEnt) .i64 (j : Int) 56 (by omega) (by simp only [List.length_map]; omega) ?_
       refine At.a 1 ?_
       refine Exists.elim (gE m.entries j (by omega)) fun e2 he2 => ?_
       have hxe2 := b9 _ (List.mem_of_getElem? he2)
       have hpe2 := putI_len hxe2
       have hqe2 := cmdP_len e2.cmd
       refine At.lVp 3 129 (.tmp 128) false 6 (m.entries.map encEnt) j 0 false 1 (encEnt e2) (.int .i64 e2.term) (mapGet he2) ?_
       refine At.c (spec_PutNum_spec  e2.term (by omega)) Try.call29 true [] [(3600, 0)] [] trivial ?_
       refine At.apC 131 5 1 1 231 215 3600 encU8 q (putI e2.term) (by omega) (allP_encU8 _) ?_
       refine At.z 1 ?_
       refine AW.r ?_
       refine At.a 3 ?_
       refine At.iSl 32 136 (.tmp 134) (.tmp 135) false 6 (m.entries.map encEnt) .i64 (j : Int) 56 (by omega) (by simp only [List.length_map]; omega) ?_
       refine At.a 1 ?_
       refine At.lVp 31 138 (.tmp 137) false 6 (m.entries.map encEnt) j 1 true 5 (encEnt e2) (.agg [.int .i64 e2.cmd.kind, .int .i64 e2.cmd.release, .int .i64 e2.cmd.node, .int .i64 e2.cmd.size, .str e2.cmd.digest]) (mapGet he2) ?_
       refine At.c (spec_CmdPack_spec  e2.cmd ) Try.call31 true [] [(3780, 0)] [] trivial ?_
       refine At.z 5 ?_
       refine AW.g ?_
       refine At.a 2 ?_
       refine At.apC 144 5 1 1 244 231 3780 encU8 (q ++ (putI e2.term)) (cmdP e2.cmd) (by simp only [List.length_map, List.length_append, List.length_take, List.length_drop, List.length_replicate, List.length_set, List.length_cons, List.length_nil]; omega) (allP_encU8 _) ?_
       refine At.z 1 ?_
       refine AW.g ?_
       refine At.a 2 ?_
       refine At.sI 122 ((j : Int) + 1) (by omega) ?_
       refine At.z 1 ?_
       exact ⟨(j + 1, ((q ++ (putI e2.term)) ++ (cmdP e2.cmd))), ⟨by omega, by simp only [List.length_append]; omega, by rw [hS, dropCons he2, entsB]; simp only [List.append_assoc]⟩, (by simp only; omega), Sub.o [(101, 101), (244, 215)] [false, true, false, false, true, true, true, false, false, true]⟩
     refine AW.exit ?_
     refine AW.g ?_
     refine At.a 2 ?_
     refine At.sI 27 ((k : Int) + 1) (by omega) ?_
     refine At.z 1 ?_
     exact ⟨(k + 1, q), ⟨by omega, by omega, by rw [hR, dropCons hl1, fAllS]; simp only [fByteS, h1, h2, h3, h4, h5, h6, h7, h8, h10, h11, h12, h13, h14, h15, if_true, if_false, Int.reduceEq, reduceIte, Bool.false_eq_true, List.append_nil, List.nil_append, ← List.append_assoc]; rw [hS, List.drop_of_length_le (by omega), entsB, List.append_nil]⟩, (by simp only; omega), Sub.o [(101, 101), (215, 1420)] [false, true, false, false, true, true, true]⟩
   refine AW.skip ?_
   refine AW.g ?_
   refine At.a 2 ?_
   refine At.sI 27 ((k : Int) + 1) (by omega) ?_
   refine At.z 1 ?_
   exact ⟨(k + 1, o), ⟨by omega, by omega, by rw [hR, dropCons hl1, fAllS]; simp only [fByteS, h1, h2, h3, h4, h5, h6, h7, h8, h10, h11, h12, h13, h14, if_true, if_false, Int.reduceEq, reduceIte, Bool.false_eq_true, List.append_nil, List.nil_append, List.append_assoc]⟩, (by simp only; omega), Sub.o [(101, 101), (1420, 1420)] [false, true, false, false, true, true, true]⟩
 refine AW.exit ?_
 refine AW.r ?_
 refine At.a 1 ?_
 refine At.c (spec_Seal_spec  o (by omega)) Try.call32 false [] [(3920, 0)] [(1420, 1, (o.map encU8))] ⟨rfl, ⟨5, (o.map encU8), by kernel_rfl, FrzIs.same (allP_encU8 _)⟩, trivial⟩ ?_
 refine At.z 4 ?_
 exact AW.ret (rf (k2 (K_spec_MsgPack _ m) (show (sealP o) = (msgP m) from by rw [msgP_yes (by assumption), hR, List.drop_of_length_le (by rw [Array.length_toList]; show (l8F m.kind).size ≤ _; omega)]; simp [fAllS]) (show (decide (¬ (o.length : Int) > 3000)) = (msgPok m) from by rw [msgPok_yes (by assumption), hR, List.drop_of_length_le (by rw [Array.length_toList]; show (l8F m.kind).size ≤ _; omega)]; simp [fAllS]) (KF.n [(3920, 0)])))
theorem impl_fieldsOf_spec  (kind : Int) : FnSpec Try.prog 37 [.int .i64 kind] [] (.str (fieldsL kind)) [] := by
 refine FnSpec.of 18 Try.func37 rfl Try.ntmps37 (by simp) (AW.weakK ?_)
 refine AW.q 1 ?_
 refine AW.seq ?_
 refine AW.q 1 ?_
 refine AW.block ?_
 refine AW.q 2 ?_
 refine AW.cE kind (1 : Int) (fun h1 => ?_) (fun h1 => ?_)
 · refine AW.q 1 ?_
   refine AW.ret ?_
   refine ⟨_, Sub.refl _ _, ?_⟩
   refine KF.conv (fun w => .str w) (fun w => []) (show ((⟨#[102, 116, 97, 120]⟩ : ByteArray)) = (fieldsL kind) from by simp [fieldsL, h1]) ?_
   exact KF.n []
 refine AW.q 2 ?_
 refine AW.cE kind (2 : Int) (fun h2 => ?_) (fun h2 => ?_)
 · refine AW.q 1 ?_
   refine AW.ret ?_
   refine ⟨_, Sub.refl _ _, ?_⟩
   refine KF.conv (fun w => .str w) (fun w => []) (show ((⟨#[102, 116, 121]⟩ : ByteArray)) = (fieldsL kind) from by simp [fieldsL, h1, h2]) ?_
   exact KF.n []
 refine AW.q 2 ?_
 refine AW.cE kind (3 : Int) (fun h3 => ?_) (fun h3 => ?_)
 · refine AW.q 1 ?_
   refine AW.ret ?_
   refine ⟨_, Sub.refl _ _, ?_⟩
   refine KF.conv (fun w => .str w) (fun w => []) (show ((⟨#[102, 116, 97, 120, 99, 101]⟩ : ByteArray)) = (fieldsL kind) from by simp [fieldsL, h1, h2, h3]) ?_
   exact KF.n []
 refine AW.q 2 ?_
 refine AW.cE kind (4 : Int) (fun h4 => ?_) (fun h4 => ?_)
 · refine AW.q 1 ?_
   refine AW.ret ?_
   refine ⟨_, Sub.refl _ _, ?_⟩
   refine KF.conv (fun w => .str w) (fun w => []) (show ((⟨#[102, 116, 121, 97]⟩ : ByteArray)) = (fieldsL kind) from by simp [fieldsL, h1, h2, h3, h4]) ?_
   exact KF.n []
 refine AW.q 2 ?_
 refine AW.cE kind (5 : Int) (fun h5 => ?_) (fun h5 => ?_)
 · refine AW.q 1 ?_
   refine AW.ret ?_
   refine ⟨_, Sub.refl _ _, ?_⟩
   refine KF.conv (fun w => .str w) (fun w => []) (show ((⟨#[102, 114, 112]⟩ : ByteArray)) = (fieldsL kind) from by simp [fieldsL, h1, h2, h3, h4, h5]) ?_
   exact KF.n []
 refine AW.q 2 ?_
 refine AW.cE kind (6 : Int) (fun h6 => ?_) (fun h6 => ?_)
 · refine AW.q 1 ?_
   refine AW.ret ?_
   refine ⟨_, Sub.refl _ _, ?_⟩
   refine KF.conv (fun w => .str w) (fun w => []) (show ((⟨#[102, 114, 112, 98]⟩ : ByteArray)) = (fieldsL kind) from by simp [fieldsL, h1, h2, h3, h4, h5, h6]) ?_
   exact KF.n []
 refine AW.q 2 ?_
 refine AW.cE kind (7 : Int) (fun h7 => ?_) (fun h7 => ?_)
 · refine AW.q 1 ?_
   refine AW.ret ?_
   refine ⟨_, Sub.refl _ _, ?_⟩
   refine KF.conv (fun w => .str w) (fun w => []) (show ((⟨#[102, 100]⟩ : ByteArray)) = (fieldsL kind) from by simp [fieldsL, h1, h2, h3, h4, h5, h6, h7]) ?_
   exact KF.n []
 refine AW.skip ?_
 refine AW.q 1 ?_
 refine AW.ret ?_
 refine ⟨_, Sub.refl _ _, ?_⟩
 refine KF.conv (fun w => .str w) (fun w => []) (show ((⟨#[]⟩ : ByteArray)) = (fieldsL kind) from by simp [fieldsL, h1, h2, h3, h4, h5, h6, h7]) ?_
 exact KF.n []
theorem impl_within_spec  (n : Int) (low : Int) (high : Int) : FnSpec Try.prog 85 [.int .i64 n, .int .i64 low, .int .i64 high] [] (.bool (inR n low high)) [] := by
 refine FnSpec.of 15 Try.func85 rfl Try.ntmps85 (by simp) (AW.weakK ?_)
 refine AW.q 1 ?_
 refine AW.r ?_
 refine At.a 4 ?_
 by_cases h1 : n ≥ low
 · refine At.sB 10 _ _ (sayT h1) ?_
   refine At.z 5 ?_
   refine AW.ret ?_
   refine ⟨_, Sub.refl _ _, ?_⟩
   refine KF.conv (fun w => .bool w) (fun w => []) (show (decide (n ≤ high)) = (inR n low high) from by simp [inR, *]) ?_
   exact KF.n []
 refine At.sB 10 _ _ (sayF h1) ?_
 refine At.z 5 ?_
 refine AW.ret ?_
 refine ⟨_, Sub.refl _ _, ?_⟩
 refine KF.conv (fun w => .bool w) (fun w => []) (show (false) = (inR n low high) from by simp [inR, *]) ?_
 exact KF.n []
theorem impl_isNode_spec  (n : Int) : FnSpec Try.prog 83 [.int .i64 n] [] (.bool (inR n 0 4)) [] := by
 refine FnSpec.of 5 Try.func83 rfl Try.ntmps83 (by simp) (AW.weakK ?_)
 refine AW.q 1 ?_
 refine AW.r ?_
 refine At.a 1 ?_
 refine At.c (impl_within_spec  n 0 4 ) Try.call85 true [] [] [] trivial ?_
 refine At.z 1 ?_
 exact AW.ret (rf (KF.n []))
theorem impl_isWhole_spec  (n : Int) : FnSpec Try.prog 84 [.int .i64 n] [] (.bool (inR n 0 1000000000)) [] := by
 refine FnSpec.of 5 Try.func84 rfl Try.ntmps84 (by simp) (AW.weakK ?_)
 refine AW.q 1 ?_
 refine AW.r ?_
 refine At.a 1 ?_
 refine At.c (impl_within_spec  n 0 1000000000 ) Try.call85 true [] [] [] trivial ?_
 refine At.z 1 ?_
 exact AW.ret (rf (KF.n []))
theorem impl_isRelease_spec  (n : Int) : FnSpec Try.prog 86 [.int .i64 n] [] (.bool (inR n 1 1000)) [] := by
 refine FnSpec.of 5 Try.func86 rfl Try.ntmps86 (by simp) (AW.weakK ?_)
 refine AW.q 1 ?_
 refine AW.r ?_
 refine At.a 1 ?_
 refine At.c (impl_within_spec  n 1 1000 ) Try.call85 true [] [] [] trivial ?_
 refine At.z 1 ?_
 exact AW.ret (rf (KF.n []))
theorem impl_isSize_spec  (n : Int) : FnSpec Try.prog 87 [.int .i64 n] [] (.bool (inR n 0 1000)) [] := by
 refine FnSpec.of 5 Try.func87 rfl Try.ntmps87 (by simp) (AW.weakK ?_)
 refine AW.q 1 ?_
 refine AW.r ?_
 refine At.a 1 ?_
 refine At.c (impl_within_spec  n 0 1000 ) Try.call85 true [] [] [] trivial ?_
 refine At.z 1 ?_
 exact AW.ret (rf (KF.n []))
def K_impl_CmdOk (rs : List ResultVar) (c : Cmd) (w0_ : Bool) : Exit → Sg → Prop := KF Try.prog 0 rs (.bool w0_) []
theorem impl_CmdOk_spec  (c : Cmd) : FnSpec Try.prog 88 [.agg [.int .i64 c.kind, .int .i64 c.release, .int .i64 c.node, .int .i64 c.size, .str c.digest]] [] (.bool (cmdOk c)) [] := by
 refine FnSpec.of 52 Try.func88 rfl Try.ntmps88 (by simp) (AW.weakK ?_)
 refine AW.q 2 ?_
 refine AW.q 3 ?_
 refine AW.q 4 ?_
 refine AW.r ?_
 refine At.a 2 ?_
 refine At.c (impl_isRelease_spec  c.release ) Try.call86 true [] [] [] trivial ?_
 refine At.z 1 ?_
 refine AW.seq ?_
 refine AW.q 2 ?_
 refine AW.block ?_
 refine AW.q 2 ?_
 refine AW.cE c.kind (1 : Int) (fun h1 => ?_) (fun h1 => ?_)
 · refine AW.gq 4 ?_
   refine AW.r ?_
   refine At.a 2 ?_
   by_cases h2 : c.release = 0
   · refine At.sB 47 _ _ (sayET h2) ?_
     refine At.a 2 ?_
     refine At.eqA (t := 31) (u := 31) (d := 50) (op := .eql) (x := .tmp 48) (y := .tmp 49) (X := [.int .i64 0, .int .i64 0, .int .i64 c.node, .int .i64 c.size, .str c.digest]) (Y := [.int .i64 0, .int .i64 0, .int .i64 0, .int .i64 0, .str (⟨#[]⟩ : ByteArray)]) (cmdEq (⟨0, 0, c.node, c.size, c.digest⟩ : Cmd) (⟨0, 0, 0, 0, (⟨#[]⟩ : ByteArray)⟩ : Cmd)) (by kernel_rfl) (by kernel_rfl) (by kernel_rfl) (by kernel_rfl) (by kernel_rfl) (.bool (cmdEq (⟨0, 0, c.node, c.size, c.digest⟩ : Cmd) (⟨0, 0, 0, 0, (⟨#[]⟩ : ByteArray)⟩ : Cmd))) (.inl ⟨rfl, rfl⟩) ?_
     refine At.z 2 ?_
     exact AW.ret (rf (k1 (K_impl_CmdOk _ c) (show (cmdEq (⟨0, 0, c.node, c.size, c.digest⟩ : Cmd) (⟨0, 0, 0, 0, (⟨#[]⟩ : ByteArray)⟩ : Cmd)) = (cmdOk c) from by (try simp only [inR_iff, inR_not] at *); rw [Bool.eq_iff_iff]; simp only [cmdOk, cmdEq, noBytes]; (repeat' split) <;> (try simp [inR_iff]) <;> grind) (KF.n [])))
   refine At.sB 47 _ _ (sayEF h2) ?_
   refine At.z 5 ?_
   exact AW.ret (rf (k1 (K_impl_CmdOk _ c) (show (false) = (cmdOk c) from by (try simp only [inR_iff, inR_not] at *); rw [Bool.eq_iff_iff]; simp only [cmdOk, cmdEq, noBytes]; (repeat' split) <;> (try simp [inR_iff]) <;> grind) (KF.n [])))
 refine AW.q 2 ?_
 refine AW.cE c.kind (2 : Int) (fun h3 => ?_) (fun h3 => ?_)
 · refine AW.r ?_
   refine At.a 2 ?_
   by_cases h4 : (inR c.release 1 1000) = true
   · refine At.sB 21 (inR c.release 1 1000) true (sayB h4) ?_
     refine At.a 2 ?_
     refine At.c (impl_isSize_spec  c.size ) Try.call87 true [] [] [] trivial ?_
     refine At.a 2 ?_
     by_cases h5 : (inR c.size 0 1000) = true
     · refine At.sB 26 (inR c.size 0 1000) true (sayB h5) ?_
       refine At.z 6 ?_
       refine AW.gq 4 ?_
       refine AW.r ?_
       refine At.a 2 ?_
       by_cases h6 : (c.digest.size : Int) = 32
       · refine At.sB 47 _ _ (sayET h6) ?_
         refine At.a 2 ?_
         refine At.eqA (t := 31) (u := 31) (d := 50) (op := .eql) (x := .tmp 48) (y := .tmp 49) (X := [.int .i64 0, .int .i64 0, .int .i64 c.node, .int .i64 0, .str (⟨#[]⟩ : ByteArray)]) (Y := [.int .i64 0, .int .i64 0, .int .i64 0, .int .i64 0, .str (⟨#[]⟩ : ByteArray)]) (cmdEq (⟨0, 0, c.node, 0, (⟨#[]⟩ : ByteArray)⟩ : Cmd) (⟨0, 0, 0, 0, (⟨#[]⟩ : ByteArray)⟩ : Cmd)) (by kernel_rfl) (by kernel_rfl) (by kernel_rfl) (by kernel_rfl) (by kernel_rfl) (.bool (cmdEq (⟨0, 0, c.node, 0, (⟨#[]⟩ : ByteArray)⟩ : Cmd) (⟨0, 0, 0, 0, (⟨#[]⟩ : ByteArray)⟩ : Cmd))) (.inl ⟨rfl, rfl⟩) ?_
         refine At.z 2 ?_
         exact AW.ret (rf (k1 (K_impl_CmdOk _ c) (show (cmdEq (⟨0, 0, c.node, 0, (⟨#[]⟩ : ByteArray)⟩ : Cmd) (⟨0, 0, 0, 0, (⟨#[]⟩ : ByteArray)⟩ : Cmd)) = (cmdOk c) from by (try simp only [inR_iff, inR_not] at *); rw [Bool.eq_iff_iff]; simp only [cmdOk, cmdEq, noBytes]; (repeat' split) <;> (try simp [inR_iff]) <;> grind) (KF.n [])))
       refine At.sB 47 _ _ (sayEF h6) ?_
       refine At.z 5 ?_
       exact AW.ret (rf (k1 (K_impl_CmdOk _ c) (show (false) = (cmdOk c) from by (try simp only [inR_iff, inR_not] at *); rw [Bool.eq_iff_iff]; simp only [cmdOk, cmdEq, noBytes]; (repeat' split) <;> (try simp [inR_iff]) <;> grind) (KF.n [])))
     refine At.sB 26 (inR c.size 0 1000) false (sayB (Bool.eq_false_iff.2 h5)) ?_
     replace h5 := Bool.eq_false_iff.2 h5
     refine At.z 6 ?_
     refine AW.gq 4 ?_
     refine AW.q 7 ?_
     exact AW.ret (rf (k1 (K_impl_CmdOk _ c) (show (false) = (cmdOk c) from by (try simp only [inR_iff, inR_not] at *); rw [Bool.eq_iff_iff]; simp only [cmdOk, cmdEq, noBytes]; (repeat' split) <;> (try simp [inR_iff]) <;> grind) (KF.n [])))
   refine At.sB 21 (inR c.release 1 1000) false (sayB (Bool.eq_false_iff.2 h4)) ?_
   replace h4 := Bool.eq_false_iff.2 h4
   refine At.z 11 ?_
   refine AW.gq 4 ?_
   refine AW.q 7 ?_
   exact AW.ret (rf (k1 (K_impl_CmdOk _ c) (show (false) = (cmdOk c) from by (try simp only [inR_iff, inR_not] at *); rw [Bool.eq_iff_iff]; simp only [cmdOk, cmdEq, noBytes]; (repeat' split) <;> (try simp [inR_iff]) <;> grind) (KF.n [])))
 refine AW.q 2 ?_
 refine AW.cE c.kind (3 : Int) (fun h7 => ?_) (fun h7 => ?_)
 · refine AW.r ?_
   refine At.a 2 ?_
   by_cases h8 : (inR c.release 1 1000) = true
   · refine At.sB 37 (inR c.release 1 1000) true (sayB h8) ?_
     refine At.a 2 ?_
     refine At.c (impl_isNode_spec  c.node ) Try.call83 true [] [] [] trivial ?_
     refine At.z 2 ?_
     refine AW.gq 2 ?_
     refine AW.r ?_
     refine At.a 2 ?_
     by_cases h9 : (inR c.node 0 4) = true
     · refine At.sB 47 (inR c.node 0 4) true (sayB h9) ?_
       refine At.a 2 ?_
       refine At.eqA (t := 31) (u := 31) (d := 50) (op := .eql) (x := .tmp 48) (y := .tmp 49) (X := [.int .i64 0, .int .i64 0, .int .i64 0, .int .i64 c.size, .str c.digest]) (Y := [.int .i64 0, .int .i64 0, .int .i64 0, .int .i64 0, .str (⟨#[]⟩ : ByteArray)]) (cmdEq (⟨0, 0, 0, c.size, c.digest⟩ : Cmd) (⟨0, 0, 0, 0, (⟨#[]⟩ : ByteArray)⟩ : Cmd)) (by kernel_rfl) (by kernel_rfl) (by kernel_rfl) (by kernel_rfl) (by kernel_rfl) (.bool (cmdEq (⟨0, 0, 0, c.size, c.digest⟩ : Cmd) (⟨0, 0, 0, 0, (⟨#[]⟩ : ByteArray)⟩ : Cmd))) (.inl ⟨rfl, rfl⟩) ?_
       refine At.z 2 ?_
       exact AW.ret (rf (k1 (K_impl_CmdOk _ c) (show (cmdEq (⟨0, 0, 0, c.size, c.digest⟩ : Cmd) (⟨0, 0, 0, 0, (⟨#[]⟩ : ByteArray)⟩ : Cmd)) = (cmdOk c) from by (try simp only [inR_iff, inR_not] at *); rw [Bool.eq_iff_iff]; simp only [cmdOk, cmdEq, noBytes]; (repeat' split) <;> (try simp [inR_iff]) <;> grind) (KF.n [])))
     refine At.sB 47 (inR c.node 0 4) false (sayB (Bool.eq_false_iff.2 h9)) ?_
     replace h9 := Bool.eq_false_iff.2 h9
     refine At.z 5 ?_
     exact AW.ret (rf (k1 (K_impl_CmdOk _ c) (show (false) = (cmdOk c) from by (try simp only [inR_iff, inR_not] at *); rw [Bool.eq_iff_iff]; simp only [cmdOk, cmdEq, noBytes]; (repeat' split) <;> (try simp [inR_iff]) <;> grind) (KF.n [])))
   refine At.sB 37 (inR c.release 1 1000) false (sayB (Bool.eq_false_iff.2 h8)) ?_
   replace h8 := Bool.eq_false_iff.2 h8
   refine At.z 5 ?_
   refine AW.gq 2 ?_
   refine AW.q 7 ?_
   exact AW.ret (rf (k1 (K_impl_CmdOk _ c) (show (false) = (cmdOk c) from by (try simp only [inR_iff, inR_not] at *); rw [Bool.eq_iff_iff]; simp only [cmdOk, cmdEq, noBytes]; (repeat' split) <;> (try simp [inR_iff]) <;> grind) (KF.n [])))
 refine AW.seq ?_
 refine AW.q 2 ?_
 refine AW.cE c.kind (4 : Int) (fun h10 => ?_) (fun h10 => ?_)
 · refine AW.skip ?_
   refine AW.cE c.kind (4 : Int) (fun h11 => ?_) (fun h11 => ?_)
   · refine AW.skip ?_
     refine AW.r ?_
     refine At.a 2 ?_
     by_cases h12 : (inR c.release 1 1000) = true
     · refine At.sB 47 (inR c.release 1 1000) true (sayB h12) ?_
       refine At.a 2 ?_
       refine At.eqA (t := 31) (u := 31) (d := 50) (op := .eql) (x := .tmp 48) (y := .tmp 49) (X := [.int .i64 0, .int .i64 0, .int .i64 c.node, .int .i64 c.size, .str c.digest]) (Y := [.int .i64 0, .int .i64 0, .int .i64 0, .int .i64 0, .str (⟨#[]⟩ : ByteArray)]) (cmdEq (⟨0, 0, c.node, c.size, c.digest⟩ : Cmd) (⟨0, 0, 0, 0, (⟨#[]⟩ : ByteArray)⟩ : Cmd)) (by kernel_rfl) (by kernel_rfl) (by kernel_rfl) (by kernel_rfl) (by kernel_rfl) (.bool (cmdEq (⟨0, 0, c.node, c.size, c.digest⟩ : Cmd) (⟨0, 0, 0, 0, (⟨#[]⟩ : ByteArray)⟩ : Cmd))) (.inl ⟨rfl, rfl⟩) ?_
       refine At.z 2 ?_
       exact AW.ret (rf (k1 (K_impl_CmdOk _ c) (show (cmdEq (⟨0, 0, c.node, c.size, c.digest⟩ : Cmd) (⟨0, 0, 0, 0, (⟨#[]⟩ : ByteArray)⟩ : Cmd)) = (cmdOk c) from by (try simp only [inR_iff, inR_not] at *); rw [Bool.eq_iff_iff]; simp only [cmdOk, cmdEq, noBytes]; (repeat' split) <;> (try simp [inR_iff]) <;> grind) (KF.n [])))
     refine At.sB 47 (inR c.release 1 1000) false (sayB (Bool.eq_false_iff.2 h12)) ?_
     replace h12 := Bool.eq_false_iff.2 h12
     refine At.z 5 ?_
     exact AW.ret (rf (k1 (K_impl_CmdOk _ c) (show (false) = (cmdOk c) from by (try simp only [inR_iff, inR_not] at *); rw [Bool.eq_iff_iff]; simp only [cmdOk, cmdEq, noBytes]; (repeat' split) <;> (try simp [inR_iff]) <;> grind) (KF.n [])))
   refine AW.q 1 ?_
   exact AW.ret (rf (k1 (K_impl_CmdOk _ c) (show (false) = (cmdOk c) from by (try simp only [inR_iff, inR_not] at *); rw [Bool.eq_iff_iff]; simp only [cmdOk, cmdEq, noBytes]; (repeat' split) <;> (try simp [inR_iff]) <;> grind) (KF.n [])))
 refine AW.gq 2 ?_
 refine AW.cE c.kind (5 : Int) (fun h13 => ?_) (fun h13 => ?_)
 · refine AW.skip ?_
   refine AW.r ?_
   refine At.a 2 ?_
   by_cases h14 : (inR c.release 1 1000) = true
   · refine At.sB 47 (inR c.release 1 1000) true (sayB h14) ?_
     refine At.a 2 ?_
     refine At.eqA (t := 31) (u := 31) (d := 50) (op := .eql) (x := .tmp 48) (y := .tmp 49) (X := [.int .i64 0, .int .i64 0, .int .i64 c.node, .int .i64 c.size, .str c.digest]) (Y := [.int .i64 0, .int .i64 0, .int .i64 0, .int .i64 0, .str (⟨#[]⟩ : ByteArray)]) (cmdEq (⟨0, 0, c.node, c.size, c.digest⟩ : Cmd) (⟨0, 0, 0, 0, (⟨#[]⟩ : ByteArray)⟩ : Cmd)) (by kernel_rfl) (by kernel_rfl) (by kernel_rfl) (by kernel_rfl) (by kernel_rfl) (.bool (cmdEq (⟨0, 0, c.node, c.size, c.digest⟩ : Cmd) (⟨0, 0, 0, 0, (⟨#[]⟩ : ByteArray)⟩ : Cmd))) (.inl ⟨rfl, rfl⟩) ?_
     refine At.z 2 ?_
     exact AW.ret (rf (k1 (K_impl_CmdOk _ c) (show (cmdEq (⟨0, 0, c.node, c.size, c.digest⟩ : Cmd) (⟨0, 0, 0, 0, (⟨#[]⟩ : ByteArray)⟩ : Cmd)) = (cmdOk c) from by (try simp only [inR_iff, inR_not] at *); rw [Bool.eq_iff_iff]; simp only [cmdOk, cmdEq, noBytes]; (repeat' split) <;> (try simp [inR_iff]) <;> grind) (KF.n [])))
   refine At.sB 47 (inR c.release 1 1000) false (sayB (Bool.eq_false_iff.2 h14)) ?_
   replace h14 := Bool.eq_false_iff.2 h14
   refine At.z 5 ?_
   exact AW.ret (rf (k1 (K_impl_CmdOk _ c) (show (false) = (cmdOk c) from by (try simp only [inR_iff, inR_not] at *); rw [Bool.eq_iff_iff]; simp only [cmdOk, cmdEq, noBytes]; (repeat' split) <;> (try simp [inR_iff]) <;> grind) (KF.n [])))
 refine AW.q 1 ?_
 exact AW.ret (rf (k1 (K_impl_CmdOk _ c) (show (false) = (cmdOk c) from by (try simp only [inR_iff, inR_not] at *); rw [Bool.eq_iff_iff]; simp only [cmdOk, cmdEq, noBytes]; (repeat' split) <;> (try simp [inR_iff]) <;> grind) (KF.n [])))
theorem impl_entryOk_spec  (e : Ent) : FnSpec Try.prog 95 [.agg [.int .i64 e.term, .int .i64 e.cmd.kind, .int .i64 e.cmd.release, .int .i64 e.cmd.node, .int .i64 e.cmd.size, .str e.cmd.digest]] [] (.bool (entOk e)) [] := by
 refine FnSpec.of 11 Try.func95 rfl Try.ntmps95 (by simp) (AW.weakK ?_)
 refine AW.q 2 ?_
 refine AW.r ?_
 refine At.a 2 ?_
 refine At.c (impl_within_spec  e.term 1 1000000000 ) Try.call85 true [] [] [] trivial ?_
 refine At.a 1 ?_
 by_cases h1 : (inR e.term 1 1000000000) = true
 · refine At.sB 6 (inR e.term 1 1000000000) true (sayB h1) ?_
   have h1i := inR_iff.1 h1
   refine At.a 2 ?_
   refine At.c (impl_CmdOk_spec  e.cmd ) Try.call88 true [] [] [] trivial ?_
   refine At.z 2 ?_
   refine AW.ret ?_
   refine ⟨_, Sub.refl _ _, ?_⟩
   refine KF.conv (fun w => .bool w) (fun w => []) (show (cmdOk e.cmd) = (entOk e) from by (try simp only [inR_iff, inR_not] at *); rw [Bool.eq_iff_iff]; simp only [entOk, noBytes]; (repeat' split) <;> (try simp [inR_iff]) <;> grind) ?_
   exact KF.n []
 refine At.sB 6 (inR e.term 1 1000000000) false (sayB (Bool.eq_false_iff.2 h1)) ?_
 replace h1 := Bool.eq_false_iff.2 h1
 refine At.z 5 ?_
 refine AW.ret ?_
 refine ⟨_, Sub.refl _ _, ?_⟩
 refine KF.conv (fun w => .bool w) (fun w => []) (show (false) = (entOk e) from by (try simp only [inR_iff, inR_not] at *); rw [Bool.eq_iff_iff]; simp only [entOk, noBytes]; (repeat' split) <;> (try simp [inR_iff]) <;> grind) ?_
 exact KF.n []
theorem impl_entriesOk_spec  (list : List Ent) (hl : list.length ≤ 1048576) : FnSpec Try.prog 89 [.sl false 6 (list.map encEnt)] [] (.bool (entsFit list)) [] := by
 refine FnSpec.of 18 Try.func89 rfl Try.ntmps89 (by simp) (AW.weakK ?_)
 refine AW.q 1 ?_
 refine AW.seq ?_
 refine AW.r ?_
 refine At.a 2 ?_
 refine At.sL 6 encEnt list ?_
 refine At.z 1 ?_
 refine AW.block ?_
 refine AW.loopW (fun (k : Nat) => Go.Sy.mk [.sl false 6 (list.map encEnt), .un, .un, .un, .un, .sl false 6 (list.map encEnt), .int .i64 (list.length : Int), .int .i64 (k : Int)] []) (fun (k : Nat) => k ≤ list.length ∧ entsOk list = entsOk (list.drop k)) (fun (k : Nat) => list.length - k) 0 ⟨by omega, by rw [List.drop_zero]⟩ (Sub.o [] [true, false, false, false, false, true, true, true]) ?_
 rintro k ⟨hk, hR⟩
 refine AW.q 1 ?_
 refine AW.seq ?_
 refine AW.cD ((k : Int) < (list.length : Int)) (fun h1 => ?_) (fun h1 => ?_)
 · refine AW.skip ?_
   refine AW.seq ?_
   refine AW.block ?_
   refine AW.r ?_
   refine At.iSl 32 9 (.tmp 5) (.tmp 7) false 6 (list.map encEnt) .i64 (k : Int) 56 (by omega) (by simp only [List.length_map]; omega) ?_
   refine Exists.elim (gE list k (by omega)) fun e1 he1 => ?_
   refine At.lVp 56 10 (.tmp 9) false 6 (list.map encEnt) k 0 true 6 (encEnt e1) (.agg [.int .i64 e1.term, .int .i64 e1.cmd.kind, .int .i64 e1.cmd.release, .int .i64 e1.cmd.node, .int .i64 e1.cmd.size, .str e1.cmd.digest]) (mapGet he1) ?_
   refine At.z 2 ?_
   refine AW.r ?_
   refine At.a 1 ?_
   refine At.c (impl_entryOk_spec  e1 ) Try.call95 true [] [] [] trivial ?_
   refine At.z 1 ?_
   refine AW.cNB (entOk e1) (fun h2 => ?_) (fun h2 => ?_)
   · refine AW.q 1 ?_
     refine AW.ret ?_
     refine ⟨_, Sub.refl _ _, ?_⟩
     refine KF.conv (fun w => .bool w) (fun w => []) (show (false) = (entsFit list) from by rw [dropCons he1] at hR; grind [entsFit, entsOk]) ?_
     exact KF.n []
   have h2n := entOk_nums h2
   refine AW.skip ?_
   refine AW.g ?_
   refine At.a 1 ?_
   refine At.sI 14 ((k : Int) + 1) (by omega) ?_
   refine At.z 1 ?_
   exact ⟨k + 1, ⟨by omega, by rw [hR, dropCons he1, entsOk]; simp only [*, Bool.true_and]⟩, (by omega), Sub.o [] [true, false, false, false, false, true, true, true]⟩
 refine AW.exit ?_
 refine AW.r ?_
 refine At.a 2 ?_
 refine At.sL 16 encEnt list ?_
 refine At.z 2 ?_
 refine AW.ret ?_
 refine ⟨_, Sub.refl _ _, ?_⟩
 refine KF.conv (fun w => .bool w) (fun w => []) (show (decide ((list.length : Int) ≤ 6)) = (entsFit list) from by rw [List.drop_of_length_le (by omega)] at hR; grind [entsFit, entsOk]) ?_
 exact KF.n []
def K_impl_Msg_take (rs : List ResultVar) (m : Msg) (field : UInt8) (w0_ : Bool) (w1_ : Msg) : Exit → Sg → Prop := KF Try.prog 1 rs (.bool w0_) [.box 34 [.int .i64 w1_.kind, .int .i64 w1_.from_, .int .i64 w1_.term, .int .i64 w1_.at_, .int .i64 w1_.atTerm, .int .i64 w1_.commit, .bool w1_.yes, .int .i64 w1_.release, .int .i64 w1_.part, .str w1_.bytes, .int .i64 w1_.cmd.kind, .int .i64 w1_.cmd.release, .int .i64 w1_.cmd.node, .int .i64 w1_.cmd.size, .str w1_.cmd.digest, .sl false 6 (w1_.entries.map encEnt)]]
theorem impl_Msg_take_spec  (m : Msg) (field : UInt8) (hl : m.entries.length ≤ 1048576) : FnSpec Try.prog 66 [.ptr 0 0 0, .int .u8 (field.toNat : Int)] [.box 34 [.int .i64 m.kind, .int .i64 m.from_, .int .i64 m.term, .int .i64 m.at_, .int .i64 m.atTerm, .int .i64 m.commit, .bool m.yes, .int .i64 m.release, .int .i64 m.part, .str m.bytes, .int .i64 m.cmd.kind, .int .i64 m.cmd.release, .int .i64 m.cmd.node, .int .i64 m.cmd.size, .str m.cmd.digest, .sl false 6 (m.entries.map encEnt)]] (.bool (takeOk m field.toNat)) [.box 34 [.int .i64 ((takeM m field.toNat).kind), .int .i64 ((takeM m field.toNat).from_), .int .i64 ((takeM m field.toNat).term), .int .i64 ((takeM m field.toNat).at_), .int .i64 ((takeM m field.toNat).atTerm), .int .i64 ((takeM m field.toNat).commit), .bool ((takeM m field.toNat).yes), .int .i64 ((takeM m field.toNat).release), .int .i64 ((takeM m field.toNat).part), .str ((takeM m field.toNat).bytes), .int .i64 ((takeM m field.toNat).cmd.kind), .int .i64 ((takeM m field.toNat).cmd.release), .int .i64 ((takeM m field.toNat).cmd.node), .int .i64 ((takeM m field.toNat).cmd.size), .str ((takeM m field.toNat).cmd.digest), .sl false 6 (((takeM m field.toNat).entries).map encEnt)]] := by
 refine FnSpec.of 113 Try.func66 rfl Try.ntmps66 (by simp) (AW.weakK ?_)
 refine AW.q 1 ?_
 refine AW.q 1 ?_
 refine AW.seq ?_
 refine AW.q 1 ?_
 refine AW.block ?_
 refine AW.q 2 ?_
 refine AW.cE (field.toNat : Int) (102 : Int) (fun h1 => ?_) (fun h1 => ?_)
 · refine AW.g ?_
   refine At.a 5 ?_
   refine At.c (impl_isNode_spec  m.from_ ) Try.call83 true [] [] [] trivial ?_
   refine At.z 4 ?_
   refine AW.q 2 ?_
   exact AW.ret (rf (k2 (K_impl_Msg_take _ m field) (show (inR m.from_ 0 4) = (takeOk m field.toNat) from by simp only [takeOk, takeM, h1, if_true, if_false] <;> rfl) (show ((⟨m.kind, 0, m.term, m.at_, m.atTerm, m.commit, m.yes, m.release, m.part, m.bytes, m.cmd, m.entries⟩ : Msg)) = (takeM m field.toNat) from by simp only [takeOk, takeM, h1, if_true, if_false] <;> rfl) (KF.n [(0, 0)])))
 refine AW.q 2 ?_
 refine AW.cE (field.toNat : Int) (116 : Int) (fun h2 => ?_) (fun h2 => ?_)
 · refine AW.g ?_
   refine At.a 5 ?_
   refine At.c (impl_isWhole_spec  m.term ) Try.call84 true [] [] [] trivial ?_
   refine At.z 4 ?_
   refine AW.q 2 ?_
   exact AW.ret (rf (k2 (K_impl_Msg_take _ m field) (show (inR m.term 0 1000000000) = (takeOk m field.toNat) from by simp only [takeOk, takeM, h1, h2, if_true, if_false] <;> rfl) (show ((⟨m.kind, m.from_, 0, m.at_, m.atTerm, m.commit, m.yes, m.release, m.part, m.bytes, m.cmd, m.entries⟩ : Msg)) = (takeM m field.toNat) from by simp only [takeOk, takeM, h1, h2, if_true, if_false] <;> rfl) (KF.n [(0, 0)])))
 refine AW.q 2 ?_
 refine AW.cE (field.toNat : Int) (97 : Int) (fun h3 => ?_) (fun h3 => ?_)
 · refine AW.g ?_
   refine At.a 5 ?_
   refine At.c (impl_within_spec  m.at_ 0 80 ) Try.call85 true [] [] [] trivial ?_
   refine At.z 4 ?_
   refine AW.q 2 ?_
   exact AW.ret (rf (k2 (K_impl_Msg_take _ m field) (show (inR m.at_ 0 80) = (takeOk m field.toNat) from by simp only [takeOk, takeM, h1, h2, h3, if_true, if_false] <;> rfl) (show ((⟨m.kind, m.from_, m.term, 0, m.atTerm, m.commit, m.yes, m.release, m.part, m.bytes, m.cmd, m.entries⟩ : Msg)) = (takeM m field.toNat) from by simp only [takeOk, takeM, h1, h2, h3, if_true, if_false] <;> rfl) (KF.n [(0, 0)])))
 refine AW.q 2 ?_
 refine AW.cE (field.toNat : Int) (120 : Int) (fun h4 => ?_) (fun h4 => ?_)
 · refine AW.g ?_
   refine At.a 5 ?_
   refine At.c (impl_isWhole_spec  m.atTerm ) Try.call84 true [] [] [] trivial ?_
   refine At.z 4 ?_
   refine AW.q 2 ?_
   exact AW.ret (rf (k2 (K_impl_Msg_take _ m field) (show (inR m.atTerm 0 1000000000) = (takeOk m field.toNat) from by simp only [takeOk, takeM, h1, h2, h3, h4, if_true, if_false] <;> rfl) (show ((⟨m.kind, m.from_, m.term, m.at_, 0, m.commit, m.yes, m.release, m.part, m.bytes, m.cmd, m.entries⟩ : Msg)) = (takeM m field.toNat) from by simp only [takeOk, takeM, h1, h2, h3, h4, if_true, if_false] <;> rfl) (KF.n [(0, 0)])))
 refine AW.q 2 ?_
 refine AW.cE (field.toNat : Int) (99 : Int) (fun h5 => ?_) (fun h5 => ?_)
 · refine AW.g ?_
   refine At.a 5 ?_
   refine At.c (impl_within_spec  m.commit 0 80 ) Try.call85 true [] [] [] trivial ?_
   refine At.z 4 ?_
   refine AW.q 2 ?_
   exact AW.ret (rf (k2 (K_impl_Msg_take _ m field) (show (inR m.commit 0 80) = (takeOk m field.toNat) from by simp only [takeOk, takeM, h1, h2, h3, h4, h5, if_true, if_false] <;> rfl) (show ((⟨m.kind, m.from_, m.term, m.at_, m.atTerm, 0, m.yes, m.release, m.part, m.bytes, m.cmd, m.entries⟩ : Msg)) = (takeM m field.toNat) from by simp only [takeOk, takeM, h1, h2, h3, h4, h5, if_true, if_false] <;> rfl) (KF.n [(0, 0)])))
 refine AW.q 2 ?_
 refine AW.cE (field.toNat : Int) (121 : Int) (fun h6 => ?_) (fun h6 => ?_)
 · refine AW.gq 4 ?_
   refine AW.q 2 ?_
   exact AW.ret (rf (k2 (K_impl_Msg_take _ m field) (show (true) = (takeOk m field.toNat) from by simp only [takeOk, takeM, h1, h2, h3, h4, h5, h6, if_true, if_false] <;> rfl) (show ((⟨m.kind, m.from_, m.term, m.at_, m.atTerm, m.commit, false, m.release, m.part, m.bytes, m.cmd, m.entries⟩ : Msg)) = (takeM m field.toNat) from by simp only [takeOk, takeM, h1, h2, h3, h4, h5, h6, if_true, if_false] <;> rfl) (KF.n [(0, 0)])))
 refine AW.q 2 ?_
 refine AW.cE (field.toNat : Int) (114 : Int) (fun h7 => ?_) (fun h7 => ?_)
 · refine AW.g ?_
   refine At.a 5 ?_
   refine At.c (impl_isRelease_spec  m.release ) Try.call86 true [] [] [] trivial ?_
   refine At.z 4 ?_
   refine AW.q 2 ?_
   exact AW.ret (rf (k2 (K_impl_Msg_take _ m field) (show (inR m.release 1 1000) = (takeOk m field.toNat) from by simp only [takeOk, takeM, h1, h2, h3, h4, h5, h6, h7, if_true, if_false] <;> rfl) (show ((⟨m.kind, m.from_, m.term, m.at_, m.atTerm, m.commit, m.yes, 0, m.part, m.bytes, m.cmd, m.entries⟩ : Msg)) = (takeM m field.toNat) from by simp only [takeOk, takeM, h1, h2, h3, h4, h5, h6, h7, if_true, if_false] <;> rfl) (KF.n [(0, 0)])))
 refine AW.q 2 ?_
 refine AW.cE (field.toNat : Int) (112 : Int) (fun h8 => ?_) (fun h8 => ?_)
 · refine AW.g ?_
   refine At.a 5 ?_
   refine At.c (impl_isSize_spec  m.part ) Try.call87 true [] [] [] trivial ?_
   refine At.z 4 ?_
   refine AW.q 2 ?_
   exact AW.ret (rf (k2 (K_impl_Msg_take _ m field) (show (inR m.part 0 1000) = (takeOk m field.toNat) from by simp only [takeOk, takeM, h1, h2, h3, h4, h5, h6, h7, h8, if_true, if_false] <;> rfl) (show ((⟨m.kind, m.from_, m.term, m.at_, m.atTerm, m.commit, m.yes, m.release, 0, m.bytes, m.cmd, m.entries⟩ : Msg)) = (takeM m field.toNat) from by simp only [takeOk, takeM, h1, h2, h3, h4, h5, h6, h7, h8, if_true, if_false] <;> rfl) (KF.n [(0, 0)])))
 refine AW.q 2 ?_
 refine AW.cE (field.toNat : Int) (98 : Int) (fun h9 => ?_) (fun h9 => ?_)
 · refine AW.g ?_
   refine At.a 6 ?_
   refine At.c (impl_within_spec  (m.bytes.size : Int) 1 16 ) Try.call85 true [] [] [] trivial ?_
   refine At.z 4 ?_
   refine AW.q 2 ?_
   exact AW.ret (rf (k2 (K_impl_Msg_take _ m field) (show (inR (m.bytes.size : Int) 1 16) = (takeOk m field.toNat) from by simp only [takeOk, takeM, h1, h2, h3, h4, h5, h6, h7, h8, h9, if_true, if_false] <;> rfl) (show ((⟨m.kind, m.from_, m.term, m.at_, m.atTerm, m.commit, m.yes, m.release, m.part, (⟨#[]⟩ : ByteArray), m.cmd, m.entries⟩ : Msg)) = (takeM m field.toNat) from by simp only [takeOk, takeM, h1, h2, h3, h4, h5, h6, h7, h8, h9, if_true, if_false] <;> rfl) (KF.n [(0, 0)])))
 refine AW.q 2 ?_
 refine AW.cE (field.toNat : Int) (100 : Int) (fun h10 => ?_) (fun h10 => ?_)
 · refine AW.g ?_
   refine At.a 5 ?_
   refine At.c (impl_CmdOk_spec  m.cmd ) Try.call88 true [] [] [] trivial ?_
   refine At.z 5 ?_
   refine AW.q 2 ?_
   exact AW.ret (rf (k2 (K_impl_Msg_take _ m field) (show (cmdOk m.cmd) = (takeOk m field.toNat) from by simp only [takeOk, takeM, h1, h2, h3, h4, h5, h6, h7, h8, h9, h10, if_true, if_false] <;> rfl) (show ((⟨m.kind, m.from_, m.term, m.at_, m.atTerm, m.commit, m.yes, m.release, m.part, m.bytes, ⟨0, 0, 0, 0, (⟨#[]⟩ : ByteArray)⟩, m.entries⟩ : Msg)) = (takeM m field.toNat) from by simp only [takeOk, takeM, h1, h2, h3, h4, h5, h6, h7, h8, h9, h10, if_true, if_false] <;> rfl) (KF.n [(0, 0)])))
 refine AW.g ?_
 refine At.a 5 ?_
 refine At.c (impl_entriesOk_spec  m.entries (by omega)) Try.call89 true [] [] [] trivial ?_
 refine At.z 4 ?_
 refine AW.seq ?_
 refine AW.weak (Sub.nsl 0 15 34 6 [.int .i64 m.kind, .int .i64 m.from_, .int .i64 m.term, .int .i64 m.at_, .int .i64 m.atTerm, .int .i64 m.commit, .bool m.yes, .int .i64 m.release, .int .i64 m.part, .str m.bytes, .int .i64 m.cmd.kind, .int .i64 m.cmd.release, .int .i64 m.cmd.node, .int .i64 m.cmd.size, .str m.cmd.digest, .nil] (by kernel_rfl)) ?_
 refine AW.gq 2 ?_
 exact AW.ret (rf (k2 (K_impl_Msg_take _ m field) (show (entsFit m.entries) = (takeOk m field.toNat) from by simp only [takeOk, takeM, h1, h2, h3, h4, h5, h6, h7, h8, h9, h10, if_true, if_false] <;> rfl) (show ((⟨m.kind, m.from_, m.term, m.at_, m.atTerm, m.commit, m.yes, m.release, m.part, m.bytes, m.cmd, []⟩ : Msg)) = (takeM m field.toNat) from by simp only [takeOk, takeM, h1, h2, h3, h4, h5, h6, h7, h8, h9, h10, if_true, if_false] <;> rfl) (KF.n [(0, 0)])))
theorem slices_Equal_spec  (s1 : List Ent) (s2 : List Ent) (ha : s1.length ≤ 1048576) (hb : s2.length ≤ 1048576) : FnSpec Try.prog 56 [.sl false 6 (s1.map encEnt), .sl false 6 (s2.map encEnt)] [] (.bool (listEq entEq s1 s2)) [] := by
 refine FnSpec.of 26 Try.func56 rfl Try.ntmps56 (by simp) (AW.weakK ?_)
 refine AW.q 1 ?_
 refine AW.seq ?_
 refine AW.r ?_
 refine At.a 2 ?_
 refine At.sL 7 encEnt s1 ?_
 refine At.a 2 ?_
 refine At.sL 9 encEnt s2 ?_
 refine At.z 1 ?_
 refine AW.cU (s1.length : Int) (s2.length : Int) (fun h1 => ?_) (fun h1 => ?_)
 · refine AW.q 1 ?_
   refine AW.ret ?_
   refine ⟨_, Sub.refl _ _, ?_⟩
   refine KF.conv (fun w => .bool w) (fun w => []) (show (false) = (listEq entEq s1 s2) from by rw [listEq_len (by omega)]) ?_
   exact KF.n []
 refine AW.skip ?_
 refine AW.seq ?_
 refine AW.r ?_
 refine At.a 2 ?_
 refine At.sL 12 encEnt s1 ?_
 refine At.z 1 ?_
 refine AW.block ?_
 refine AW.loopW (fun (k : Nat) => Go.Sy.mk [.sl false 6 (s1.map encEnt), .sl false 6 (s2.map encEnt), .un, .un, .un, .un, .un, .un, .un, .un, .un, .un, .int .i64 (s1.length : Int), .int .i64 (k : Int)] []) (fun (k : Nat) => k ≤ s1.length ∧ listEq entEq s1 s2 = listEq entEq (s1.drop k) (s2.drop k)) (fun (k : Nat) => s1.length - k) 0 ⟨by omega, by rw [List.drop_zero, List.drop_zero]⟩ (Sub.o [] [true, true, false, false, false, false, false, false, false, false, false, false, true, true]) ?_
 rintro k ⟨hk, hR⟩
 refine AW.q 1 ?_
 refine AW.seq ?_
 refine AW.cD ((k : Int) < (s1.length : Int)) (fun h2 => ?_) (fun h2 => ?_)
 · refine AW.skip ?_
   refine AW.seq ?_
   refine AW.block ?_
   refine AW.q 2 ?_
   refine AW.seq ?_
   refine AW.gD Try_mix ?_
   refine At.a 2 ?_
   refine At.iSl 32 18 (.tmp 16) (.tmp 17) false 6 (s1.map encEnt) .i64 (k : Int) 56 (by omega) (by simp only [List.length_map]; omega) ?_
   refine Exists.elim (gE s1 k (by omega)) fun e1 he1 => ?_
   refine At.lVp 56 19 (.tmp 18) false 6 (s1.map encEnt) k 0 true 6 (encEnt e1) (.agg [.int .i64 e1.term, .int .i64 e1.cmd.kind, .int .i64 e1.cmd.release, .int .i64 e1.cmd.node, .int .i64 e1.cmd.size, .str e1.cmd.digest]) (mapGet he1) ?_
   refine At.a 2 ?_
   refine At.iSl 32 22 (.tmp 20) (.tmp 21) false 6 (s2.map encEnt) .i64 (k : Int) 56 (by omega) (by simp only [List.length_map]; omega) ?_
   refine Exists.elim (gE s2 k (by omega)) fun e2 he2 => ?_
   refine At.lVp 56 23 (.tmp 22) false 6 (s2.map encEnt) k 0 true 6 (encEnt e2) (.agg [.int .i64 e2.term, .int .i64 e2.cmd.kind, .int .i64 e2.cmd.release, .int .i64 e2.cmd.node, .int .i64 e2.cmd.size, .str e2.cmd.digest]) (mapGet he2) ?_
   refine At.eqA (t := 56) (u := 56) (d := 24) (op := .neq) (x := .tmp 19) (y := .tmp 23) (X := [.int .i64 e1.term, .int .i64 e1.cmd.kind, .int .i64 e1.cmd.release, .int .i64 e1.cmd.node, .int .i64 e1.cmd.size, .str e1.cmd.digest]) (Y := [.int .i64 e2.term, .int .i64 e2.cmd.kind, .int .i64 e2.cmd.release, .int .i64 e2.cmd.node, .int .i64 e2.cmd.size, .str e2.cmd.digest]) (entEq e1 e2) (by kernel_rfl) (by kernel_rfl) (by kernel_rfl) (by kernel_rfl) (by kernel_rfl) (.bool (!(entEq e1 e2))) (.inr ⟨rfl, rfl⟩) ?_
   refine At.done rfl ⟨by kernel_rfl, ?_⟩
   refine AW.cNB (entEq e1 e2) (fun h3 => ?_) (fun h3 => ?_)
   · refine AW.q 1 ?_
     refine AW.ret ?_
     refine ⟨_, Sub.refl _ _, ?_⟩
     refine KF.conv (fun w => .bool w) (fun w => []) (show (false) = (listEq entEq s1 s2) from by rw [hR, dropCons he1, dropCons he2, listEq]; simp [*]) ?_
     exact KF.n []
   refine AW.skip ?_
   refine AW.g ?_
   refine At.a 1 ?_
   refine At.sI 25 ((k : Int) + 1) (by omega) ?_
   refine At.z 1 ?_
   exact ⟨k + 1, ⟨by omega, by rw [hR, dropCons he1, dropCons he2, listEq]; simp [*]⟩, (by omega), Sub.o [] [true, true, false, false, false, false, false, false, false, false, false, false, true, true]⟩
 refine AW.exit ?_
 refine AW.q 1 ?_
 refine AW.ret ?_
 refine ⟨_, Sub.refl _ _, ?_⟩
 refine KF.conv (fun w => .bool w) (fun w => []) (show (true) = (listEq entEq s1 s2) from by rw [hR, List.drop_of_length_le (by omega), List.drop_of_length_le (by omega)]; rfl) ?_
 exact KF.n []
def K_impl_MsgSame (rs : List ResultVar) (a : Msg) (b : Msg) (w0_ : Bool) : Exit → Sg → Prop := KF Try.prog 0 rs (.bool w0_) []
theorem impl_MsgSame_spec  (a : Msg) (b : Msg) (ha : a.entries.length ≤ 1048576) (hb : b.entries.length ≤ 1048576) : FnSpec Try.prog 23 [(msgA a), (msgA b)] [] (.bool (msgEq a b)) [] := by
 refine FnSpec.of 91 Try.func23 rfl Try.ntmps23 (by simp) (AW.weakK ?_)
 refine AW.q 3 ?_
 refine AW.r ?_
 refine At.a 6 ?_
 by_cases h1 : a.kind = b.kind
 · refine At.sB 12 _ _ (sayET h1) ?_
   refine At.a 7 ?_
   by_cases h2 : a.from_ = b.from_
   · refine At.sB 19 _ _ (sayET h2) ?_
     refine At.a 7 ?_
     by_cases h3 : a.term = b.term
     · refine At.sB 26 _ _ (sayET h3) ?_
       refine At.a 7 ?_
       by_cases h4 : a.at_ = b.at_
       · refine At.sB 33 _ _ (sayET h4) ?_
         refine At.a 7 ?_
         by_cases h5 : a.atTerm = b.atTerm
         · refine At.sB 40 _ _ (sayET h5) ?_
           refine At.z 7 ?_
           refine AW.r ?_
           refine At.a 4 ?_
           refine At.eqB (t := 4) (u := 4) (d := 51) (op := .eql) (x := .tmp 48) (y := .tmp 50) (a := a.yes) (b := b.yes) (by kernel_rfl) (by kernel_rfl) (by kernel_rfl) (by kernel_rfl) (by kernel_rfl) (.bool (a.yes == b.yes)) (.inl ⟨rfl, rfl⟩) ?_
           refine At.a 1 ?_
           by_cases h6 : (a.yes == b.yes) = true
           · refine At.sB 52 (a.yes == b.yes) true (sayB h6) ?_
             refine At.a 7 ?_
             by_cases h7 : a.release = b.release
             · refine At.sB 59 _ _ (sayET h7) ?_
               refine At.a 7 ?_
               by_cases h8 : a.part = b.part
               · refine At.sB 66 _ _ (sayET h8) ?_
                 refine At.a 7 ?_
                 by_cases h9 : a.bytes.toList = b.bytes.toList
                 · refine At.sB 73 _ _ (sayET h9) ?_
                   refine At.a 4 ?_
                   refine At.eqA (t := 31) (u := 31) (d := 78) (op := .eql) (x := .tmp 75) (y := .tmp 77) (X := [.int .i64 a.cmd.kind, .int .i64 a.cmd.release, .int .i64 a.cmd.node, .int .i64 a.cmd.size, .str a.cmd.digest]) (Y := [.int .i64 b.cmd.kind, .int .i64 b.cmd.release, .int .i64 b.cmd.node, .int .i64 b.cmd.size, .str b.cmd.digest]) (cmdEq a.cmd b.cmd) (by kernel_rfl) (by kernel_rfl) (by kernel_rfl) (by kernel_rfl) (by kernel_rfl) (.bool (cmdEq a.cmd b.cmd)) (.inl ⟨rfl, rfl⟩) ?_
                   refine At.z 2 ?_
                   refine AW.r ?_
                   refine At.a 2 ?_
                   by_cases h10 : a.commit = b.commit
                   · refine At.sB 81 _ _ (sayET h10) ?_
                     refine At.a 3 ?_
                     by_cases h11 : (cmdEq a.cmd b.cmd) = true
                     · refine At.sB 84 (cmdEq a.cmd b.cmd) true (sayB h11) ?_
                       refine At.a 4 ?_
                       refine At.c (slices_Equal_spec  a.entries b.entries (by omega) (by omega)) Try.call56 true [] [] [] trivial ?_
                       refine At.z 2 ?_
                       exact AW.ret (rf (k1 (K_impl_MsgSame _ a b) (show (listEq entEq a.entries b.entries) = (msgEq a b) from by grind [msgEq]) (KF.n [])))
                     refine At.sB 84 (cmdEq a.cmd b.cmd) false (sayB (Bool.eq_false_iff.2 h11)) ?_
                     replace h11 := Bool.eq_false_iff.2 h11
                     refine At.z 7 ?_
                     exact AW.ret (rf (k1 (K_impl_MsgSame _ a b) (show (false) = (msgEq a b) from by grind [msgEq]) (KF.n [])))
                   refine At.sB 81 _ _ (sayEF h10) ?_
                   refine At.z 10 ?_
                   exact AW.ret (rf (k1 (K_impl_MsgSame _ a b) (show (false) = (msgEq a b) from by grind [msgEq]) (KF.n [])))
                 refine At.sB 73 _ _ (sayEF h9) ?_
                 refine At.z 7 ?_
                 refine AW.r ?_
                 refine At.a 2 ?_
                 by_cases h12 : a.commit = b.commit
                 · refine At.sB 81 _ _ (sayET h12) ?_
                   refine At.z 10 ?_
                   exact AW.ret (rf (k1 (K_impl_MsgSame _ a b) (show (false) = (msgEq a b) from by grind [msgEq]) (KF.n [])))
                 refine At.sB 81 _ _ (sayEF h12) ?_
                 refine At.z 10 ?_
                 exact AW.ret (rf (k1 (K_impl_MsgSame _ a b) (show (false) = (msgEq a b) from by grind [msgEq]) (KF.n [])))
               refine At.sB 66 _ _ (sayEF h8) ?_
               refine At.z 14 ?_
               refine AW.r ?_
               refine At.a 2 ?_
               by_cases h13 : a.commit = b.commit
               · refine At.sB 81 _ _ (sayET h13) ?_
                 refine At.z 10 ?_
                 exact AW.ret (rf (k1 (K_impl_MsgSame _ a b) (show (false) = (msgEq a b) from by grind [msgEq]) (KF.n [])))
               refine At.sB 81 _ _ (sayEF h13) ?_
               refine At.z 10 ?_
               exact AW.ret (rf (k1 (K_impl_MsgSame _ a b) (show (false) = (msgEq a b) from by grind [msgEq]) (KF.n [])))
             refine At.sB 59 _ _ (sayEF h7) ?_
             refine At.z 21 ?_
             refine AW.r ?_
             refine At.a 2 ?_
             by_cases h14 : a.commit = b.commit
             · refine At.sB 81 _ _ (sayET h14) ?_
               refine At.z 10 ?_
               exact AW.ret (rf (k1 (K_impl_MsgSame _ a b) (show (false) = (msgEq a b) from by grind [msgEq]) (KF.n [])))
             refine At.sB 81 _ _ (sayEF h14) ?_
             refine At.z 10 ?_
             exact AW.ret (rf (k1 (K_impl_MsgSame _ a b) (show (false) = (msgEq a b) from by grind [msgEq]) (KF.n [])))
           refine At.sB 52 (a.yes == b.yes) false (sayB (Bool.eq_false_iff.2 h6)) ?_
           replace h6 := Bool.eq_false_iff.2 h6
           refine At.z 28 ?_
           refine AW.r ?_
           refine At.a 2 ?_
           by_cases h15 : a.commit = b.commit
           · refine At.sB 81 _ _ (sayET h15) ?_
             refine At.z 10 ?_
             exact AW.ret (rf (k1 (K_impl_MsgSame _ a b) (show (false) = (msgEq a b) from by grind [msgEq]) (KF.n [])))
           refine At.sB 81 _ _ (sayEF h15) ?_
           refine At.z 10 ?_
           exact AW.ret (rf (k1 (K_impl_MsgSame _ a b) (show (false) = (msgEq a b) from by grind [msgEq]) (KF.n [])))
         refine At.sB 40 _ _ (sayEF h5) ?_
         refine At.z 7 ?_
         refine AW.r ?_
         refine At.a 4 ?_
         refine At.eqB (t := 4) (u := 4) (d := 51) (op := .eql) (x := .tmp 48) (y := .tmp 50) (a := a.yes) (b := b.yes) (by kernel_rfl) (by kernel_rfl) (by kernel_rfl) (by kernel_rfl) (by kernel_rfl) (.bool (a.yes == b.yes)) (.inl ⟨rfl, rfl⟩) ?_
         refine At.a 1 ?_
         by_cases h16 : (a.yes == b.yes) = true
         · refine At.sB 52 (a.yes == b.yes) true (sayB h16) ?_
           refine At.a 7 ?_
           by_cases h17 : a.release = b.release
           · refine At.sB 59 _ _ (sayET h17) ?_
             refine At.a 7 ?_
             by_cases h18 : a.part = b.part
             · refine At.sB 66 _ _ (sayET h18) ?_
               refine At.a 7 ?_
               by_cases h19 : a.bytes.toList = b.bytes.toList
               · refine At.sB 73 _ _ (sayET h19) ?_
                 refine At.a 4 ?_
                 refine At.eqA (t := 31) (u := 31) (d := 78) (op := .eql) (x := .tmp 75) (y := .tmp 77) (X := [.int .i64 a.cmd.kind, .int .i64 a.cmd.release, .int .i64 a.cmd.node, .int .i64 a.cmd.size, .str a.cmd.digest]) (Y := [.int .i64 b.cmd.kind, .int .i64 b.cmd.release, .int .i64 b.cmd.node, .int .i64 b.cmd.size, .str b.cmd.digest]) (cmdEq a.cmd b.cmd) (by kernel_rfl) (by kernel_rfl) (by kernel_rfl) (by kernel_rfl) (by kernel_rfl) (.bool (cmdEq a.cmd b.cmd)) (.inl ⟨rfl, rfl⟩) ?_
                 refine At.z 2 ?_
                 refine AW.q 12 ?_
                 exact AW.ret (rf (k1 (K_impl_MsgSame _ a b) (show (false) = (msgEq a b) from by grind [msgEq]) (KF.n [])))
               refine At.sB 73 _ _ (sayEF h19) ?_
               refine At.z 7 ?_
               refine AW.q 12 ?_
               exact AW.ret (rf (k1 (K_impl_MsgSame _ a b) (show (false) = (msgEq a b) from by grind [msgEq]) (KF.n [])))
             refine At.sB 66 _ _ (sayEF h18) ?_
             refine At.z 14 ?_
             refine AW.q 12 ?_
             exact AW.ret (rf (k1 (K_impl_MsgSame _ a b) (show (false) = (msgEq a b) from by grind [msgEq]) (KF.n [])))
           refine At.sB 59 _ _ (sayEF h17) ?_
           refine At.z 21 ?_
           refine AW.q 12 ?_
           exact AW.ret (rf (k1 (K_impl_MsgSame _ a b) (show (false) = (msgEq a b) from by grind [msgEq]) (KF.n [])))
         refine At.sB 52 (a.yes == b.yes) false (sayB (Bool.eq_false_iff.2 h16)) ?_
         replace h16 := Bool.eq_false_iff.2 h16
         refine At.z 28 ?_
         refine AW.q 12 ?_
         exact AW.ret (rf (k1 (K_impl_MsgSame _ a b) (show (false) = (msgEq a b) from by grind [msgEq]) (KF.n [])))
       refine At.sB 33 _ _ (sayEF h4) ?_
       refine At.z 14 ?_
       refine AW.r ?_
       refine At.a 4 ?_
       refine At.eqB (t := 4) (u := 4) (d := 51) (op := .eql) (x := .tmp 48) (y := .tmp 50) (a := a.yes) (b := b.yes) (by kernel_rfl) (by kernel_rfl) (by kernel_rfl) (by kernel_rfl) (by kernel_rfl) (.bool (a.yes == b.yes)) (.inl ⟨rfl, rfl⟩) ?_
       refine At.a 1 ?_
       by_cases h20 : (a.yes == b.yes) = true
       · refine At.sB 52 (a.yes == b.yes) true (sayB h20) ?_
         refine At.a 7 ?_
         by_cases h21 : a.release = b.release
         · refine At.sB 59 _ _ (sayET h21) ?_
           refine At.a 7 ?_
           by_cases h22 : a.part = b.part
           · refine At.sB 66 _ _ (sayET h22) ?_
             refine At.a 7 ?_
             by_cases h23 : a.bytes.toList = b.bytes.toList
             · refine At.sB 73 _ _ (sayET h23) ?_
               refine At.a 4 ?_
               refine At.eqA (t := 31) (u := 31) (d := 78) (op := .eql) (x := .tmp 75) (y := .tmp 77) (X := [.int .i64 a.cmd.kind, .int .i64 a.cmd.release, .int .i64 a.cmd.node, .int .i64 a.cmd.size, .str a.cmd.digest]) (Y := [.int .i64 b.cmd.kind, .int .i64 b.cmd.release, .int .i64 b.cmd.node, .int .i64 b.cmd.size, .str b.cmd.digest]) (cmdEq a.cmd b.cmd) (by kernel_rfl) (by kernel_rfl) (by kernel_rfl) (by kernel_rfl) (by kernel_rfl) (.bool (cmdEq a.cmd b.cmd)) (.inl ⟨rfl, rfl⟩) ?_
               refine At.z 2 ?_
               refine AW.q 12 ?_
               exact AW.ret (rf (k1 (K_impl_MsgSame _ a b) (show (false) = (msgEq a b) from by grind [msgEq]) (KF.n [])))
             refine At.sB 73 _ _ (sayEF h23) ?_
             refine At.z 7 ?_
             refine AW.q 12 ?_
             exact AW.ret (rf (k1 (K_impl_MsgSame _ a b) (show (false) = (msgEq a b) from by grind [msgEq]) (KF.n [])))
           refine At.sB 66 _ _ (sayEF h22) ?_
           refine At.z 14 ?_
           refine AW.q 12 ?_
           exact AW.ret (rf (k1 (K_impl_MsgSame _ a b) (show (false) = (msgEq a b) from by grind [msgEq]) (KF.n [])))
         refine At.sB 59 _ _ (sayEF h21) ?_
         refine At.z 21 ?_
         refine AW.q 12 ?_
         exact AW.ret (rf (k1 (K_impl_MsgSame _ a b) (show (false) = (msgEq a b) from by grind [msgEq]) (KF.n [])))
       refine At.sB 52 (a.yes == b.yes) false (sayB (Bool.eq_false_iff.2 h20)) ?_
       replace h20 := Bool.eq_false_iff.2 h20
       refine At.z 28 ?_
       refine AW.q 12 ?_
       exact AW.ret (rf (k1 (K_impl_MsgSame _ a b) (show (false) = (msgEq a b) from by grind [msgEq]) (KF.n [])))
     refine At.sB 26 _ _ (sayEF h3) ?_
     refine At.z 21 ?_
     refine AW.r ?_
     refine At.a 4 ?_
     refine At.eqB (t := 4) (u := 4) (d := 51) (op := .eql) (x := .tmp 48) (y := .tmp 50) (a := a.yes) (b := b.yes) (by kernel_rfl) (by kernel_rfl) (by kernel_rfl) (by kernel_rfl) (by kernel_rfl) (.bool (a.yes == b.yes)) (.inl ⟨rfl, rfl⟩) ?_
     refine At.a 1 ?_
     by_cases h24 : (a.yes == b.yes) = true
     · refine At.sB 52 (a.yes == b.yes) true (sayB h24) ?_
       refine At.a 7 ?_
       by_cases h25 : a.release = b.release
       · refine At.sB 59 _ _ (sayET h25) ?_
         refine At.a 7 ?_
         by_cases h26 : a.part = b.part
         · refine At.sB 66 _ _ (sayET h26) ?_
           refine At.a 7 ?_
           by_cases h27 : a.bytes.toList = b.bytes.toList
           · refine At.sB 73 _ _ (sayET h27) ?_
             refine At.a 4 ?_
             refine At.eqA (t := 31) (u := 31) (d := 78) (op := .eql) (x := .tmp 75) (y := .tmp 77) (X := [.int .i64 a.cmd.kind, .int .i64 a.cmd.release, .int .i64 a.cmd.node, .int .i64 a.cmd.size, .str a.cmd.digest]) (Y := [.int .i64 b.cmd.kind, .int .i64 b.cmd.release, .int .i64 b.cmd.node, .int .i64 b.cmd.size, .str b.cmd.digest]) (cmdEq a.cmd b.cmd) (by kernel_rfl) (by kernel_rfl) (by kernel_rfl) (by kernel_rfl) (by kernel_rfl) (.bool (cmdEq a.cmd b.cmd)) (.inl ⟨rfl, rfl⟩) ?_
             refine At.z 2 ?_
             refine AW.q 12 ?_
             exact AW.ret (rf (k1 (K_impl_MsgSame _ a b) (show (false) = (msgEq a b) from by grind [msgEq]) (KF.n [])))
           refine At.sB 73 _ _ (sayEF h27) ?_
           refine At.z 7 ?_
           refine AW.q 12 ?_
           exact AW.ret (rf (k1 (K_impl_MsgSame _ a b) (show (false) = (msgEq a b) from by grind [msgEq]) (KF.n [])))
         refine At.sB 66 _ _ (sayEF h26) ?_
         refine At.z 14 ?_
         refine AW.q 12 ?_
         exact AW.ret (rf (k1 (K_impl_MsgSame _ a b) (show (false) = (msgEq a b) from by grind [msgEq]) (KF.n [])))
       refine At.sB 59 _ _ (sayEF h25) ?_
       refine At.z 21 ?_
       refine AW.q 12 ?_
       exact AW.ret (rf (k1 (K_impl_MsgSame _ a b) (show (false) = (msgEq a b) from by grind [msgEq]) (KF.n [])))
     refine At.sB 52 (a.yes == b.yes) false (sayB (Bool.eq_false_iff.2 h24)) ?_
     replace h24 := Bool.eq_false_iff.2 h24
     refine At.z 28 ?_
     refine AW.q 12 ?_
     exact AW.ret (rf (k1 (K_impl_MsgSame _ a b) (show (false) = (msgEq a b) from by grind [msgEq]) (KF.n [])))
   refine At.sB 19 _ _ (sayEF h2) ?_
   refine At.z 28 ?_
   refine AW.r ?_
   refine At.a 4 ?_
   refine At.eqB (t := 4) (u := 4) (d := 51) (op := .eql) (x := .tmp 48) (y := .tmp 50) (a := a.yes) (b := b.yes) (by kernel_rfl) (by kernel_rfl) (by kernel_rfl) (by kernel_rfl) (by kernel_rfl) (.bool (a.yes == b.yes)) (.inl ⟨rfl, rfl⟩) ?_
   refine At.a 1 ?_
   by_cases h28 : (a.yes == b.yes) = true
   · refine At.sB 52 (a.yes == b.yes) true (sayB h28) ?_
     refine At.a 7 ?_
     by_cases h29 : a.release = b.release
     · refine At.sB 59 _ _ (sayET h29) ?_
       refine At.a 7 ?_
       by_cases h30 : a.part = b.part
       · refine At.sB 66 _ _ (sayET h30) ?_
         refine At.a 7 ?_
         by_cases h31 : a.bytes.toList = b.bytes.toList
         · refine At.sB 73 _ _ (sayET h31) ?_
           refine At.a 4 ?_
           refine At.eqA (t := 31) (u := 31) (d := 78) (op := .eql) (x := .tmp 75) (y := .tmp 77) (X := [.int .i64 a.cmd.kind, .int .i64 a.cmd.release, .int .i64 a.cmd.node, .int .i64 a.cmd.size, .str a.cmd.digest]) (Y := [.int .i64 b.cmd.kind, .int .i64 b.cmd.release, .int .i64 b.cmd.node, .int .i64 b.cmd.size, .str b.cmd.digest]) (cmdEq a.cmd b.cmd) (by kernel_rfl) (by kernel_rfl) (by kernel_rfl) (by kernel_rfl) (by kernel_rfl) (.bool (cmdEq a.cmd b.cmd)) (.inl ⟨rfl, rfl⟩) ?_
           refine At.z 2 ?_
           refine AW.q 12 ?_
           exact AW.ret (rf (k1 (K_impl_MsgSame _ a b) (show (false) = (msgEq a b) from by grind [msgEq]) (KF.n [])))
         refine At.sB 73 _ _ (sayEF h31) ?_
         refine At.z 7 ?_
         refine AW.q 12 ?_
         exact AW.ret (rf (k1 (K_impl_MsgSame _ a b) (show (false) = (msgEq a b) from by grind [msgEq]) (KF.n [])))
       refine At.sB 66 _ _ (sayEF h30) ?_
       refine At.z 14 ?_
       refine AW.q 12 ?_
       exact AW.ret (rf (k1 (K_impl_MsgSame _ a b) (show (false) = (msgEq a b) from by grind [msgEq]) (KF.n [])))
     refine At.sB 59 _ _ (sayEF h29) ?_
     refine At.z 21 ?_
     refine AW.q 12 ?_
     exact AW.ret (rf (k1 (K_impl_MsgSame _ a b) (show (false) = (msgEq a b) from by grind [msgEq]) (KF.n [])))
   refine At.sB 52 (a.yes == b.yes) false (sayB (Bool.eq_false_iff.2 h28)) ?_
   replace h28 := Bool.eq_false_iff.2 h28
   refine At.z 28 ?_
   refine AW.q 12 ?_
   exact AW.ret (rf (k1 (K_impl_MsgSame _ a b) (show (false) = (msgEq a b) from by grind [msgEq]) (KF.n [])))
 refine At.sB 12 _ _ (sayEF h1) ?_
 refine At.z 35 ?_
 refine AW.r ?_
 refine At.a 4 ?_
 refine At.eqB (t := 4) (u := 4) (d := 51) (op := .eql) (x := .tmp 48) (y := .tmp 50) (a := a.yes) (b := b.yes) (by kernel_rfl) (by kernel_rfl) (by kernel_rfl) (by kernel_rfl) (by kernel_rfl) (.bool (a.yes == b.yes)) (.inl ⟨rfl, rfl⟩) ?_
 refine At.a 1 ?_
 by_cases h32 : (a.yes == b.yes) = true
 · refine At.sB 52 (a.yes == b.yes) true (sayB h32) ?_
   refine At.a 7 ?_
   by_cases h33 : a.release = b.release
   · refine At.sB 59 _ _ (sayET h33) ?_
     refine At.a 7 ?_
     by_cases h34 : a.part = b.part
     · refine At.sB 66 _ _ (sayET h34) ?_
       refine At.a 7 ?_
       by_cases h35 : a.bytes.toList = b.bytes.toList
       · refine At.sB 73 _ _ (sayET h35) ?_
         refine At.a 4 ?_
         refine At.eqA (t := 31) (u := 31) (d := 78) (op := .eql) (x := .tmp 75) (y := .tmp 77) (X := [.int .i64 a.cmd.kind, .int .i64 a.cmd.release, .int .i64 a.cmd.node, .int .i64 a.cmd.size, .str a.cmd.digest]) (Y := [.int .i64 b.cmd.kind, .int .i64 b.cmd.release, .int .i64 b.cmd.node, .int .i64 b.cmd.size, .str b.cmd.digest]) (cmdEq a.cmd b.cmd) (by kernel_rfl) (by kernel_rfl) (by kernel_rfl) (by kernel_rfl) (by kernel_rfl) (.bool (cmdEq a.cmd b.cmd)) (.inl ⟨rfl, rfl⟩) ?_
         refine At.z 2 ?_
         refine AW.q 12 ?_
         exact AW.ret (rf (k1 (K_impl_MsgSame _ a b) (show (false) = (msgEq a b) from by grind [msgEq]) (KF.n [])))
       refine At.sB 73 _ _ (sayEF h35) ?_
       refine At.z 7 ?_
       refine AW.q 12 ?_
       exact AW.ret (rf (k1 (K_impl_MsgSame _ a b) (show (false) = (msgEq a b) from by grind [msgEq]) (KF.n [])))
     refine At.sB 66 _ _ (sayEF h34) ?_
     refine At.z 14 ?_
     refine AW.q 12 ?_
     exact AW.ret (rf (k1 (K_impl_MsgSame _ a b) (show (false) = (msgEq a b) from by grind [msgEq]) (KF.n [])))
   refine At.sB 59 _ _ (sayEF h33) ?_
   refine At.z 21 ?_
   refine AW.q 12 ?_
   exact AW.ret (rf (k1 (K_impl_MsgSame _ a b) (show (false) = (msgEq a b) from by grind [msgEq]) (KF.n [])))
 refine At.sB 52 (a.yes == b.yes) false (sayB (Bool.eq_false_iff.2 h32)) ?_
 replace h32 := Bool.eq_false_iff.2 h32
 refine At.z 28 ?_
 refine AW.q 12 ?_
 exact AW.ret (rf (k1 (K_impl_MsgSame _ a b) (show (false) = (msgEq a b) from by grind [msgEq]) (KF.n [])))
end Go.Proofs.Ythjmbojkpkbedaa
