/- The contracts of the functions that FnExactSourcePrint reaches (each: what it answers, said over values), printed by a program of this session (wip/sy/g/gen.py). -/
import Derived.Test.YtahackghhalfeaaDoorFFnExactSourcePrint1
set_option linter.unusedVariables false
set_option linter.unusedSimpArgs false
set_option maxRecDepth 100000
set_option maxHeartbeats 4000000
namespace Go.Proofs.YtahackghhalfeaaDoor
open Go Go.Sy Go.Proofs Go.Proofs.YtahackghhalfeaaDoor.OnRd
theorem laws_eqRule_spec  (a : Rul) (b : Rul) : FnSpec Tryd.prog 44 [.agg [.int .i64 a.name, .int .i64 a.from_, .int .i64 a.to, .int .i64 a.month, .int .i64 a.on.kind, .int .i64 a.on.day, .int .i64 a.on.week, .int .i64 a.at_, .int .i64 a.save], .agg [.int .i64 b.name, .int .i64 b.from_, .int .i64 b.to, .int .i64 b.month, .int .i64 b.on.kind, .int .i64 b.on.day, .int .i64 b.on.week, .int .i64 b.at_, .int .i64 b.save]] [] (.bool (ruleEq a b)) [] := by
 refine FnSpec.of 41 Tryd.func44 rfl Tryd.ntmps44 (by simp) (AW.weakK ?_)
 refine AW.q 3 ?_
 refine AW.seq ?_
 refine AW.q 5 ?_
 refine AW.cU a.name b.name (fun h1 => ?_) (fun h1 => ?_)
 · refine AW.q 1 ?_
   refine AW.ret ?_
   refine ⟨_, Sub.refl _ _, ?_⟩
   refine KF.conv (fun w => .bool w) (fun w => []) (show (false) = (ruleEq a b) from by simp [ruleEq, *]) ?_
   exact KF.n []
 refine AW.skip ?_
 refine AW.seq ?_
 refine AW.q 5 ?_
 refine AW.cU a.from_ b.from_ (fun h2 => ?_) (fun h2 => ?_)
 · refine AW.q 1 ?_
   refine AW.ret ?_
   refine ⟨_, Sub.refl _ _, ?_⟩
   refine KF.conv (fun w => .bool w) (fun w => []) (show (false) = (ruleEq a b) from by simp [ruleEq, *]) ?_
   exact KF.n []
 refine AW.skip ?_
 refine AW.seq ?_
 refine AW.q 5 ?_
 refine AW.cU a.to b.to (fun h3 => ?_) (fun h3 => ?_)
 · refine AW.q 1 ?_
   refine AW.ret ?_
   refine ⟨_, Sub.refl _ _, ?_⟩
   refine KF.conv (fun w => .bool w) (fun w => []) (show (false) = (ruleEq a b) from by simp [ruleEq, *]) ?_
   exact KF.n []
 refine AW.skip ?_
 refine AW.seq ?_
 refine AW.q 5 ?_
 refine AW.cU a.month b.month (fun h4 => ?_) (fun h4 => ?_)
 · refine AW.q 1 ?_
   refine AW.ret ?_
   refine ⟨_, Sub.refl _ _, ?_⟩
   refine KF.conv (fun w => .bool w) (fun w => []) (show (false) = (ruleEq a b) from by simp [ruleEq, *]) ?_
   exact KF.n []
 refine AW.skip ?_
 refine AW.seq ?_
 refine AW.r ?_
 refine At.a 4 ?_
 refine At.c (laws_eqOn_spec  a.on b.on ) Tryd.call64 true [] [] [] trivial ?_
 refine At.z 1 ?_
 refine AW.cNB (onEq a.on b.on) (fun h5 => ?_) (fun h5 => ?_)
 · refine AW.q 1 ?_
   refine AW.ret ?_
   refine ⟨_, Sub.refl _ _, ?_⟩
   refine KF.conv (fun w => .bool w) (fun w => []) (show (false) = (ruleEq a b) from by simp [ruleEq, *]) ?_
   exact KF.n []
 refine AW.skip ?_
 refine AW.seq ?_
 refine AW.q 5 ?_
 refine AW.cU a.at_ b.at_ (fun h6 => ?_) (fun h6 => ?_)
 · refine AW.q 1 ?_
   refine AW.ret ?_
   refine ⟨_, Sub.refl _ _, ?_⟩
   refine KF.conv (fun w => .bool w) (fun w => []) (show (false) = (ruleEq a b) from by simp [ruleEq, *]) ?_
   exact KF.n []
 refine AW.skip ?_
 refine AW.seq ?_
 refine AW.q 5 ?_
 refine AW.cU a.save b.save (fun h7 => ?_) (fun h7 => ?_)
 · refine AW.q 1 ?_
   refine AW.ret ?_
   refine ⟨_, Sub.refl _ _, ?_⟩
   refine KF.conv (fun w => .bool w) (fun w => []) (show (false) = (ruleEq a b) from by simp [ruleEq, *]) ?_
   exact KF.n []
 refine AW.skip ?_
 refine AW.q 1 ?_
 refine AW.ret ?_
 refine ⟨_, Sub.refl _ _, ?_⟩
 refine KF.conv (fun w => .bool w) (fun w => []) (show (true) = (ruleEq a b) from by simp [ruleEq, *]) ?_
 exact KF.n []
theorem laws_eqRuleS_spec  (a : List Rul) (b : List Rul) (ha : a.length ≤ 1048576) (hb : b.length ≤ 1048576) : FnSpec Tryd.prog 24 [.sl false 9 (a.map encRul), .sl false 9 (b.map encRul)] [] (.bool (listEq ruleEq a b)) [] := by
 refine FnSpec.of 27 Tryd.func24 rfl Tryd.ntmps24 (by simp) (AW.weakK ?_)
 refine AW.q 1 ?_
 refine AW.seq ?_
 refine AW.r ?_
 refine At.a 2 ?_
 refine At.sL 7 encRul a ?_
 refine At.a 2 ?_
 refine At.sL 9 encRul b ?_
 refine At.z 1 ?_
 refine AW.cU (a.length : Int) (b.length : Int) (fun h1 => ?_) (fun h1 => ?_)
 · refine AW.q 1 ?_
   refine AW.ret ?_
   refine ⟨_, Sub.refl _ _, ?_⟩
   refine KF.conv (fun w => .bool w) (fun w => []) (show (false) = (listEq ruleEq a b) from by rw [listEq_len (by omega)]) ?_
   exact KF.n []
 refine AW.skip ?_
 refine AW.seq ?_
 refine AW.q 1 ?_
 refine AW.block ?_
 refine AW.loopW (fun (k : Nat) => Go.Sy.mk [.sl false 9 (a.map encRul), .sl false 9 (b.map encRul), .un, .un, .un, .int .i64 (k : Int)] []) (fun (k : Nat) => k ≤ a.length ∧ listEq ruleEq a b = listEq ruleEq (a.drop k) (b.drop k)) (fun (k : Nat) => a.length - k) 0 ⟨by omega, by rw [List.drop_zero, List.drop_zero]⟩ (Sub.o [] [true, true, false, false, false, true]) ?_
 rintro k ⟨hk, hR⟩
 refine AW.seq ?_
 refine AW.r ?_
 refine At.a 3 ?_
 refine At.sL 13 encRul a ?_
 refine At.z 1 ?_
 refine AW.cD ((k : Int) < (a.length : Int)) (fun h2 => ?_) (fun h2 => ?_)
 · refine AW.skip ?_
   refine AW.seq ?_
   refine AW.block ?_
   refine AW.seq ?_
   refine AW.gD Tryd_mix ?_
   refine At.a 2 ?_
   refine At.iSl 30 19 (.tmp 17) (.tmp 18) false 9 (a.map encRul) .i64 (k : Int) 45 (by omega) (by simp only [List.length_map]; omega) ?_
   refine Exists.elim (gE a k (by omega)) fun e1 he1 => ?_
   refine At.lVp 45 20 (.tmp 19) false 9 (a.map encRul) k 0 true 9 (encRul e1) (.agg [.int .i64 e1.name, .int .i64 e1.from_, .int .i64 e1.to, .int .i64 e1.month, .int .i64 e1.on.kind, .int .i64 e1.on.day, .int .i64 e1.on.week, .int .i64 e1.at_, .int .i64 e1.save]) (mapGet he1) ?_
   refine At.a 2 ?_
   refine At.iSl 30 23 (.tmp 21) (.tmp 22) false 9 (b.map encRul) .i64 (k : Int) 45 (by omega) (by simp only [List.length_map]; omega) ?_
   refine Exists.elim (gE b k (by omega)) fun e2 he2 => ?_
   refine At.lVp 45 24 (.tmp 23) false 9 (b.map encRul) k 0 true 9 (encRul e2) (.agg [.int .i64 e2.name, .int .i64 e2.from_, .int .i64 e2.to, .int .i64 e2.month, .int .i64 e2.on.kind, .int .i64 e2.on.day, .int .i64 e2.on.week, .int .i64 e2.at_, .int .i64 e2.save]) (mapGet he2) ?_
   refine At.c (laws_eqRule_spec  e1 e2 ) Tryd.call44 true [] [] [] trivial ?_
   refine At.zD 1 ?_
   refine AW.cNB (ruleEq e1 e2) (fun h3 => ?_) (fun h3 => ?_)
   · refine AW.q 1 ?_
     refine AW.ret ?_
     refine ⟨_, Sub.refl _ _, ?_⟩
     refine KF.conv (fun w => .bool w) (fun w => []) (show (false) = (listEq ruleEq a b) from by rw [hR, dropCons he1, dropCons he2, listEq]; simp [eqI, *]) ?_
     exact KF.n []
   refine AW.skip ?_
   refine AW.g ?_
   refine At.a 2 ?_
   refine At.sI 16 ((k : Int) + 1) (by omega) ?_
   refine At.z 1 ?_
   exact ⟨k + 1, ⟨by omega, by rw [hR, dropCons he1, dropCons he2, listEq]; simp [eqI, *]⟩, (by omega), Sub.o [] [true, true, false, false, false, true]⟩
 refine AW.exit ?_
 refine AW.q 1 ?_
 refine AW.ret ?_
 refine ⟨_, Sub.refl _ _, ?_⟩
 refine KF.conv (fun w => .bool w) (fun w => []) (show (true) = (listEq ruleEq a b) from by rw [hR, List.drop_of_length_le (by omega), List.drop_of_length_le (by omega)]; rfl) ?_
 exact KF.n []
theorem laws_eqZone_spec  (a : Zon) (b : Zon) : FnSpec Tryd.prog 45 [.agg [.int .i64 a.name, .int .i64 a.off, .int .i64 a.rule], .agg [.int .i64 b.name, .int .i64 b.off, .int .i64 b.rule]] [] (.bool (zoneEq a b)) [] := by
 refine FnSpec.of 20 Tryd.func45 rfl Tryd.ntmps45 (by simp) (AW.weakK ?_)
 refine AW.q 3 ?_
 refine AW.seq ?_
 refine AW.q 5 ?_
 refine AW.cU a.name b.name (fun h1 => ?_) (fun h1 => ?_)
 · refine AW.q 1 ?_
   refine AW.ret ?_
   refine ⟨_, Sub.refl _ _, ?_⟩
   refine KF.conv (fun w => .bool w) (fun w => []) (show (false) = (zoneEq a b) from by simp [zoneEq, *]) ?_
   exact KF.n []
 refine AW.skip ?_
 refine AW.seq ?_
 refine AW.q 5 ?_
 refine AW.cU a.off b.off (fun h2 => ?_) (fun h2 => ?_)
 · refine AW.q 1 ?_
   refine AW.ret ?_
   refine ⟨_, Sub.refl _ _, ?_⟩
   refine KF.conv (fun w => .bool w) (fun w => []) (show (false) = (zoneEq a b) from by simp [zoneEq, *]) ?_
   exact KF.n []
 refine AW.skip ?_
 refine AW.seq ?_
 refine AW.q 5 ?_
 refine AW.cU a.rule b.rule (fun h3 => ?_) (fun h3 => ?_)
 · refine AW.q 1 ?_
   refine AW.ret ?_
   refine ⟨_, Sub.refl _ _, ?_⟩
   refine KF.conv (fun w => .bool w) (fun w => []) (show (false) = (zoneEq a b) from by simp [zoneEq, *]) ?_
   exact KF.n []
 refine AW.skip ?_
 refine AW.q 1 ?_
 refine AW.ret ?_
 refine ⟨_, Sub.refl _ _, ?_⟩
 refine KF.conv (fun w => .bool w) (fun w => []) (show (true) = (zoneEq a b) from by simp [zoneEq, *]) ?_
 exact KF.n []
theorem laws_eqZoneS_spec  (a : List Zon) (b : List Zon) (ha : a.length ≤ 1048576) (hb : b.length ≤ 1048576) : FnSpec Tryd.prog 25 [.sl false 3 (a.map encZon), .sl false 3 (b.map encZon)] [] (.bool (listEq zoneEq a b)) [] := by
 refine FnSpec.of 27 Tryd.func25 rfl Tryd.ntmps25 (by simp) (AW.weakK ?_)
 refine AW.q 1 ?_
 refine AW.seq ?_
 refine AW.r ?_
 refine At.a 2 ?_
 refine At.sL 7 encZon a ?_
 refine At.a 2 ?_
 refine At.sL 9 encZon b ?_
 refine At.z 1 ?_
 refine AW.cU (a.length : Int) (b.length : Int) (fun h1 => ?_) (fun h1 => ?_)
 · refine AW.q 1 ?_
   refine AW.ret ?_
   refine ⟨_, Sub.refl _ _, ?_⟩
   refine KF.conv (fun w => .bool w) (fun w => []) (show (false) = (listEq zoneEq a b) from by rw [listEq_len (by omega)]) ?_
   exact KF.n []
 refine AW.skip ?_
 refine AW.seq ?_
 refine AW.q 1 ?_
 refine AW.block ?_
 refine AW.loopW (fun (k : Nat) => Go.Sy.mk [.sl false 3 (a.map encZon), .sl false 3 (b.map encZon), .un, .un, .un, .int .i64 (k : Int)] []) (fun (k : Nat) => k ≤ a.length ∧ listEq zoneEq a b = listEq zoneEq (a.drop k) (b.drop k)) (fun (k : Nat) => a.length - k) 0 ⟨by omega, by rw [List.drop_zero, List.drop_zero]⟩ (Sub.o [] [true, true, false, false, false, true]) ?_
 rintro k ⟨hk, hR⟩
 refine AW.seq ?_
 refine AW.r ?_
 refine At.a 3 ?_
 refine At.sL 13 encZon a ?_
 refine At.z 1 ?_
 refine AW.cD ((k : Int) < (a.length : Int)) (fun h2 => ?_) (fun h2 => ?_)
 · refine AW.skip ?_
   refine AW.seq ?_
   refine AW.block ?_
   refine AW.seq ?_
   refine AW.gD Tryd_mix ?_
   refine At.a 2 ?_
   refine At.iSl 31 19 (.tmp 17) (.tmp 18) false 3 (a.map encZon) .i64 (k : Int) 49 (by omega) (by simp only [List.length_map]; omega) ?_
   refine Exists.elim (gE a k (by omega)) fun e1 he1 => ?_
   refine At.lVp 49 20 (.tmp 19) false 3 (a.map encZon) k 0 true 3 (encZon e1) (.agg [.int .i64 e1.name, .int .i64 e1.off, .int .i64 e1.rule]) (mapGet he1) ?_
   refine At.a 2 ?_
   refine At.iSl 31 23 (.tmp 21) (.tmp 22) false 3 (b.map encZon) .i64 (k : Int) 49 (by omega) (by simp only [List.length_map]; omega) ?_
   refine Exists.elim (gE b k (by omega)) fun e2 he2 => ?_
   refine At.lVp 49 24 (.tmp 23) false 3 (b.map encZon) k 0 true 3 (encZon e2) (.agg [.int .i64 e2.name, .int .i64 e2.off, .int .i64 e2.rule]) (mapGet he2) ?_
   refine At.c (laws_eqZone_spec  e1 e2 ) Tryd.call45 true [] [] [] trivial ?_
   refine At.zD 1 ?_
   refine AW.cNB (zoneEq e1 e2) (fun h3 => ?_) (fun h3 => ?_)
   · refine AW.q 1 ?_
     refine AW.ret ?_
     refine ⟨_, Sub.refl _ _, ?_⟩
     refine KF.conv (fun w => .bool w) (fun w => []) (show (false) = (listEq zoneEq a b) from by rw [hR, dropCons he1, dropCons he2, listEq]; simp [eqI, *]) ?_
     exact KF.n []
   refine AW.skip ?_
   refine AW.g ?_
   refine At.a 2 ?_
   refine At.sI 16 ((k : Int) + 1) (by omega) ?_
   refine At.z 1 ?_
   exact ⟨k + 1, ⟨by omega, by rw [hR, dropCons he1, dropCons he2, listEq]; simp [eqI, *]⟩, (by omega), Sub.o [] [true, true, false, false, false, true]⟩
 refine AW.exit ?_
 refine AW.q 1 ?_
 refine AW.ret ?_
 refine ⟨_, Sub.refl _ _, ?_⟩
 refine KF.conv (fun w => .bool w) (fun w => []) (show (true) = (listEq zoneEq a b) from by rw [hR, List.drop_of_length_le (by omega), List.drop_of_length_le (by omega)]; rfl) ?_
 exact KF.n []
theorem laws_eqLink_spec  (a : Lnk) (b : Lnk) : FnSpec Tryd.prog 46 [.agg [.int .i64 a.name, .int .i64 a.to], .agg [.int .i64 b.name, .int .i64 b.to]] [] (.bool (linkEq a b)) [] := by
 refine FnSpec.of 15 Tryd.func46 rfl Tryd.ntmps46 (by simp) (AW.weakK ?_)
 refine AW.q 3 ?_
 refine AW.seq ?_
 refine AW.q 5 ?_
 refine AW.cU a.name b.name (fun h1 => ?_) (fun h1 => ?_)
 · refine AW.q 1 ?_
   refine AW.ret ?_
   refine ⟨_, Sub.refl _ _, ?_⟩
   refine KF.conv (fun w => .bool w) (fun w => []) (show (false) = (linkEq a b) from by simp [linkEq, *]) ?_
   exact KF.n []
 refine AW.skip ?_
 refine AW.seq ?_
 refine AW.q 5 ?_
 refine AW.cU a.to b.to (fun h2 => ?_) (fun h2 => ?_)
 · refine AW.q 1 ?_
   refine AW.ret ?_
   refine ⟨_, Sub.refl _ _, ?_⟩
   refine KF.conv (fun w => .bool w) (fun w => []) (show (false) = (linkEq a b) from by simp [linkEq, *]) ?_
   exact KF.n []
 refine AW.skip ?_
 refine AW.q 1 ?_
 refine AW.ret ?_
 refine ⟨_, Sub.refl _ _, ?_⟩
 refine KF.conv (fun w => .bool w) (fun w => []) (show (true) = (linkEq a b) from by simp [linkEq, *]) ?_
 exact KF.n []
theorem laws_eqLinkS_spec  (a : List Lnk) (b : List Lnk) (ha : a.length ≤ 1048576) (hb : b.length ≤ 1048576) : FnSpec Tryd.prog 26 [.sl false 2 (a.map encLnk), .sl false 2 (b.map encLnk)] [] (.bool (listEq linkEq a b)) [] := by
 refine FnSpec.of 27 Tryd.func26 rfl Tryd.ntmps26 (by simp) (AW.weakK ?_)
 refine AW.q 1 ?_
 refine AW.seq ?_
 refine AW.r ?_
 refine At.a 2 ?_
 refine At.sL 7 encLnk a ?_
 refine At.a 2 ?_
 refine At.sL 9 encLnk b ?_
 refine At.z 1 ?_
 refine AW.cU (a.length : Int) (b.length : Int) (fun h1 => ?_) (fun h1 => ?_)
 · refine AW.q 1 ?_
   refine AW.ret ?_
   refine ⟨_, Sub.refl _ _, ?_⟩
   refine KF.conv (fun w => .bool w) (fun w => []) (show (false) = (listEq linkEq a b) from by rw [listEq_len (by omega)]) ?_
   exact KF.n []
 refine AW.skip ?_
 refine AW.seq ?_
 refine AW.q 1 ?_
 refine AW.block ?_
 refine AW.loopW (fun (k : Nat) => Go.Sy.mk [.sl false 2 (a.map encLnk), .sl false 2 (b.map encLnk), .un, .un, .un, .int .i64 (k : Int)] []) (fun (k : Nat) => k ≤ a.length ∧ listEq linkEq a b = listEq linkEq (a.drop k) (b.drop k)) (fun (k : Nat) => a.length - k) 0 ⟨by omega, by rw [List.drop_zero, List.drop_zero]⟩ (Sub.o [] [true, true, false, false, false, true]) ?_
 rintro k ⟨hk, hR⟩
 refine AW.seq ?_
 refine AW.r ?_
 refine At.a 3 ?_
 refine At.sL 13 encLnk a ?_
 refine At.z 1 ?_
 refine AW.cD ((k : Int) < (a.length : Int)) (fun h2 => ?_) (fun h2 => ?_)
 · refine AW.skip ?_
   refine AW.seq ?_
   refine AW.block ?_
   refine AW.seq ?_
   refine AW.gD Tryd_mix ?_
   refine At.a 2 ?_
   refine At.iSl 32 19 (.tmp 17) (.tmp 18) false 2 (a.map encLnk) .i64 (k : Int) 51 (by omega) (by simp only [List.length_map]; omega) ?_
   refine Exists.elim (gE a k (by omega)) fun e1 he1 => ?_
   refine At.lVp 51 20 (.tmp 19) false 2 (a.map encLnk) k 0 true 2 (encLnk e1) (.agg [.int .i64 e1.name, .int .i64 e1.to]) (mapGet he1) ?_
   refine At.a 2 ?_
   refine At.iSl 32 23 (.tmp 21) (.tmp 22) false 2 (b.map encLnk) .i64 (k : Int) 51 (by omega) (by simp only [List.length_map]; omega) ?_
   refine Exists.elim (gE b k (by omega)) fun e2 he2 => ?_
   refine At.lVp 51 24 (.tmp 23) false 2 (b.map encLnk) k 0 true 2 (encLnk e2) (.agg [.int .i64 e2.name, .int .i64 e2.to]) (mapGet he2) ?_
   refine At.c (laws_eqLink_spec  e1 e2 ) Tryd.call46 true [] [] [] trivial ?_
   refine At.zD 1 ?_
   refine AW.cNB (linkEq e1 e2) (fun h3 => ?_) (fun h3 => ?_)
   · refine AW.q 1 ?_
     refine AW.ret ?_
     refine ⟨_, Sub.refl _ _, ?_⟩
     refine KF.conv (fun w => .bool w) (fun w => []) (show (false) = (listEq linkEq a b) from by rw [hR, dropCons he1, dropCons he2, listEq]; simp [eqI, *]) ?_
     exact KF.n []
   refine AW.skip ?_
   refine AW.g ?_
   refine At.a 2 ?_
   refine At.sI 16 ((k : Int) + 1) (by omega) ?_
   refine At.z 1 ?_
   exact ⟨k + 1, ⟨by omega, by rw [hR, dropCons he1, dropCons he2, listEq]; simp [eqI, *]⟩, (by omega), Sub.o [] [true, true, false, false, false, true]⟩
 refine AW.exit ?_
 refine AW.q 1 ?_
 refine AW.ret ?_
 refine ⟨_, Sub.refl _ _, ?_⟩
 refine KF.conv (fun w => .bool w) (fun w => []) (show (true) = (listEq linkEq a b) from by rw [hR, List.drop_of_length_le (by omega), List.drop_of_length_le (by omega)]; rfl) ?_
 exact KF.n []
theorem laws_eqSource_spec  (a : Srce) (b : Srce) (ha : (a.rules.length ≤ 1048576 ∧ a.zones.length ≤ 1048576 ∧ a.links.length ≤ 1048576)) (hb : (b.rules.length ≤ 1048576 ∧ b.zones.length ≤ 1048576 ∧ b.links.length ≤ 1048576)) : FnSpec Tryd.prog 8 [.agg [.sl false 9 (a.rules.map encRul), .sl false 3 (a.zones.map encZon), .sl false 2 (a.links.map encLnk)], .agg [.sl false 9 (b.rules.map encRul), .sl false 3 (b.zones.map encZon), .sl false 2 (b.links.map encLnk)]] [] (.bool (srcEq a b)) [] := by
 refine FnSpec.of 23 Tryd.func8 rfl Tryd.ntmps8 (by simp) (AW.weakK ?_)
 refine AW.q 3 ?_
 refine AW.seq ?_
 refine AW.r ?_
 refine At.a 4 ?_
 refine At.c (laws_eqRuleS_spec  a.rules b.rules (by omega) (by omega)) Tryd.call24 true [] [] [] trivial ?_
 refine At.z 1 ?_
 refine AW.cNB (listEq ruleEq a.rules b.rules) (fun h1 => ?_) (fun h1 => ?_)
 · refine AW.q 1 ?_
   refine AW.ret ?_
   refine ⟨_, Sub.refl _ _, ?_⟩
   refine KF.conv (fun w => .bool w) (fun w => []) (show (false) = (srcEq a b) from by simp [srcEq, *]) ?_
   exact KF.n []
 refine AW.skip ?_
 refine AW.seq ?_
 refine AW.r ?_
 refine At.a 4 ?_
 refine At.c (laws_eqZoneS_spec  a.zones b.zones (by omega) (by omega)) Tryd.call25 true [] [] [] trivial ?_
 refine At.z 1 ?_
 refine AW.cNB (listEq zoneEq a.zones b.zones) (fun h2 => ?_) (fun h2 => ?_)
 · refine AW.q 1 ?_
   refine AW.ret ?_
   refine ⟨_, Sub.refl _ _, ?_⟩
   refine KF.conv (fun w => .bool w) (fun w => []) (show (false) = (srcEq a b) from by simp [srcEq, *]) ?_
   exact KF.n []
 refine AW.skip ?_
 refine AW.seq ?_
 refine AW.r ?_
 refine At.a 4 ?_
 refine At.c (laws_eqLinkS_spec  a.links b.links (by omega) (by omega)) Tryd.call26 true [] [] [] trivial ?_
 refine At.z 1 ?_
 refine AW.cNB (listEq linkEq a.links b.links) (fun h3 => ?_) (fun h3 => ?_)
 · refine AW.q 1 ?_
   refine AW.ret ?_
   refine ⟨_, Sub.refl _ _, ?_⟩
   refine KF.conv (fun w => .bool w) (fun w => []) (show (false) = (srcEq a b) from by simp [srcEq, *]) ?_
   exact KF.n []
 refine AW.skip ?_
 refine AW.q 1 ?_
 refine AW.ret ?_
 refine ⟨_, Sub.refl _ _, ?_⟩
 refine KF.conv (fun w => .bool w) (fun w => []) (show (true) = (srcEq a b) from by simp [srcEq, *]) ?_
 exact KF.n []
theorem laws_FnExactSourcePrint_spec  (aS : Srce) (hd : BigSrc aS) : FnSpecQ GB Tryd.prog 3 [.agg [.sl false 9 (aS.rules.map encRul), .sl false 3 (aS.zones.map encZon), .sl false 2 (aS.links.map encLnk)]] (.bool true) := by
 refine FnSpecQ.of 40 Tryd.func3 rfl Tryd.ntmps3 (by simp) (AW.weakK ?_)
 refine AW.q 2 ?_
 refine AW.q 1 ?_
 refine AW.r ?_
 refine At.a 2 ?_
 refine At.c (laws_szSource_spec  aS 1048576 (by omega) hd) Tryd.call4 true [] [] [] trivial ?_
 refine At.z 1 ?_
 refine AW.seq ?_
 refine AW.q 2 ?_
 refine AW.cD ((szSrc aS 1048576) < 0) (fun h1 => ?_) (fun h1 => ?_)
 · refine AW.q 1 ?_
   exact AW.ret (rf (KF.n []))
 have hz := szSrc_small h1
 refine AW.skip ?_
 refine AW.r ?_
 refine At.a 1 ?_
 refine At.c (laws_toSource_spec  aS hz) Tryd.call6 true [] [(1320, 0), (1321, 1), (1322, 2)] [] trivial ?_
 refine At.c (spec_SourcePrint_spec  aS hz) Tryd.call5 false [] [] [(1320, 9, (aS.rules.map encRul)), (1321, 3, (aS.zones.map encZon)), (1322, 2, (aS.links.map encLnk))] ⟨rfl, ⟨45, (aS.rules.map encRul), by kernel_rfl, FrzIs.same (allP_encRul _)⟩, rfl, ⟨49, (aS.zones.map encZon), by kernel_rfl, FrzIs.same (allP_encZon _)⟩, rfl, ⟨51, (aS.links.map encLnk), by kernel_rfl, FrzIs.same (allP_encLnk _)⟩, trivial⟩ ?_
 refine At.z 5 ?_
 refine AW.r ?_
 refine At.a 1 ?_
 refine At.c (laws_toSource_spec  aS hz) Tryd.call6 true [] [(1420, 0), (1421, 1), (1422, 2)] [] trivial ?_
 refine At.z 2 ?_
 refine AW.r ?_
 refine At.a 1 ?_
 refine At.callQ glLasts rfl (impl_SourcePrint_spec  aS hz) Tryd.call7 false [] [] [(1420, 9, (aS.rules.map encRul)), (1421, 3, (aS.zones.map encZon)), (1422, 2, (aS.links.map encLnk))] (by kernel_rfl) (by kernel_rfl) (by kernel_rfl) (by kernel_rfl) (by kernel_rfl) ⟨rfl, ⟨45, (aS.rules.map encRul), by kernel_rfl, FrzIs.same (allP_encRul _)⟩, rfl, ⟨49, (aS.zones.map encZon), by kernel_rfl, FrzIs.same (allP_encZon _)⟩, rfl, ⟨51, (aS.links.map encLnk), by kernel_rfl, FrzIs.same (allP_encLnk _)⟩, trivial⟩ ?_
 refine At.z 5 ?_
 refine AW.seq ?_
 refine AW.r ?_
 refine At.a 4 ?_
 by_cases h2 : (strOf (srcP aS).1).toList = (strOf (srcP aS).1).toList
 · refine At.sB 30 (!((strOf (srcP aS).1).toList == (strOf (srcP aS).1).toList)) false (sayNF (sayET h2)) ?_
   refine At.a 2 ?_
   refine At.eqB (t := 4) (u := 4) (d := 33) (op := .neq) (x := .tmp 31) (y := .tmp 32) (a := ((srcP aS).2)) (b := ((srcP aS).2)) (by kernel_rfl) (by kernel_rfl) (by kernel_rfl) (by kernel_rfl) (by kernel_rfl) (.bool (!(((srcP aS).2) == ((srcP aS).2)))) (.inr ⟨rfl, rfl⟩) ?_
   refine At.z 1 ?_
   refine AW.cNB (((srcP aS).2) == ((srcP aS).2)) (fun h3 => ?_) (fun h3 => ?_)
   · refine AW.q 1 ?_
     refine AW.ret ?_
     refine ⟨_, Sub.refl _ _, ?_⟩
     refine KF.conv (fun w => .bool w) (fun w => []) (show (false) = (true) from by exfalso; simp [srcEq_refl] at *) ?_
     exact KF.n []
   refine AW.skip ?_
   refine AW.seq ?_
   refine AW.seq ?_
   refine AW.gD Tryd_mix ?_
   refine At.a 2 ?_
   refine At.c (laws_toSource_spec  aS hz) Tryd.call6 true [] [(1740, 0), (1741, 1), (1742, 2)] [] trivial ?_
   refine At.c (laws_eqSource_spec  aS aS hz hz) Tryd.call8 false [] [] [(1420, 9, (aS.rules.map encRul)), (1421, 3, (aS.zones.map encZon)), (1422, 2, (aS.links.map encLnk)), (1740, 9, (aS.rules.map encRul)), (1741, 3, (aS.zones.map encZon)), (1742, 2, (aS.links.map encLnk))] ⟨rfl, ⟨45, (aS.rules.map encRul), by kernel_rfl, FrzIs.same (allP_encRul _)⟩, rfl, ⟨49, (aS.zones.map encZon), by kernel_rfl, FrzIs.same (allP_encZon _)⟩, rfl, ⟨51, (aS.links.map encLnk), by kernel_rfl, FrzIs.same (allP_encLnk _)⟩, rfl, ⟨45, (aS.rules.map encRul), by kernel_rfl, FrzIs.same (allP_encRul _)⟩, rfl, ⟨49, (aS.zones.map encZon), by kernel_rfl, FrzIs.same (allP_encZon _)⟩, rfl, ⟨51, (aS.links.map encLnk), by kernel_rfl, FrzIs.same (allP_encLnk _)⟩, trivial⟩ ?_
   refine At.zD 1 ?_
   refine AW.cNB (srcEq aS aS) (fun h4 => ?_) (fun h4 => ?_)
   · refine AW.q 1 ?_
     refine AW.ret ?_
     refine ⟨_, Sub.refl _ _, ?_⟩
     refine KF.conv (fun w => .bool w) (fun w => []) (show (false) = (true) from by exfalso; simp [srcEq_refl] at *) ?_
     exact KF.n []
   refine AW.skip ?_
   refine AW.q 1 ?_
   exact AW.ret (rf (KF.n []))
 refine At.sB 30 (!((strOf (srcP aS).1).toList == (strOf (srcP aS).1).toList)) true (sayNT (sayEF h2)) ?_
 refine At.z 4 ?_
 refine AW.cond true (by kernel_rfl) (fun _ => ?_) (fun h => by cases h)
 refine AW.q 1 ?_
 refine AW.ret ?_
 refine ⟨_, Sub.refl _ _, ?_⟩
 refine KF.conv (fun w => .bool w) (fun w => []) (show (false) = (true) from by exfalso; simp [srcEq_refl] at *) ?_
 exact KF.n []
end Go.Proofs.YtahackghhalfeaaDoor
