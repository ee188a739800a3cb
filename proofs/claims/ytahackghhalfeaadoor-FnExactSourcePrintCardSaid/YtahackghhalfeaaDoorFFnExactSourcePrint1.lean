/- The contracts of the functions that FnExactSourcePrint reaches (each: what it answers, said over values), printed by a program of this session (wip/sy/g/gen.py). -/
import Derived.Test.YtahackghhalfeaaDoorSXSourcePrintG4
set_option linter.unusedVariables false
set_option linter.unusedSimpArgs false
set_option maxRecDepth 100000
set_option maxHeartbeats 4000000
namespace Go.Proofs.YtahackghhalfeaaDoor
open Go Go.Sy Go.Proofs Go.Proofs.YtahackghhalfeaaDoor.OnRd
theorem Tryd_mix : Tryd.prog.follows .mixedOrders = true := by kernel_rfl
theorem laws_szRuleS_spec  (a : List Rul) (left : Int) (h0 : 0 ≤ left ∧ left ≤ 1048576) (hd : (a.length : Int) ≤ big) : FnSpec Tryd.prog 9 [.sl false 9 (a.map encRul), .int .i64 left] [] (.int .i64 (szN a.length left)) [] := by
 unfold big at hd
 refine FnSpec.of 12 Tryd.func9 rfl Tryd.ntmps9 (by simp) (AW.weakK ?_)
 refine AW.q 1 ?_
 refine AW.r ?_
 refine At.a 3 ?_
 refine At.sL 7 encRul a ?_
 refine At.a 1 ?_
 refine At.sI 8 (left - (a.length : Int)) (by omega) ?_
 refine At.z 1 ?_
 refine AW.seq ?_
 refine AW.q 2 ?_
 refine AW.cD ((left - (a.length : Int)) < 0) (fun h1 => ?_) (fun h1 => ?_)
 · refine AW.q 1 ?_
   refine AW.ret ?_
   refine ⟨_, Sub.refl _ _, ?_⟩
   refine KF.conv (fun w => .int .i64 w) (fun w => []) (show (-1) = (szN a.length left) from by unfold szN; first | (rw [if_pos (by omega)]; done) | (rw [if_neg (by omega)]; done)) ?_
   exact KF.n []
 refine AW.skip ?_
 refine AW.q 2 ?_
 refine AW.ret ?_
 refine ⟨_, Sub.refl _ _, ?_⟩
 refine KF.conv (fun w => .int .i64 w) (fun w => []) (show (left - (a.length : Int)) = (szN a.length left) from by unfold szN; first | (rw [if_pos (by omega)]; done) | (rw [if_neg (by omega)]; done)) ?_
 exact KF.n []
theorem laws_szZoneS_spec  (a : List Zon) (left : Int) (h0 : 0 ≤ left ∧ left ≤ 1048576) (hd : (a.length : Int) ≤ big) : FnSpec Tryd.prog 10 [.sl false 3 (a.map encZon), .int .i64 left] [] (.int .i64 (szN a.length left)) [] := by
 unfold big at hd
 refine FnSpec.of 12 Tryd.func10 rfl Tryd.ntmps10 (by simp) (AW.weakK ?_)
 refine AW.q 1 ?_
 refine AW.r ?_
 refine At.a 3 ?_
 refine At.sL 7 encZon a ?_
 refine At.a 1 ?_
 refine At.sI 8 (left - (a.length : Int)) (by omega) ?_
 refine At.z 1 ?_
 refine AW.seq ?_
 refine AW.q 2 ?_
 refine AW.cD ((left - (a.length : Int)) < 0) (fun h1 => ?_) (fun h1 => ?_)
 · refine AW.q 1 ?_
   refine AW.ret ?_
   refine ⟨_, Sub.refl _ _, ?_⟩
   refine KF.conv (fun w => .int .i64 w) (fun w => []) (show (-1) = (szN a.length left) from by unfold szN; first | (rw [if_pos (by omega)]; done) | (rw [if_neg (by omega)]; done)) ?_
   exact KF.n []
 refine AW.skip ?_
 refine AW.q 2 ?_
 refine AW.ret ?_
 refine ⟨_, Sub.refl _ _, ?_⟩
 refine KF.conv (fun w => .int .i64 w) (fun w => []) (show (left - (a.length : Int)) = (szN a.length left) from by unfold szN; first | (rw [if_pos (by omega)]; done) | (rw [if_neg (by omega)]; done)) ?_
 exact KF.n []
theorem laws_szLinkS_spec  (a : List Lnk) (left : Int) (h0 : 0 ≤ left ∧ left ≤ 1048576) (hd : (a.length : Int) ≤ big) : FnSpec Tryd.prog 11 [.sl false 2 (a.map encLnk), .int .i64 left] [] (.int .i64 (szN a.length left)) [] := by
 unfold big at hd
 refine FnSpec.of 12 Tryd.func11 rfl Tryd.ntmps11 (by simp) (AW.weakK ?_)
 refine AW.q 1 ?_
 refine AW.r ?_
 refine At.a 3 ?_
 refine At.sL 7 encLnk a ?_
 refine At.a 1 ?_
 refine At.sI 8 (left - (a.length : Int)) (by omega) ?_
 refine At.z 1 ?_
 refine AW.seq ?_
 refine AW.q 2 ?_
 refine AW.cD ((left - (a.length : Int)) < 0) (fun h1 => ?_) (fun h1 => ?_)
 · refine AW.q 1 ?_
   refine AW.ret ?_
   refine ⟨_, Sub.refl _ _, ?_⟩
   refine KF.conv (fun w => .int .i64 w) (fun w => []) (show (-1) = (szN a.length left) from by unfold szN; first | (rw [if_pos (by omega)]; done) | (rw [if_neg (by omega)]; done)) ?_
   exact KF.n []
 refine AW.skip ?_
 refine AW.q 2 ?_
 refine AW.ret ?_
 refine ⟨_, Sub.refl _ _, ?_⟩
 refine KF.conv (fun w => .int .i64 w) (fun w => []) (show (left - (a.length : Int)) = (szN a.length left) from by unfold szN; first | (rw [if_pos (by omega)]; done) | (rw [if_neg (by omega)]; done)) ?_
 exact KF.n []
theorem laws_szSource_spec  (a : Srce) (left : Int) (h0 : 0 ≤ left ∧ left ≤ 1048576) (hd : BigSrc a) : FnSpec Tryd.prog 4 [.agg [.sl false 9 (a.rules.map encRul), .sl false 3 (a.zones.map encZon), .sl false 2 (a.links.map encLnk)], .int .i64 left] [] (.int .i64 (szSrc a left)) [] := by
 obtain ⟨hd1, hd2, hd3⟩ := id hd
 refine FnSpec.of 24 Tryd.func4 rfl Tryd.ntmps4 (by simp) (AW.weakK ?_)
 refine AW.q 2 ?_
 refine AW.r ?_
 refine At.a 3 ?_
 refine At.c (laws_szRuleS_spec  a.rules left (by omega) (by assumption)) Tryd.call9 true [] [] [] trivial ?_
 refine At.z 1 ?_
 refine AW.seq ?_
 refine AW.q 2 ?_
 refine AW.cD ((szN a.rules.length left) < 0) (fun h1 => ?_) (fun h1 => ?_)
 · refine AW.q 1 ?_
   refine AW.ret ?_
   refine ⟨_, Sub.refl _ _, ?_⟩
   refine KF.conv (fun w => .int .i64 w) (fun w => []) (show (-1) = (szSrc a left) from by unfold szSrc; first | (rw [if_pos (by assumption)]; done) | (rw [if_neg (by assumption), if_pos (by assumption)]; done) | (rw [if_neg (by assumption), if_neg (by assumption), if_pos (by assumption)]; done) | (rw [if_neg (by assumption), if_neg (by assumption), if_neg (by assumption)]; done)) ?_
   exact KF.n []
 have hn := szN_ge h1
 refine AW.skip ?_
 refine AW.r ?_
 refine At.a 3 ?_
 refine At.c (laws_szZoneS_spec  a.zones (szN a.rules.length left) (by omega) (by assumption)) Tryd.call10 true [] [] [] trivial ?_
 refine At.z 1 ?_
 refine AW.seq ?_
 refine AW.q 2 ?_
 refine AW.cD ((szN a.zones.length (szN a.rules.length left)) < 0) (fun h2 => ?_) (fun h2 => ?_)
 · refine AW.q 1 ?_
   refine AW.ret ?_
   refine ⟨_, Sub.refl _ _, ?_⟩
   refine KF.conv (fun w => .int .i64 w) (fun w => []) (show (-1) = (szSrc a left) from by unfold szSrc; first | (rw [if_pos (by assumption)]; done) | (rw [if_neg (by assumption), if_pos (by assumption)]; done) | (rw [if_neg (by assumption), if_neg (by assumption), if_pos (by assumption)]; done) | (rw [if_neg (by assumption), if_neg (by assumption), if_neg (by assumption)]; done)) ?_
   exact KF.n []
 have hn := szN_ge h2
 refine AW.skip ?_
 refine AW.r ?_
 refine At.a 3 ?_
 refine At.c (laws_szLinkS_spec  a.links (szN a.zones.length (szN a.rules.length left)) (by omega) (by assumption)) Tryd.call11 true [] [] [] trivial ?_
 refine At.z 1 ?_
 refine AW.seq ?_
 refine AW.q 2 ?_
 refine AW.cD ((szN a.links.length (szN a.zones.length (szN a.rules.length left))) < 0) (fun h3 => ?_) (fun h3 => ?_)
 · refine AW.q 1 ?_
   refine AW.ret ?_
   refine ⟨_, Sub.refl _ _, ?_⟩
   refine KF.conv (fun w => .int .i64 w) (fun w => []) (show (-1) = (szSrc a left) from by unfold szSrc; first | (rw [if_pos (by assumption)]; done) | (rw [if_neg (by assumption), if_pos (by assumption)]; done) | (rw [if_neg (by assumption), if_neg (by assumption), if_pos (by assumption)]; done) | (rw [if_neg (by assumption), if_neg (by assumption), if_neg (by assumption)]; done)) ?_
   exact KF.n []
 have hn := szN_ge h3
 refine AW.skip ?_
 refine AW.q 2 ?_
 refine AW.ret ?_
 refine ⟨_, Sub.refl _ _, ?_⟩
 refine KF.conv (fun w => .int .i64 w) (fun w => []) (show (szN a.links.length (szN a.zones.length (szN a.rules.length left))) = (szSrc a left) from by unfold szSrc; first | (rw [if_pos (by assumption)]; done) | (rw [if_neg (by assumption), if_pos (by assumption)]; done) | (rw [if_neg (by assumption), if_neg (by assumption), if_pos (by assumption)]; done) | (rw [if_neg (by assumption), if_neg (by assumption), if_neg (by assumption)]; done)) ?_
 exact KF.n []
theorem laws_toOn_spec  (a : On) : FnSpec Tryd.prog 53 [.agg [.int .i64 a.kind, .int .i64 a.day, .int .i64 a.week]] [] (.agg [.int .i64 a.kind, .int .i64 a.day, .int .i64 a.week]) [] := by
 refine FnSpec.of 14 Tryd.func53 rfl Tryd.ntmps53 (by simp) (AW.weakK ?_)
 refine AW.q 2 ?_
 refine AW.q 1 ?_
 refine AW.q 4 ?_
 refine AW.q 4 ?_
 refine AW.q 4 ?_
 refine AW.q 2 ?_
 exact AW.ret (rf (KF.n []))
theorem laws_toRule_spec  (a : Rul) : FnSpec Tryd.prog 31 [.agg [.int .i64 a.name, .int .i64 a.from_, .int .i64 a.to, .int .i64 a.month, .int .i64 a.on.kind, .int .i64 a.on.day, .int .i64 a.on.week, .int .i64 a.at_, .int .i64 a.save]] [] (.agg [.int .i64 a.name, .int .i64 a.from_, .int .i64 a.to, .int .i64 a.month, .int .i64 a.on.kind, .int .i64 a.on.day, .int .i64 a.on.week, .int .i64 a.at_, .int .i64 a.save]) [] := by
 refine FnSpec.of 27 Tryd.func31 rfl Tryd.ntmps31 (by simp) (AW.weakK ?_)
 refine AW.q 2 ?_
 refine AW.q 1 ?_
 refine AW.q 4 ?_
 refine AW.q 4 ?_
 refine AW.q 4 ?_
 refine AW.q 4 ?_
 refine AW.r ?_
 refine At.a 2 ?_
 refine At.c (laws_toOn_spec  a.on ) Tryd.call53 true [] [] [] trivial ?_
 refine At.z 2 ?_
 refine AW.q 4 ?_
 refine AW.q 4 ?_
 refine AW.q 2 ?_
 exact AW.ret (rf (KF.n []))
theorem laws_toRuleS_spec  (a : List Rul) (ha : a.length ≤ 1048576) : FnSpec Tryd.prog 16 [.sl false 9 (a.map encRul)] [] (.ref 0) [.arr 45 9 (a.map encRul)] := by
 refine FnSpec.of 23 Tryd.func16 rfl Tryd.ntmps16 (by simp) (AW.weakK ?_)
 refine AW.q 1 ?_
 refine AW.r ?_
 refine At.a 2 ?_
 refine At.sL 6 encRul a ?_
 refine At.make (t := 30) (d := 7) (e := 45) (es := 9) (bytes := 72) (x := .tmp 6) (y := .tmp 6) (ka := .i64) (kb := .i64) (zs := [.int .i64 0, .int .i64 0, .int .i64 0, .int .i64 0, .int .i64 0, .int .i64 0, .int .i64 0, .int .i64 0, .int .i64 0]) 107 a.length ((List.replicate a.length (⟨0, 0, 0, 0, ⟨0, 0, 0⟩, 0, 0⟩ : Rul)).map encRul) (by kernel_rfl) (by kernel_rfl) (by kernel_rfl) (by kernel_rfl) (by kernel_rfl) (by omega) (by omega) (by rw [List.map_replicate]; rfl) ?_
 refine At.z 1 ?_
 refine AW.seq ?_
 refine AW.q 1 ?_
 refine AW.block ?_
 refine AW.loopW (fun (k : Nat) => Go.Sy.mk [.sl false 9 (a.map encRul), .un, .un, .ref 107, .int .i64 (k : Int)] [(107, .arr 45 9 ((a.take k ++ List.replicate (a.length - k) zRul).map encRul))]) (fun (k : Nat) => k ≤ a.length) (fun (k : Nat) => a.length - k) 0 (by omega) (Sub.o [(107, 107)] [true, false, false, true, true]) ?_
 rintro k hk
 refine AW.seq ?_
 refine AW.r ?_
 refine At.a 3 ?_
 refine At.sL 10 encRul a ?_
 refine At.z 1 ?_
 refine AW.cD ((k : Int) < (a.length : Int)) (fun h1 => ?_) (fun h1 => ?_)
 · refine AW.skip ?_
   refine AW.seq ?_
   refine AW.block ?_
   refine AW.g ?_
   refine At.a 4 ?_
   refine At.iSl 22 18 (.tmp 16) (.tmp 17) false 9 (a.map encRul) .i64 (k : Int) 68 (by omega) (by simp only [List.length_map]; omega) ?_
   refine Exists.elim (gE a k (by omega)) fun e1 he1 => ?_
   refine At.lVp 68 19 (.tmp 18) false 9 (a.map encRul) k 0 true 9 (encRul e1) (.agg [.int .i64 e1.name, .int .i64 e1.from_, .int .i64 e1.to, .int .i64 e1.month, .int .i64 e1.on.kind, .int .i64 e1.on.day, .int .i64 e1.on.week, .int .i64 e1.at_, .int .i64 e1.save]) (mapGet he1) ?_
   refine At.c (laws_toRule_spec  e1 ) Tryd.call31 true [] [] [] trivial ?_
   refine At.iRf 30 21 (.tmp 14) (.tmp 15) 107 ((a.take k ++ List.replicate (a.length - k) zRul).map encRul) .i64 (k : Int) 45 9 (by omega) (by simp only [List.length_map, List.length_append, List.length_take, List.length_drop, List.length_replicate, List.length_set, List.length_cons, List.length_nil]; omega) ?_
   refine Exists.elim (gE (a.take k ++ List.replicate (a.length - k) zRul) k (by simp only [List.length_map, List.length_append, List.length_take, List.length_drop, List.length_replicate, List.length_set, List.length_cons, List.length_nil]; omega)) fun e2 he2 => ?_
   refine At.sEl 45 107 45 9 k 0 (.tmp 21) (.tmp 20) ((a.take k ++ List.replicate (a.length - k) zRul).map encRul) ((a.take (k + 1) ++ List.replicate (a.length - (k + 1)) zRul).map encRul) [.int .i64 e1.name, .int .i64 e1.from_, .int .i64 e1.to, .int .i64 e1.month, .int .i64 e1.on.kind, .int .i64 e1.on.day, .int .i64 e1.on.week, .int .i64 e1.at_, .int .i64 e1.save] (.agg [.int .i64 e1.name, .int .i64 e1.from_, .int .i64 e1.to, .int .i64 e1.month, .int .i64 e1.on.kind, .int .i64 e1.on.day, .int .i64 e1.on.week, .int .i64 e1.at_, .int .i64 e1.save]) (encRul e2) (encRul e1) (mapGet he2) (stepToV (by assumption)) ?_
   refine At.done rfl ?_
   refine AW.g ?_
   refine At.a 2 ?_
   refine At.sI 13 ((k : Int) + 1) (by omega) ?_
   refine At.z 1 ?_
   exact ⟨k + 1, (by omega), (by omega), Sub.o [(107, 107)] [true, false, false, true, true]⟩
 refine AW.exit ?_
 refine AW.q 2 ?_
 refine AW.ret ?_
 refine ⟨_, Sub.refl _ _, ?_⟩
 refine KF.conv (fun w => .ref 0) (fun w => [.arr 45 9 (w.map encRul)]) (show (a.take k ++ List.replicate (a.length - k) zRul) = (a) from endTo (by omega)) ?_
 exact KF.n [(107, 0)]
theorem laws_toZone_spec  (a : Zon) : FnSpec Tryd.prog 32 [.agg [.int .i64 a.name, .int .i64 a.off, .int .i64 a.rule]] [] (.agg [.int .i64 a.name, .int .i64 a.off, .int .i64 a.rule]) [] := by
 refine FnSpec.of 14 Tryd.func32 rfl Tryd.ntmps32 (by simp) (AW.weakK ?_)
 refine AW.q 2 ?_
 refine AW.q 1 ?_
 refine AW.q 4 ?_
 refine AW.q 4 ?_
 refine AW.q 4 ?_
 refine AW.q 2 ?_
 exact AW.ret (rf (KF.n []))
theorem laws_toZoneS_spec  (a : List Zon) (ha : a.length ≤ 1048576) : FnSpec Tryd.prog 17 [.sl false 3 (a.map encZon)] [] (.ref 0) [.arr 49 3 (a.map encZon)] := by
 refine FnSpec.of 23 Tryd.func17 rfl Tryd.ntmps17 (by simp) (AW.weakK ?_)
 refine AW.q 1 ?_
 refine AW.r ?_
 refine At.a 2 ?_
 refine At.sL 6 encZon a ?_
 refine At.make (t := 31) (d := 7) (e := 49) (es := 3) (bytes := 24) (x := .tmp 6) (y := .tmp 6) (ka := .i64) (kb := .i64) (zs := [.int .i64 0, .int .i64 0, .int .i64 0]) 107 a.length ((List.replicate a.length (⟨0, 0, 0⟩ : Zon)).map encZon) (by kernel_rfl) (by kernel_rfl) (by kernel_rfl) (by kernel_rfl) (by kernel_rfl) (by omega) (by omega) (by rw [List.map_replicate]; rfl) ?_
 refine At.z 1 ?_
 refine AW.seq ?_
 refine AW.q 1 ?_
 refine AW.block ?_
 refine AW.loopW (fun (k : Nat) => Go.Sy.mk [.sl false 3 (a.map encZon), .un, .un, .ref 107, .int .i64 (k : Int)] [(107, .arr 49 3 ((a.take k ++ List.replicate (a.length - k) zZon).map encZon))]) (fun (k : Nat) => k ≤ a.length) (fun (k : Nat) => a.length - k) 0 (by omega) (Sub.o [(107, 107)] [true, false, false, true, true]) ?_
 rintro k hk
 refine AW.seq ?_
 refine AW.r ?_
 refine At.a 3 ?_
 refine At.sL 10 encZon a ?_
 refine At.z 1 ?_
 refine AW.cD ((k : Int) < (a.length : Int)) (fun h1 => ?_) (fun h1 => ?_)
 · refine AW.skip ?_
   refine AW.seq ?_
   refine AW.block ?_
   refine AW.g ?_
   refine At.a 4 ?_
   refine At.iSl 23 18 (.tmp 16) (.tmp 17) false 3 (a.map encZon) .i64 (k : Int) 70 (by omega) (by simp only [List.length_map]; omega) ?_
   refine Exists.elim (gE a k (by omega)) fun e1 he1 => ?_
   refine At.lVp 70 19 (.tmp 18) false 3 (a.map encZon) k 0 true 3 (encZon e1) (.agg [.int .i64 e1.name, .int .i64 e1.off, .int .i64 e1.rule]) (mapGet he1) ?_
   refine At.c (laws_toZone_spec  e1 ) Tryd.call32 true [] [] [] trivial ?_
   refine At.iRf 31 21 (.tmp 14) (.tmp 15) 107 ((a.take k ++ List.replicate (a.length - k) zZon).map encZon) .i64 (k : Int) 49 3 (by omega) (by simp only [List.length_map, List.length_append, List.length_take, List.length_drop, List.length_replicate, List.length_set, List.length_cons, List.length_nil]; omega) ?_
   refine Exists.elim (gE (a.take k ++ List.replicate (a.length - k) zZon) k (by simp only [List.length_map, List.length_append, List.length_take, List.length_drop, List.length_replicate, List.length_set, List.length_cons, List.length_nil]; omega)) fun e2 he2 => ?_
   refine At.sEl 49 107 49 3 k 0 (.tmp 21) (.tmp 20) ((a.take k ++ List.replicate (a.length - k) zZon).map encZon) ((a.take (k + 1) ++ List.replicate (a.length - (k + 1)) zZon).map encZon) [.int .i64 e1.name, .int .i64 e1.off, .int .i64 e1.rule] (.agg [.int .i64 e1.name, .int .i64 e1.off, .int .i64 e1.rule]) (encZon e2) (encZon e1) (mapGet he2) (stepToV (by assumption)) ?_
   refine At.done rfl ?_
   refine AW.g ?_
   refine At.a 2 ?_
   refine At.sI 13 ((k : Int) + 1) (by omega) ?_
   refine At.z 1 ?_
   exact ⟨k + 1, (by omega), (by omega), Sub.o [(107, 107)] [true, false, false, true, true]⟩
 refine AW.exit ?_
 refine AW.q 2 ?_
 refine AW.ret ?_
 refine ⟨_, Sub.refl _ _, ?_⟩
 refine KF.conv (fun w => .ref 0) (fun w => [.arr 49 3 (w.map encZon)]) (show (a.take k ++ List.replicate (a.length - k) zZon) = (a) from endTo (by omega)) ?_
 exact KF.n [(107, 0)]
theorem laws_toLink_spec  (a : Lnk) : FnSpec Tryd.prog 33 [.agg [.int .i64 a.name, .int .i64 a.to]] [] (.agg [.int .i64 a.name, .int .i64 a.to]) [] := by
 refine FnSpec.of 11 Tryd.func33 rfl Tryd.ntmps33 (by simp) (AW.weakK ?_)
 refine AW.q 2 ?_
 refine AW.q 1 ?_
 refine AW.q 4 ?_
 refine AW.q 4 ?_
 refine AW.q 2 ?_
 exact AW.ret (rf (KF.n []))
theorem laws_toLinkS_spec  (a : List Lnk) (ha : a.length ≤ 1048576) : FnSpec Tryd.prog 18 [.sl false 2 (a.map encLnk)] [] (.ref 0) [.arr 51 2 (a.map encLnk)] := by
 refine FnSpec.of 23 Tryd.func18 rfl Tryd.ntmps18 (by simp) (AW.weakK ?_)
 refine AW.q 1 ?_
 refine AW.r ?_
 refine At.a 2 ?_
 refine At.sL 6 encLnk a ?_
 refine At.make (t := 32) (d := 7) (e := 51) (es := 2) (bytes := 16) (x := .tmp 6) (y := .tmp 6) (ka := .i64) (kb := .i64) (zs := [.int .i64 0, .int .i64 0]) 107 a.length ((List.replicate a.length (⟨0, 0⟩ : Lnk)).map encLnk) (by kernel_rfl) (by kernel_rfl) (by kernel_rfl) (by kernel_rfl) (by kernel_rfl) (by omega) (by omega) (by rw [List.map_replicate]; rfl) ?_
 refine At.z 1 ?_
 refine AW.seq ?_
 refine AW.q 1 ?_
 refine AW.block ?_
 refine AW.loopW (fun (k : Nat) => Go.Sy.mk [.sl false 2 (a.map encLnk), .un, .un, .ref 107, .int .i64 (k : Int)] [(107, .arr 51 2 ((a.take k ++ List.replicate (a.length - k) zLnk).map encLnk))]) (fun (k : Nat) => k ≤ a.length) (fun (k : Nat) => a.length - k) 0 (by omega) (Sub.o [(107, 107)] [true, false, false, true, true]) ?_
 rintro k hk
 refine AW.seq ?_
 refine AW.r ?_
 refine At.a 3 ?_
 refine At.sL 10 encLnk a ?_
 refine At.z 1 ?_
 refine AW.cD ((k : Int) < (a.length : Int)) (fun h1 => ?_) (fun h1 => ?_)
 · refine AW.skip ?_
   refine AW.seq ?_
   refine AW.block ?_
   refine AW.g ?_
   refine At.a 4 ?_
   refine At.iSl 24 18 (.tmp 16) (.tmp 17) false 2 (a.map encLnk) .i64 (k : Int) 72 (by omega) (by simp only [List.length_map]; omega) ?_
   refine Exists.elim (gE a k (by omega)) fun e1 he1 => ?_
   refine At.lVp 72 19 (.tmp 18) false 2 (a.map encLnk) k 0 true 2 (encLnk e1) (.agg [.int .i64 e1.name, .int .i64 e1.to]) (mapGet he1) ?_
   refine At.c (laws_toLink_spec  e1 ) Tryd.call33 true [] [] [] trivial ?_
   refine At.iRf 32 21 (.tmp 14) (.tmp 15) 107 ((a.take k ++ List.replicate (a.length - k) zLnk).map encLnk) .i64 (k : Int) 51 2 (by omega) (by simp only [List.length_map, List.length_append, List.length_take, List.length_drop, List.length_replicate, List.length_set, List.length_cons, List.length_nil]; omega) ?_
   refine Exists.elim (gE (a.take k ++ List.replicate (a.length - k) zLnk) k (by simp only [List.length_map, List.length_append, List.length_take, List.length_drop, List.length_replicate, List.length_set, List.length_cons, List.length_nil]; omega)) fun e2 he2 => ?_
   refine At.sEl 51 107 51 2 k 0 (.tmp 21) (.tmp 20) ((a.take k ++ List.replicate (a.length - k) zLnk).map encLnk) ((a.take (k + 1) ++ List.replicate (a.length - (k + 1)) zLnk).map encLnk) [.int .i64 e1.name, .int .i64 e1.to] (.agg [.int .i64 e1.name, .int .i64 e1.to]) (encLnk e2) (encLnk e1) (mapGet he2) (stepToV (by assumption)) ?_
   refine At.done rfl ?_
   refine AW.g ?_
   refine At.a 2 ?_
   refine At.sI 13 ((k : Int) + 1) (by omega) ?_
   refine At.z 1 ?_
   exact ⟨k + 1, (by omega), (by omega), Sub.o [(107, 107)] [true, false, false, true, true]⟩
 refine AW.exit ?_
 refine AW.q 2 ?_
 refine AW.ret ?_
 refine ⟨_, Sub.refl _ _, ?_⟩
 refine KF.conv (fun w => .ref 0) (fun w => [.arr 51 2 (w.map encLnk)]) (show (a.take k ++ List.replicate (a.length - k) zLnk) = (a) from endTo (by omega)) ?_
 exact KF.n [(107, 0)]
theorem laws_toSource_spec  (a : Srce) (hz : (a.rules.length ≤ 1048576 ∧ a.zones.length ≤ 1048576 ∧ a.links.length ≤ 1048576)) : FnSpec Tryd.prog 6 [.agg [.sl false 9 (a.rules.map encRul), .sl false 3 (a.zones.map encZon), .sl false 2 (a.links.map encLnk)]] [] (.agg [.ref 0, .ref 1, .ref 2]) [.arr 45 9 (a.rules.map encRul), .arr 49 3 (a.zones.map encZon), .arr 51 2 (a.links.map encLnk)] := by
 refine FnSpec.of 17 Tryd.func6 rfl Tryd.ntmps6 (by simp) (AW.weakK ?_)
 refine AW.q 2 ?_
 refine AW.seq ?_
 refine AW.weak (Sub.nils [⟨true, 102, some 0, 5001, 45, 9⟩, ⟨true, 102, some 1, 5002, 49, 3⟩, ⟨true, 102, some 2, 5003, 51, 2⟩] (by kernel_rfl)) ?_
 refine AW.gq 1 ?_
 refine AW.seq ?_
 refine AW.weak (Sub.nils [⟨true, 103, some 0, 5004, 45, 9⟩, ⟨true, 103, some 1, 5005, 49, 3⟩, ⟨true, 103, some 2, 5006, 51, 2⟩] (by kernel_rfl)) ?_
 refine AW.g ?_
 refine At.a 2 ?_
 refine At.c (laws_toRuleS_spec  a.rules (by omega)) Tryd.call16 true [] [(1120, 0)] [] trivial ?_
 refine At.z 2 ?_
 refine AW.r ?_
 refine At.a 2 ?_
 refine At.c (laws_toZoneS_spec  a.zones (by omega)) Tryd.call17 true [] [(1200, 0)] [] trivial ?_
 refine At.z 2 ?_
 refine AW.r ?_
 refine At.a 2 ?_
 refine At.c (laws_toLinkS_spec  a.links (by omega)) Tryd.call18 true [] [(1280, 0)] [] trivial ?_
 refine At.z 2 ?_
 refine AW.q 2 ?_
 exact AW.ret (rf (KF.n [(1120, 0), (1200, 1), (1280, 2)]))
theorem spec_l1In_spec  (x : Int) (lo : Int) (hi : Int) : FnSpec Tryd.prog 49 [.int .i64 x, .int .i64 lo, .int .i64 hi] [] (.bool (inR x lo hi)) [] := by
 refine FnSpec.of 15 Tryd.func49 rfl Tryd.ntmps49 (by simp) (AW.weakK ?_)
 refine AW.q 1 ?_
 refine AW.r ?_
 refine At.a 4 ?_
 by_cases h1 : x ≥ lo
 · refine At.sB 10 _ _ (sayT h1) ?_
   refine At.z 5 ?_
   refine AW.ret ?_
   refine ⟨_, Sub.refl _ _, ?_⟩
   refine KF.conv (fun w => .bool w) (fun w => []) (show (decide (x ≤ hi)) = (inR x lo hi) from by simp [inR, *]) ?_
   exact KF.n []
 refine At.sB 10 _ _ (sayF h1) ?_
 refine At.z 5 ?_
 refine AW.ret ?_
 refine ⟨_, Sub.refl _ _, ?_⟩
 refine KF.conv (fun w => .bool w) (fun w => []) (show (false) = (inR x lo hi) from by simp [inR, *]) ?_
 exact KF.n []
theorem spec_l12Small_spec  (n : Int) : FnSpec Tryd.prog 47 [.int .i64 n] [] (.bool (inR n 97 122)) [] := by
 refine FnSpec.of 5 Tryd.func47 rfl Tryd.ntmps47 (by simp) (AW.weakK ?_)
 refine AW.q 1 ?_
 refine AW.r ?_
 refine At.a 1 ?_
 refine At.c (spec_l1In_spec  n 97 122 ) Tryd.call49 true [] [] [] trivial ?_
 refine At.z 1 ?_
 exact AW.ret (rf (KF.n []))
theorem spec_l11Year_spec  (n : Int) : FnSpec Tryd.prog 48 [.int .i64 n] [] (.bool (inR n 1900 2200)) [] := by
 refine FnSpec.of 5 Tryd.func48 rfl Tryd.ntmps48 (by simp) (AW.weakK ?_)
 refine AW.q 1 ?_
 refine AW.r ?_
 refine At.a 1 ?_
 refine At.c (spec_l1In_spec  n 1900 2200 ) Tryd.call49 true [] [] [] trivial ?_
 refine At.z 1 ?_
 exact AW.ret (rf (KF.n []))
def K_spec_OnOk (rs : List ResultVar) (o : On) (w0_ : Bool) : Exit → Sg → Prop := KF Tryd.prog 0 rs (.bool w0_) []
theorem spec_OnOk_spec  (o : On) : FnSpec Tryd.prog 30 [.agg [.int .i64 o.kind, .int .i64 o.day, .int .i64 o.week]] [] (.bool (onOk o)) [] := by
 refine FnSpec.of 35 Tryd.func30 rfl Tryd.ntmps30 (by simp) (AW.weakK ?_)
 refine AW.q 2 ?_
 refine AW.seq ?_
 refine AW.q 2 ?_
 refine AW.block ?_
 refine AW.q 2 ?_
 refine AW.cE o.kind (1 : Int) (fun h1 => ?_) (fun h1 => ?_)
 · refine AW.r ?_
   refine At.a 2 ?_
   refine At.c (spec_l1In_spec  o.day 1 31 ) Tryd.call49 true [] [] [] trivial ?_
   refine At.a 1 ?_
   by_cases h2 : (inR o.day 1 31) = true
   · refine At.sB 10 (inR o.day 1 31) true (sayB h2) ?_
     have h2i := inR_iff.1 h2
     refine At.z 5 ?_
     exact AW.ret (rf (k1 (K_spec_OnOk _ o) (show (o.week == 0) = (onOk o) from by simp [onOk, *]; done) (KF.n [])))
   refine At.sB 10 (inR o.day 1 31) false (sayB (Bool.eq_false_iff.2 h2)) ?_
   replace h2 := Bool.eq_false_iff.2 h2
   refine At.z 5 ?_
   exact AW.ret (rf (k1 (K_spec_OnOk _ o) (show (false) = (onOk o) from by simp [onOk, *]; done) (KF.n [])))
 refine AW.q 2 ?_
 refine AW.cE o.kind (2 : Int) (fun h3 => ?_) (fun h3 => ?_)
 · refine AW.r ?_
   refine At.a 4 ?_
   by_cases h4 : o.day = 0
   · refine At.sB 20 _ _ (sayET h4) ?_
     refine At.a 2 ?_
     refine At.c (spec_l1In_spec  o.week 0 6 ) Tryd.call49 true [] [] [] trivial ?_
     refine At.z 2 ?_
     exact AW.ret (rf (k1 (K_spec_OnOk _ o) (show (inR o.week 0 6) = (onOk o) from by simp [onOk, *]; done) (KF.n [])))
   refine At.sB 20 _ _ (sayEF h4) ?_
   refine At.z 5 ?_
   exact AW.ret (rf (k1 (K_spec_OnOk _ o) (show (false) = (onOk o) from by simp [onOk, *]; done) (KF.n [])))
 refine AW.q 2 ?_
 refine AW.cE o.kind (3 : Int) (fun h5 => ?_) (fun h5 => ?_)
 · refine AW.r ?_
   refine At.a 2 ?_
   refine At.c (spec_l1In_spec  o.day 1 31 ) Tryd.call49 true [] [] [] trivial ?_
   refine At.a 1 ?_
   by_cases h6 : (inR o.day 1 31) = true
   · refine At.sB 30 (inR o.day 1 31) true (sayB h6) ?_
     have h6i := inR_iff.1 h6
     refine At.a 2 ?_
     refine At.c (spec_l1In_spec  o.week 0 6 ) Tryd.call49 true [] [] [] trivial ?_
     refine At.z 2 ?_
     exact AW.ret (rf (k1 (K_spec_OnOk _ o) (show (inR o.week 0 6) = (onOk o) from by simp [onOk, *]; done) (KF.n [])))
   refine At.sB 30 (inR o.day 1 31) false (sayB (Bool.eq_false_iff.2 h6)) ?_
   replace h6 := Bool.eq_false_iff.2 h6
   refine At.z 5 ?_
   exact AW.ret (rf (k1 (K_spec_OnOk _ o) (show (false) = (onOk o) from by simp [onOk, *]; done) (KF.n [])))
 refine AW.skip ?_
 refine AW.q 1 ?_
 exact AW.ret (rf (k1 (K_spec_OnOk _ o) (show (false) = (onOk o) from by simp [onOk, *]; done) (KF.n [])))
theorem spec_l12RuleOk_spec  (r : Rul) : FnSpec Tryd.prog 27 [.agg [.int .i64 r.name, .int .i64 r.from_, .int .i64 r.to, .int .i64 r.month, .int .i64 r.on.kind, .int .i64 r.on.day, .int .i64 r.on.week, .int .i64 r.at_, .int .i64 r.save]] [] (.bool (ruleOk r)) [] := by
 refine FnSpec.of 43 Tryd.func27 rfl Tryd.ntmps27 (by simp) (AW.weakK ?_)
 refine AW.q 2 ?_
 refine AW.r ?_
 refine At.a 2 ?_
 refine At.c (spec_l12Small_spec  r.name ) Tryd.call47 true [] [] [] trivial ?_
 refine At.a 1 ?_
 by_cases h1 : (inR r.name 97 122) = true
 · refine At.sB 6 (inR r.name 97 122) true (sayB h1) ?_
   have h1i := inR_iff.1 h1
   refine At.a 2 ?_
   refine At.c (spec_l11Year_spec  r.from_ ) Tryd.call48 true [] [] [] trivial ?_
   refine At.a 2 ?_
   by_cases h2 : (inR r.from_ 1900 2200) = true
   · refine At.sB 11 (inR r.from_ 1900 2200) true (sayB h2) ?_
     have h2i := inR_iff.1 h2
     refine At.a 2 ?_
     refine At.c (spec_l11Year_spec  r.to ) Tryd.call48 true [] [] [] trivial ?_
     refine At.a 2 ?_
     by_cases h3 : (inR r.to 1900 2200) = true
     · refine At.sB 16 (inR r.to 1900 2200) true (sayB h3) ?_
       have h3i := inR_iff.1 h3
       refine At.a 7 ?_
       by_cases h4 : r.from_ ≤ r.to
       · refine At.sB 23 _ _ (sayT h4) ?_
         refine At.a 2 ?_
         refine At.c (spec_l1In_spec  r.month 1 12 ) Tryd.call49 true [] [] [] trivial ?_
         refine At.a 2 ?_
         by_cases h5 : (inR r.month 1 12) = true
         · refine At.sB 28 (inR r.month 1 12) true (sayB h5) ?_
           have h5i := inR_iff.1 h5
           refine At.a 2 ?_
           refine At.c (spec_OnOk_spec  r.on ) Tryd.call30 true [] [] [] trivial ?_
           refine At.a 2 ?_
           by_cases h6 : (onOk r.on) = true
           · refine At.sB 33 (onOk r.on) true (sayB h6) ?_
             refine At.a 2 ?_
             refine At.c (spec_l1In_spec  r.at_ 0 1439 ) Tryd.call49 true [] [] [] trivial ?_
             refine At.a 2 ?_
             by_cases h7 : (inR r.at_ 0 1439) = true
             · refine At.sB 38 (inR r.at_ 0 1439) true (sayB h7) ?_
               have h7i := inR_iff.1 h7
               refine At.a 2 ?_
               refine At.c (spec_l1In_spec  r.save 0 180 ) Tryd.call49 true [] [] [] trivial ?_
               refine At.z 2 ?_
               refine AW.ret ?_
               refine ⟨_, Sub.refl _ _, ?_⟩
               refine KF.conv (fun w => .bool w) (fun w => []) (show (inR r.save 0 180) = (ruleOk r) from by simp [ruleOk, *]; done) ?_
               exact KF.n []
             refine At.sB 38 (inR r.at_ 0 1439) false (sayB (Bool.eq_false_iff.2 h7)) ?_
             replace h7 := Bool.eq_false_iff.2 h7
             refine At.z 5 ?_
             refine AW.ret ?_
             refine ⟨_, Sub.refl _ _, ?_⟩
             refine KF.conv (fun w => .bool w) (fun w => []) (show (false) = (ruleOk r) from by simp [ruleOk, *]; done) ?_
             exact KF.n []
           refine At.sB 33 (onOk r.on) false (sayB (Bool.eq_false_iff.2 h6)) ?_
           replace h6 := Bool.eq_false_iff.2 h6
           refine At.z 10 ?_
           refine AW.ret ?_
           refine ⟨_, Sub.refl _ _, ?_⟩
           refine KF.conv (fun w => .bool w) (fun w => []) (show (false) = (ruleOk r) from by simp [ruleOk, *]; done) ?_
           exact KF.n []
         refine At.sB 28 (inR r.month 1 12) false (sayB (Bool.eq_false_iff.2 h5)) ?_
         replace h5 := Bool.eq_false_iff.2 h5
         refine At.z 15 ?_
         refine AW.ret ?_
         refine ⟨_, Sub.refl _ _, ?_⟩
         refine KF.conv (fun w => .bool w) (fun w => []) (show (false) = (ruleOk r) from by simp [ruleOk, *]; done) ?_
         exact KF.n []
       refine At.sB 23 _ _ (sayF h4) ?_
       refine At.z 20 ?_
       refine AW.ret ?_
       refine ⟨_, Sub.refl _ _, ?_⟩
       refine KF.conv (fun w => .bool w) (fun w => []) (show (false) = (ruleOk r) from by simp [ruleOk, *]; done) ?_
       exact KF.n []
     refine At.sB 16 (inR r.to 1900 2200) false (sayB (Bool.eq_false_iff.2 h3)) ?_
     replace h3 := Bool.eq_false_iff.2 h3
     refine At.z 27 ?_
     refine AW.ret ?_
     refine ⟨_, Sub.refl _ _, ?_⟩
     refine KF.conv (fun w => .bool w) (fun w => []) (show (false) = (ruleOk r) from by simp [ruleOk, *]; done) ?_
     exact KF.n []
   refine At.sB 11 (inR r.from_ 1900 2200) false (sayB (Bool.eq_false_iff.2 h2)) ?_
   replace h2 := Bool.eq_false_iff.2 h2
   refine At.z 32 ?_
   refine AW.ret ?_
   refine ⟨_, Sub.refl _ _, ?_⟩
   refine KF.conv (fun w => .bool w) (fun w => []) (show (false) = (ruleOk r) from by simp [ruleOk, *]; done) ?_
   exact KF.n []
 refine At.sB 6 (inR r.name 97 122) false (sayB (Bool.eq_false_iff.2 h1)) ?_
 replace h1 := Bool.eq_false_iff.2 h1
 refine At.z 37 ?_
 refine AW.ret ?_
 refine ⟨_, Sub.refl _ _, ?_⟩
 refine KF.conv (fun w => .bool w) (fun w => []) (show (false) = (ruleOk r) from by simp [ruleOk, *]; done) ?_
 exact KF.n []
theorem spec_l12Great_spec  (n : Int) : FnSpec Tryd.prog 50 [.int .i64 n] [] (.bool (inR n 65 90)) [] := by
 refine FnSpec.of 5 Tryd.func50 rfl Tryd.ntmps50 (by simp) (AW.weakK ?_)
 refine AW.q 1 ?_
 refine AW.r ?_
 refine At.a 1 ?_
 refine At.c (spec_l1In_spec  n 65 90 ) Tryd.call49 true [] [] [] trivial ?_
 refine At.z 1 ?_
 exact AW.ret (rf (KF.n []))
theorem spec_l12HasRule_spec  (list : List Rul) (x : Int) (hl : list.length ≤ 1048576) : FnSpec Tryd.prog 51 [.sl false 9 (list.map encRul), .int .i64 x] [] (.bool (hasR x list)) [] := by
 refine FnSpec.of 19 Tryd.func51 rfl Tryd.ntmps51 (by simp) (AW.weakK ?_)
 refine AW.q 1 ?_
 refine AW.seq ?_
 refine AW.q 1 ?_
 refine AW.block ?_
 refine AW.loopW (fun (k : Nat) => Go.Sy.mk [.sl false 9 (list.map encRul), .int .i64 x, .un, .un, .un, .int .i64 (k : Int)] []) (fun (k : Nat) => k ≤ list.length ∧ hasR x list = hasR x (list.drop k)) (fun (k : Nat) => list.length - k) 0 ⟨by omega, by rw [List.drop_zero]⟩ (Sub.o [] [true, true, false, false, false, true]) ?_
 rintro k ⟨hk, hR⟩
 refine AW.seq ?_
 refine AW.r ?_
 refine At.a 3 ?_
 refine At.sL 8 encRul list ?_
 refine At.z 1 ?_
 refine AW.cD ((k : Int) < (list.length : Int)) (fun h1 => ?_) (fun h1 => ?_)
 · refine AW.skip ?_
   refine AW.seq ?_
   refine AW.block ?_
   refine AW.r ?_
   refine At.a 2 ?_
   refine At.iSl 30 14 (.tmp 12) (.tmp 13) false 9 (list.map encRul) .i64 (k : Int) 45 (by omega) (by simp only [List.length_map]; omega) ?_
   refine At.a 1 ?_
   refine Exists.elim (gE list k (by omega)) fun e1 he1 => ?_
   refine At.lVp 3 16 (.tmp 15) false 9 (list.map encRul) k 0 false 1 (encRul e1) (.int .i64 e1.name) (mapGet he1) ?_
   refine At.z 2 ?_
   refine AW.cE e1.name x (fun h2 => ?_) (fun h2 => ?_)
   · refine AW.q 1 ?_
     refine AW.ret ?_
     refine ⟨_, Sub.refl _ _, ?_⟩
     refine KF.conv (fun w => .bool w) (fun w => []) (show (true) = (hasR x list) from by rw [hR, hasR_hit he1 (by assumption)]) ?_
     exact KF.n []
   refine AW.skip ?_
   refine AW.g ?_
   refine At.a 2 ?_
   refine At.sI 11 ((k : Int) + 1) (by omega) ?_
   refine At.z 1 ?_
   exact ⟨k + 1, ⟨by omega, hR.trans (hasR_step he1 (by assumption))⟩, (by omega), Sub.o [] [true, true, false, false, false, true]⟩
 refine AW.exit ?_
 refine AW.q 1 ?_
 refine AW.ret ?_
 refine ⟨_, Sub.refl _ _, ?_⟩
 refine KF.conv (fun w => .bool w) (fun w => []) (show (false) = (hasR x list) from by rw [hR, hasR_end (by omega)]) ?_
 exact KF.n []
theorem spec_l12Zone_spec  (s : Srce) (z : Zon) (hs : (s.rules.length ≤ 1048576 ∧ s.zones.length ≤ 1048576 ∧ s.links.length ≤ 1048576)) : FnSpec Tryd.prog 28 [.agg [.sl false 9 (s.rules.map encRul), .sl false 3 (s.zones.map encZon), .sl false 2 (s.links.map encLnk)], .agg [.int .i64 z.name, .int .i64 z.off, .int .i64 z.rule]] [] (.bool (zone1 s.rules (lastZ s.zones) z)) [] := by
 refine FnSpec.of 45 Tryd.func28 rfl Tryd.ntmps28 (by simp) (AW.weakK ?_)
 refine AW.q 3 ?_
 refine AW.r ?_
 refine At.a 3 ?_
 refine At.sL 8 encZon s.zones ?_
 refine At.z 1 ?_
 refine AW.seq ?_
 refine AW.gD Tryd_mix ?_
 refine At.a 2 ?_
 refine At.c (spec_l12Great_spec  z.name ) Tryd.call50 true [] [] [] trivial ?_
 refine At.a 1 ?_
 by_cases h1 : (inR z.name 65 90) = true
 · refine At.sB 12 (inR z.name 65 90) true (sayB h1) ?_
   have h1i := inR_iff.1 h1
   refine At.a 2 ?_
   refine At.c (spec_l1In_spec  z.off (-900) 900 ) Tryd.call49 true [] [] [] trivial ?_
   refine At.a 2 ?_
   by_cases h2 : (inR z.off (-900) 900) = true
   · refine At.sB 17 (inR z.off (-900) 900) true (sayB h2) ?_
     have h2i := inR_iff.1 h2
     refine At.a 3 ?_
     by_cases h3 : (s.zones.length : Int) = 0
     · refine At.sB 20 _ _ (sayET h3) ?_
       refine At.a 17 ?_
       by_cases h4 : z.rule = 0
       · refine At.sB 37 _ _ (sayET h4) ?_
         refine At.zD 8 ?_
         refine AW.ret ?_
         refine ⟨_, Sub.refl _ _, ?_⟩
         refine KF.conv (fun w => .bool w) (fun w => []) (show (true) = (zone1 s.rules (lastZ s.zones) z) from by unfold zone1; first | (rw [lastZ_0 (by assumption), decide_eq_true (show (0 : Int) < z.name by omega)]; simp [*]; done) | (rw [lastZ_len he1]; simp [*]; done) | (simp [*]; done)) ?_
         exact KF.n []
       refine At.sB 37 _ _ (sayEF h4) ?_
       refine At.a 4 ?_
       refine At.c (spec_l12HasRule_spec  s.rules z.rule (by omega)) Tryd.call51 true [] [] [] trivial ?_
       refine At.zD 3 ?_
       refine AW.ret ?_
       refine ⟨_, Sub.refl _ _, ?_⟩
       refine KF.conv (fun w => .bool w) (fun w => []) (show (hasR z.rule s.rules) = (zone1 s.rules (lastZ s.zones) z) from by unfold zone1; first | (rw [lastZ_0 (by assumption), decide_eq_true (show (0 : Int) < z.name by omega)]; simp [*]; done) | (rw [lastZ_len he1]; simp [*]; done) | (simp [*]; done)) ?_
       exact KF.n []
     refine At.sB 20 _ _ (sayEF h3) ?_
     refine At.a 4 ?_
     refine At.sI 24 ((s.zones.length : Int) - 1) (by omega) ?_
     refine At.iSl 31 25 (.tmp 22) (.tmp 24) false 3 (s.zones.map encZon) .i64 ((s.zones.length : Int) - 1) 49 (by omega) (by simp only [List.length_map]; omega) ?_
     refine At.a 1 ?_
     refine Exists.elim (gE s.zones (((s.zones.length : Int) - 1).toNat) (by omega)) fun e1 he1 => ?_
     refine At.lVp 3 27 (.tmp 26) false 3 (s.zones.map encZon) (((s.zones.length : Int) - 1).toNat) 0 false 1 (encZon e1) (.int .i64 e1.name) (mapGet he1) ?_
     refine At.a 6 ?_
     by_cases h5 : e1.name < z.name
     · refine At.sB 33 _ _ (sayT h5) ?_
       refine At.a 4 ?_
       by_cases h6 : z.rule = 0
       · refine At.sB 37 _ _ (sayET h6) ?_
         refine At.zD 8 ?_
         refine AW.ret ?_
         refine ⟨_, Sub.refl _ _, ?_⟩
         refine KF.conv (fun w => .bool w) (fun w => []) (show (true) = (zone1 s.rules (lastZ s.zones) z) from by unfold zone1; first | (rw [lastZ_0 (by assumption), decide_eq_true (show (0 : Int) < z.name by omega)]; simp [*]; done) | (rw [lastZ_len he1]; simp [*]; done) | (simp [*]; done)) ?_
         exact KF.n []
       refine At.sB 37 _ _ (sayEF h6) ?_
       refine At.a 4 ?_
       refine At.c (spec_l12HasRule_spec  s.rules z.rule (by omega)) Tryd.call51 true [] [] [] trivial ?_
       refine At.zD 3 ?_
       refine AW.ret ?_
       refine ⟨_, Sub.refl _ _, ?_⟩
       refine KF.conv (fun w => .bool w) (fun w => []) (show (hasR z.rule s.rules) = (zone1 s.rules (lastZ s.zones) z) from by unfold zone1; first | (rw [lastZ_0 (by assumption), decide_eq_true (show (0 : Int) < z.name by omega)]; simp [*]; done) | (rw [lastZ_len he1]; simp [*]; done) | (simp [*]; done)) ?_
       exact KF.n []
     refine At.sB 33 _ _ (sayF h5) ?_
     refine At.zD 12 ?_
     refine AW.ret ?_
     refine ⟨_, Sub.refl _ _, ?_⟩
     refine KF.conv (fun w => .bool w) (fun w => []) (show (false) = (zone1 s.rules (lastZ s.zones) z) from by unfold zone1; first | (rw [lastZ_0 (by assumption), decide_eq_true (show (0 : Int) < z.name by omega)]; simp [*]; done) | (rw [lastZ_len he1]; simp [*]; done) | (simp [*]; done)) ?_
     exact KF.n []
   refine At.sB 17 (inR z.off (-900) 900) false (sayB (Bool.eq_false_iff.2 h2)) ?_
   replace h2 := Bool.eq_false_iff.2 h2
   refine At.zD 28 ?_
   refine AW.ret ?_
   refine ⟨_, Sub.refl _ _, ?_⟩
   refine KF.conv (fun w => .bool w) (fun w => []) (show (false) = (zone1 s.rules (lastZ s.zones) z) from by unfold zone1; first | (rw [lastZ_0 (by assumption), decide_eq_true (show (0 : Int) < z.name by omega)]; simp [*]; done) | (rw [lastZ_len he1]; simp [*]; done) | (simp [*]; done)) ?_
   exact KF.n []
 refine At.sB 12 (inR z.name 65 90) false (sayB (Bool.eq_false_iff.2 h1)) ?_
 replace h1 := Bool.eq_false_iff.2 h1
 refine At.zD 33 ?_
 refine AW.ret ?_
 refine ⟨_, Sub.refl _ _, ?_⟩
 refine KF.conv (fun w => .bool w) (fun w => []) (show (false) = (zone1 s.rules (lastZ s.zones) z) from by unfold zone1; first | (rw [lastZ_0 (by assumption), decide_eq_true (show (0 : Int) < z.name by omega)]; simp [*]; done) | (rw [lastZ_len he1]; simp [*]; done) | (simp [*]; done)) ?_
 exact KF.n []
theorem spec_l12HasZone_spec  (list : List Zon) (x : Int) (hl : list.length ≤ 1048576) : FnSpec Tryd.prog 52 [.sl false 3 (list.map encZon), .int .i64 x] [] (.bool (hasZ x list)) [] := by
 refine FnSpec.of 19 Tryd.func52 rfl Tryd.ntmps52 (by simp) (AW.weakK ?_)
 refine AW.q 1 ?_
 refine AW.seq ?_
 refine AW.q 1 ?_
 refine AW.block ?_
 refine AW.loopW (fun (k : Nat) => Go.Sy.mk [.sl false 3 (list.map encZon), .int .i64 x, .un, .un, .un, .int .i64 (k : Int)] []) (fun (k : Nat) => k ≤ list.length ∧ hasZ x list = hasZ x (list.drop k)) (fun (k : Nat) => list.length - k) 0 ⟨by omega, by rw [List.drop_zero]⟩ (Sub.o [] [true, true, false, false, false, true]) ?_
 rintro k ⟨hk, hR⟩
 refine AW.seq ?_
 refine AW.r ?_
 refine At.a 3 ?_
 refine At.sL 8 encZon list ?_
 refine At.z 1 ?_
 refine AW.cD ((k : Int) < (list.length : Int)) (fun h1 => ?_) (fun h1 => ?_)
 · refine AW.skip ?_
   refine AW.seq ?_
   refine AW.block ?_
   refine AW.r ?_
   refine At.a 2 ?_
   refine At.iSl 31 14 (.tmp 12) (.tmp 13) false 3 (list.map encZon) .i64 (k : Int) 49 (by omega) (by simp only [List.length_map]; omega) ?_
   refine At.a 1 ?_
   refine Exists.elim (gE list k (by omega)) fun e1 he1 => ?_
   refine At.lVp 3 16 (.tmp 15) false 3 (list.map encZon) k 0 false 1 (encZon e1) (.int .i64 e1.name) (mapGet he1) ?_
   refine At.z 2 ?_
   refine AW.cE e1.name x (fun h2 => ?_) (fun h2 => ?_)
   · refine AW.q 1 ?_
     refine AW.ret ?_
     refine ⟨_, Sub.refl _ _, ?_⟩
     refine KF.conv (fun w => .bool w) (fun w => []) (show (true) = (hasZ x list) from by rw [hR, hasZ_hit he1 (by assumption)]) ?_
     exact KF.n []
   refine AW.skip ?_
   refine AW.g ?_
   refine At.a 2 ?_
   refine At.sI 11 ((k : Int) + 1) (by omega) ?_
   refine At.z 1 ?_
   exact ⟨k + 1, ⟨by omega, hR.trans (hasZ_step he1 (by assumption))⟩, (by omega), Sub.o [] [true, true, false, false, false, true]⟩
 refine AW.exit ?_
 refine AW.q 1 ?_
 refine AW.ret ?_
 refine ⟨_, Sub.refl _ _, ?_⟩
 refine KF.conv (fun w => .bool w) (fun w => []) (show (false) = (hasZ x list) from by rw [hR, hasZ_end (by omega)]) ?_
 exact KF.n []
theorem spec_l12Link_spec  (s : Srce) (l : Lnk) (hs : (s.rules.length ≤ 1048576 ∧ s.zones.length ≤ 1048576 ∧ s.links.length ≤ 1048576)) : FnSpec Tryd.prog 29 [.agg [.sl false 9 (s.rules.map encRul), .sl false 3 (s.zones.map encZon), .sl false 2 (s.links.map encLnk)], .agg [.int .i64 l.name, .int .i64 l.to]] [] (.bool (link1 s.zones (lastL s.links) l)) [] := by
 refine FnSpec.of 43 Tryd.func29 rfl Tryd.ntmps29 (by simp) (AW.weakK ?_)
 refine AW.q 3 ?_
 refine AW.r ?_
 refine At.a 3 ?_
 refine At.sL 8 encLnk s.links ?_
 refine At.z 1 ?_
 refine AW.seq ?_
 refine AW.gD Tryd_mix ?_
 refine At.a 2 ?_
 refine At.c (spec_l12Great_spec  l.name ) Tryd.call50 true [] [] [] trivial ?_
 refine At.a 1 ?_
 by_cases h1 : (inR l.name 65 90) = true
 · refine At.sB 12 (inR l.name 65 90) true (sayB h1) ?_
   have h1i := inR_iff.1 h1
   refine At.a 3 ?_
   by_cases h2 : (s.links.length : Int) = 0
   · refine At.sB 15 _ _ (sayET h2) ?_
     refine At.a 17 ?_
     refine At.c (spec_l12HasZone_spec  s.zones l.to (by omega)) Tryd.call52 true [] [] [] trivial ?_
     refine At.a 2 ?_
     by_cases h3 : (hasZ l.to s.zones) = true
     · refine At.sB 35 (hasZ l.to s.zones) true (sayB h3) ?_
       refine At.a 4 ?_
       refine At.c (spec_l12HasZone_spec  s.zones l.name (by omega)) Tryd.call52 true [] [] [] trivial ?_
       refine At.zD 3 ?_
       refine AW.ret ?_
       refine ⟨_, Sub.refl _ _, ?_⟩
       refine KF.conv (fun w => .bool w) (fun w => []) (show (!(hasZ l.name s.zones)) = (link1 s.zones (lastL s.links) l) from by unfold link1; first | (rw [lastL_0 (by assumption), decide_eq_true (show (0 : Int) < l.name by omega)]; simp [*]; done) | (rw [lastL_len he1]; simp [*]; done) | (simp [*]; done)) ?_
       exact KF.n []
     refine At.sB 35 (hasZ l.to s.zones) false (sayB (Bool.eq_false_iff.2 h3)) ?_
     replace h3 := Bool.eq_false_iff.2 h3
     refine At.zD 8 ?_
     refine AW.ret ?_
     refine ⟨_, Sub.refl _ _, ?_⟩
     refine KF.conv (fun w => .bool w) (fun w => []) (show (false) = (link1 s.zones (lastL s.links) l) from by unfold link1; first | (rw [lastL_0 (by assumption), decide_eq_true (show (0 : Int) < l.name by omega)]; simp [*]; done) | (rw [lastL_len he1]; simp [*]; done) | (simp [*]; done)) ?_
     exact KF.n []
   refine At.sB 15 _ _ (sayEF h2) ?_
   refine At.a 4 ?_
   refine At.sI 19 ((s.links.length : Int) - 1) (by omega) ?_
   refine At.iSl 32 20 (.tmp 17) (.tmp 19) false 2 (s.links.map encLnk) .i64 ((s.links.length : Int) - 1) 51 (by omega) (by simp only [List.length_map]; omega) ?_
   refine At.a 1 ?_
   refine Exists.elim (gE s.links (((s.links.length : Int) - 1).toNat) (by omega)) fun e1 he1 => ?_
   refine At.lVp 3 22 (.tmp 21) false 2 (s.links.map encLnk) (((s.links.length : Int) - 1).toNat) 0 false 1 (encLnk e1) (.int .i64 e1.name) (mapGet he1) ?_
   refine At.a 6 ?_
   by_cases h4 : e1.name < l.name
   · refine At.sB 28 _ _ (sayT h4) ?_
     refine At.a 4 ?_
     refine At.c (spec_l12HasZone_spec  s.zones l.to (by omega)) Tryd.call52 true [] [] [] trivial ?_
     refine At.a 2 ?_
     by_cases h5 : (hasZ l.to s.zones) = true
     · refine At.sB 35 (hasZ l.to s.zones) true (sayB h5) ?_
       refine At.a 4 ?_
       refine At.c (spec_l12HasZone_spec  s.zones l.name (by omega)) Tryd.call52 true [] [] [] trivial ?_
       refine At.zD 3 ?_
       refine AW.ret ?_
       refine ⟨_, Sub.refl _ _, ?_⟩
       refine KF.conv (fun w => .bool w) (fun w => []) (show (!(hasZ l.name s.zones)) = (link1 s.zones (lastL s.links) l) from by unfold link1; first | (rw [lastL_0 (by assumption), decide_eq_true (show (0 : Int) < l.name by omega)]; simp [*]; done) | (rw [lastL_len he1]; simp [*]; done) | (simp [*]; done)) ?_
       exact KF.n []
     refine At.sB 35 (hasZ l.to s.zones) false (sayB (Bool.eq_false_iff.2 h5)) ?_
     replace h5 := Bool.eq_false_iff.2 h5
     refine At.zD 8 ?_
     refine AW.ret ?_
     refine ⟨_, Sub.refl _ _, ?_⟩
     refine KF.conv (fun w => .bool w) (fun w => []) (show (false) = (link1 s.zones (lastL s.links) l) from by unfold link1; first | (rw [lastL_0 (by assumption), decide_eq_true (show (0 : Int) < l.name by omega)]; simp [*]; done) | (rw [lastL_len he1]; simp [*]; done) | (simp [*]; done)) ?_
     exact KF.n []
   refine At.sB 28 _ _ (sayF h4) ?_
   refine At.zD 15 ?_
   refine AW.ret ?_
   refine ⟨_, Sub.refl _ _, ?_⟩
   refine KF.conv (fun w => .bool w) (fun w => []) (show (false) = (link1 s.zones (lastL s.links) l) from by unfold link1; first | (rw [lastL_0 (by assumption), decide_eq_true (show (0 : Int) < l.name by omega)]; simp [*]; done) | (rw [lastL_len he1]; simp [*]; done) | (simp [*]; done)) ?_
   exact KF.n []
 refine At.sB 12 (inR l.name 65 90) false (sayB (Bool.eq_false_iff.2 h1)) ?_
 replace h1 := Bool.eq_false_iff.2 h1
 refine At.zD 31 ?_
 refine AW.ret ?_
 refine ⟨_, Sub.refl _ _, ?_⟩
 refine KF.conv (fun w => .bool w) (fun w => []) (show (false) = (link1 s.zones (lastL s.links) l) from by unfold link1; first | (rw [lastL_0 (by assumption), decide_eq_true (show (0 : Int) < l.name by omega)]; simp [*]; done) | (rw [lastL_len he1]; simp [*]; done) | (simp [*]; done)) ?_
 exact KF.n []
theorem spec_SourceOk_spec  (s : Srce) (hs : (s.rules.length ≤ 1048576 ∧ s.zones.length ≤ 1048576 ∧ s.links.length ≤ 1048576)) : FnSpec Tryd.prog 12 [.agg [.sl false 9 (s.rules.map encRul), .sl false 3 (s.zones.map encZon), .sl false 2 (s.links.map encLnk)]] [] (.bool (srcOk s)) [] := by
 refine FnSpec.of 82 Tryd.func12 rfl Tryd.ntmps12 (by simp) (AW.weakK ?_)
 refine AW.q 2 ?_
 refine AW.seq ?_
 refine AW.r ?_
 refine At.a 3 ?_
 refine At.sL 9 encRul s.rules ?_
 refine At.a 2 ?_
 by_cases h1 : (s.rules.length : Int) > 20
 · refine At.sB 11 _ _ (sayT h1) ?_
   refine At.z 11 ?_
   refine AW.cond true (by kernel_rfl) (fun _ => ?_) (fun h => by cases h)
   refine AW.q 1 ?_
   refine AW.ret ?_
   refine ⟨_, Sub.refl _ _, ?_⟩
   refine KF.conv (fun w => .bool w) (fun w => []) (show (false) = (srcOk s) from by exact (srcOk_r20 (by assumption)).symm) ?_
   exact KF.n []
 refine At.sB 11 _ _ (sayF h1) ?_
 refine At.a 3 ?_
 refine At.sL 14 encZon s.zones ?_
 refine At.a 3 ?_
 by_cases h2 : (s.zones.length : Int) > 26
 · refine At.sB 17 _ _ (sayT h2) ?_
   refine At.z 5 ?_
   refine AW.cond true (by kernel_rfl) (fun _ => ?_) (fun h => by cases h)
   refine AW.q 1 ?_
   refine AW.ret ?_
   refine ⟨_, Sub.refl _ _, ?_⟩
   refine KF.conv (fun w => .bool w) (fun w => []) (show (false) = (srcOk s) from by exact (srcOk_z26 (by assumption)).symm) ?_
   exact KF.n []
 refine At.sB 17 _ _ (sayF h2) ?_
 refine At.a 3 ?_
 refine At.sL 20 encLnk s.links ?_
 refine At.z 2 ?_
 refine AW.cD ((s.links.length : Int) > 26) (fun h3 => ?_) (fun h3 => ?_)
 · refine AW.q 1 ?_
   refine AW.ret ?_
   refine ⟨_, Sub.refl _ _, ?_⟩
   refine KF.conv (fun w => .bool w) (fun w => []) (show (false) = (srcOk s) from by exact (srcOk_l26 (by assumption)).symm) ?_
   exact KF.n []
 refine AW.skip ?_
 refine AW.q 5 ?_
 refine AW.seq ?_
 refine AW.seq ?_
 refine AW.weak (Sub.nsl 103 1 34 3 [.sl false 9 (s.rules.map encRul), .nil, .nil] (by kernel_rfl)) ?_
 refine AW.weak (Sub.nsl 103 2 34 2 [.sl false 9 (s.rules.map encRul), .sl false 3 [], .nil] (by kernel_rfl)) ?_
 refine AW.gq 1 ?_
 refine AW.block ?_
 refine AW.loopW (fun (k : Nat) => Go.Sy.mk [.un, .ptr 101 0 0, .un, .ptr 103 0 0, .int .i64 (k : Int)] [(101, .box 34 [.sl false 9 (s.rules.map encRul), .sl false 3 (s.zones.map encZon), .sl false 2 (s.links.map encLnk)]), (103, .box 34 [.sl false 9 (s.rules.map encRul), .sl false 3 [], .sl false 2 []])]) (fun (k : Nat) => k ≤ s.rules.length ∧ rulesOk s.rules = rulesOk (s.rules.drop k)) (fun (k : Nat) => s.rules.length - k) 0 ⟨by omega, by rw [List.drop_zero]⟩ (Sub.o [(101, 101), (103, 103)] [false, true, false, true, true]) ?_
 rintro k ⟨hk, hR1⟩
 refine AW.seq ?_
 refine AW.r ?_
 refine At.a 4 ?_
 refine At.sL 29 encRul s.rules ?_
 refine At.z 1 ?_
 refine AW.cD ((k : Int) < (s.rules.length : Int)) (fun h4 => ?_) (fun h4 => ?_)
 · refine AW.skip ?_
   refine AW.seq ?_
   refine AW.block ?_
   refine AW.r ?_
   refine At.a 3 ?_
   refine At.iSl 30 36 (.tmp 34) (.tmp 35) false 9 (s.rules.map encRul) .i64 (k : Int) 45 (by omega) (by simp only [List.length_map]; omega) ?_
   refine Exists.elim (gE s.rules k (by omega)) fun e1 he1 => ?_
   refine At.lVp 45 37 (.tmp 36) false 9 (s.rules.map encRul) k 0 true 9 (encRul e1) (.agg [.int .i64 e1.name, .int .i64 e1.from_, .int .i64 e1.to, .int .i64 e1.month, .int .i64 e1.on.kind, .int .i64 e1.on.day, .int .i64 e1.on.week, .int .i64 e1.at_, .int .i64 e1.save]) (mapGet he1) ?_
   refine At.c (spec_l12RuleOk_spec  e1 ) Tryd.call27 true [] [] [] trivial ?_
   refine At.z 1 ?_
   refine AW.cNB (ruleOk e1) (fun h5 => ?_) (fun h5 => ?_)
   · refine AW.q 1 ?_
     refine AW.ret ?_
     refine ⟨_, Sub.refl _ _, ?_⟩
     refine KF.conv (fun w => .bool w) (fun w => []) (show (false) = (srcOk s) from by exact (srcOk_rb (hR1.trans (rules_bad (by assumption) (by assumption)))).symm) ?_
     exact KF.n []
   refine AW.skip ?_
   refine AW.g ?_
   refine At.a 2 ?_
   refine At.sI 32 ((k : Int) + 1) (by omega) ?_
   refine At.z 1 ?_
   exact ⟨k + 1, ⟨by omega, hR1.trans (rules_step he1 (by assumption))⟩, (by omega), Sub.o [(101, 101), (103, 103)] [false, true, false, true, true]⟩
 refine AW.exit ?_
 refine AW.seq ?_
 refine AW.q 1 ?_
 refine AW.block ?_
 refine AW.loopW (fun (x : Nat × List Zon) => match x with | (j, zs) => Go.Sy.mk [.un, .ptr 101 0 0, .un, .ptr 103 0 0, .un, .int .i64 (j : Int)] [(101, .box 34 [.sl false 9 (s.rules.map encRul), .sl false 3 (s.zones.map encZon), .sl false 2 (s.links.map encLnk)]), (103, .box 34 [.sl false 9 (s.rules.map encRul), .sl false 3 (zs.map encZon), .sl false 2 []])]) (fun (x : Nat × List Zon) => match x with | (j, zs) => (j ≤ s.zones.length ∧ zs.length ≤ j) ∧ zs = s.zones.take j ∧ zonesOk s.rules 0 s.zones = zonesOk s.rules (lastZ (s.zones.take j)) (s.zones.drop j)) (fun (x : Nat × List Zon) => match x with | (j, zs) => s.zones.length - j) (0, []) ⟨by simp, rfl, by rw [List.drop_zero]; rfl⟩ (Sub.o [(101, 101), (103, 103)] [false, true, false, true, false, true]) ?_
 rintro ⟨j, zs⟩ ⟨hj, hZ, hR2⟩
 refine AW.seq ?_
 refine AW.r ?_
 refine At.a 4 ?_
 refine At.sL 43 encZon s.zones ?_
 refine At.z 1 ?_
 refine AW.cD ((j : Int) < (s.zones.length : Int)) (fun h6 => ?_) (fun h6 => ?_)
 · refine AW.skip ?_
   refine AW.seq ?_
   refine AW.block ?_
   refine AW.seq ?_
   refine AW.seq ?_
   refine AW.gD Tryd_mix ?_
   refine At.a 4 ?_
   refine At.iSl 31 51 (.tmp 49) (.tmp 50) false 3 (s.zones.map encZon) .i64 (j : Int) 49 (by omega) (by simp only [List.length_map]; omega) ?_
   refine Exists.elim (gE s.zones j (by omega)) fun e2 he2 => ?_
   refine At.lVp 49 52 (.tmp 51) false 3 (s.zones.map encZon) j 0 true 3 (encZon e2) (.agg [.int .i64 e2.name, .int .i64 e2.off, .int .i64 e2.rule]) (mapGet he2) ?_
   refine At.c (spec_l12Zone_spec  (⟨s.rules, zs, []⟩ : Srce) e2 (by dsimp only; first | omega | (simp only [List.length_nil, List.length_take]; omega))) Tryd.call28 true [] [] [] trivial ?_
   refine At.zD 1 ?_
   refine AW.cNB (zone1 s.rules (lastZ zs) e2) (fun h7 => ?_) (fun h7 => ?_)
   · refine AW.q 1 ?_
     refine AW.ret ?_
     refine ⟨_, Sub.refl _ _, ?_⟩
     refine KF.conv (fun w => .bool w) (fun w => []) (show (false) = (srcOk s) from by exact (srcOk_zb (hR2.trans (by rw [hZ] at *; exact zones_bad (by assumption) (by assumption)))).symm) ?_
     exact KF.n []
   refine AW.skip ?_
   refine AW.g ?_
   refine At.a 4 ?_
   refine At.sI 58 ((j : Int) + 1) (by omega) ?_
   refine At.sliceSl (t := 31) (d := 59) (e := 49) (es := 3) (x := .tmp 56) (lx := none) (hx := some (.tmp 58)) (p := false) (xs := (s.zones.map encZon)) (vl := .un) (vh := .int .i64 ((j : Int) + 1)) 0 (((j : Int) + 1).toNat) ((s.zones.take (((j : Int) + 1).toNat)).map encZon) (by kernel_rfl) (by kernel_rfl) (by kernel_rfl) (by kernel_rfl) (.inl ⟨rfl, rfl⟩) (.inr ⟨_, _, rfl, sayNat (by omega)⟩) (by omega) (by simp only [List.length_map]; omega) (by simp [List.map_take, List.map_drop]) ?_
   refine At.z 2 ?_
   refine AW.g ?_
   refine At.a 2 ?_
   refine At.sI 46 ((j : Int) + 1) (by omega) ?_
   refine At.z 1 ?_
   exact ⟨(j + 1, (s.zones.take (((j : Int) + 1).toNat))), ⟨(by simp only [List.length_take]; omega), by rw [show ((j : Int) + 1).toNat = j + 1 from by omega], hR2.trans (by rw [hZ] at *; exact zones_step (by assumption) (by assumption))⟩, (by simp only; omega), Sub.o [(101, 101), (103, 103)] [false, true, false, true, false, true]⟩
 refine AW.exit ?_
 refine AW.seq ?_
 refine AW.q 1 ?_
 refine AW.block ?_
 refine AW.loopW (fun (x : Nat × List Lnk) => match x with | (i, ls) => Go.Sy.mk [.un, .ptr 101 0 0, .un, .ptr 103 0 0, .un, .un, .int .i64 (i : Int)] [(101, .box 34 [.sl false 9 (s.rules.map encRul), .sl false 3 (s.zones.map encZon), .sl false 2 (s.links.map encLnk)]), (103, .box 34 [.sl false 9 (s.rules.map encRul), .sl false 3 (zs.map encZon), .sl false 2 (ls.map encLnk)])]) (fun (x : Nat × List Lnk) => match x with | (i, ls) => (i ≤ s.links.length ∧ ls.length ≤ i) ∧ ls = s.links.take i ∧ linksOk s.zones 0 s.links = linksOk s.zones (lastL (s.links.take i)) (s.links.drop i)) (fun (x : Nat × List Lnk) => match x with | (i, ls) => s.links.length - i) (0, []) ⟨by simp, rfl, by rw [List.drop_zero]; rfl⟩ (Sub.o [(101, 101), (103, 103)] [false, true, false, true, false, false, true]) ?_
 rintro ⟨i, ls⟩ ⟨hi, hL, hR3⟩
 have hY : zs = s.zones := by rw [hZ, List.take_of_length_le (by omega)]
 refine AW.seq ?_
 refine AW.r ?_
 refine At.a 4 ?_
 refine At.sL 64 encLnk s.links ?_
 refine At.z 1 ?_
 refine AW.cD ((i : Int) < (s.links.length : Int)) (fun h8 => ?_) (fun h8 => ?_)
 · refine AW.skip ?_
   refine AW.seq ?_
   refine AW.block ?_
   refine AW.seq ?_
   refine AW.seq ?_
   refine AW.gD Tryd_mix ?_
   refine At.a 4 ?_
   refine At.iSl 32 72 (.tmp 70) (.tmp 71) false 2 (s.links.map encLnk) .i64 (i : Int) 51 (by omega) (by simp only [List.length_map]; omega) ?_
   refine Exists.elim (gE s.links i (by omega)) fun e3 he3 => ?_
   refine At.lVp 51 73 (.tmp 72) false 2 (s.links.map encLnk) i 0 true 2 (encLnk e3) (.agg [.int .i64 e3.name, .int .i64 e3.to]) (mapGet he3) ?_
   refine At.c (spec_l12Link_spec  (⟨s.rules, zs, ls⟩ : Srce) e3 (by dsimp only; first | omega | (simp only [List.length_nil, List.length_take]; omega))) Tryd.call29 true [] [] [] trivial ?_
   refine At.zD 1 ?_
   refine AW.cNB (link1 zs (lastL ls) e3) (fun h9 => ?_) (fun h9 => ?_)
   · refine AW.q 1 ?_
     refine AW.ret ?_
     refine ⟨_, Sub.refl _ _, ?_⟩
     refine KF.conv (fun w => .bool w) (fun w => []) (show (false) = (srcOk s) from by exact (srcOk_lb (hR3.trans (by rw [hY, hL] at *; exact links_bad (by assumption) (by assumption)))).symm) ?_
     exact KF.n []
   refine AW.skip ?_
   refine AW.g ?_
   refine At.a 4 ?_
   refine At.sI 79 ((i : Int) + 1) (by omega) ?_
   refine At.sliceSl (t := 32) (d := 80) (e := 51) (es := 2) (x := .tmp 77) (lx := none) (hx := some (.tmp 79)) (p := false) (xs := (s.links.map encLnk)) (vl := .un) (vh := .int .i64 ((i : Int) + 1)) 0 (((i : Int) + 1).toNat) ((s.links.take (((i : Int) + 1).toNat)).map encLnk) (by kernel_rfl) (by kernel_rfl) (by kernel_rfl) (by kernel_rfl) (.inl ⟨rfl, rfl⟩) (.inr ⟨_, _, rfl, sayNat (by omega)⟩) (by omega) (by simp only [List.length_map]; omega) (by simp [List.map_take, List.map_drop]) ?_
   refine At.z 2 ?_
   refine AW.g ?_
   refine At.a 2 ?_
   refine At.sI 67 ((i : Int) + 1) (by omega) ?_
   refine At.z 1 ?_
   exact ⟨(i + 1, (s.links.take (((i : Int) + 1).toNat))), ⟨(by simp only [List.length_take]; omega), by rw [show ((i : Int) + 1).toNat = i + 1 from by omega], hR3.trans (by rw [hY, hL] at *; exact links_step (by assumption) (by assumption))⟩, (by simp only; omega), Sub.o [(101, 101), (103, 103)] [false, true, false, true, false, false, true]⟩
 refine AW.exit ?_
 refine AW.q 1 ?_
 refine AW.ret ?_
 refine ⟨_, Sub.refl _ _, ?_⟩
 refine KF.conv (fun w => .bool w) (fun w => []) (show (true) = (srcOk s) from by exact (srcOk_all (by assumption) (hR1.trans (rules_end (by omega))) (hR2.trans (zones_end (by omega) _)) (hR3.trans (links_end (by omega) _))).symm) ?_
 exact KF.n []
theorem spec_l12Letter_spec  (n : Int) : FnSpec Tryd.prog 13 [.int .i64 n] [] (.str (strOf (letT n))) [] := by
 refine FnSpec.of 9 Tryd.func13 rfl Tryd.ntmps13 (by simp) (AW.weakK ?_)
 refine AW.q 1 ?_
 refine AW.seq ?_
 refine AW.q 2 ?_
 refine AW.cE n (0 : Int) (fun h1 => ?_) (fun h1 => ?_)
 · refine AW.q 1 ?_
   refine AW.ret ?_
   refine ⟨_, Sub.refl _ _, ?_⟩
   refine KF.conv (fun w => .str w) (fun w => []) (show ((⟨#[45]⟩ : ByteArray)) = (strOf (letT n)) from by unfold letT; first | (rw [if_pos (by assumption)]; rfl) | (rw [if_neg (by assumption)]; done)) ?_
   exact KF.n []
 refine AW.skip ?_
 refine AW.r ?_
 refine At.a 1 ?_
 refine At.conv (s := 3) (t := 5) (d := 6) (x := .tmp 5) (kd := .i64) (kd' := .u8) (a := n) (.int .u8 ((u8Of n).toNat : Int)) (by kernel_rfl) (by kernel_rfl) (by kernel_rfl) (by kernel_rfl) (sayByte _) ?_
 refine At.ll 7 5 1 107 (0, 6) (([(u8Of n)]).map encU8) ?_
 refine At.b2s (s := 63) (t := 9) (e := 5) (d := 8) (x := .tmp 7) (T := .ref 107) ([(u8Of n)]) [] (by kernel_rfl) (by kernel_rfl) (by kernel_rfl) (by kernel_rfl) ⟨by kernel_rfl, .inl ⟨rfl, (allP_encU8 _)⟩⟩ ?_
 refine At.z 1 ?_
 refine AW.ret ?_
 refine ⟨_, Sub.refl _ _, ?_⟩
 refine KF.conv (fun w => .str w) (fun w => []) (show (strOf ([(u8Of n)])) = (strOf (letT n)) from by unfold letT; first | (rw [if_pos (by assumption)]; rfl) | (rw [if_neg (by assumption)]; done)) ?_
 exact KF.n []
theorem spec_l12Num_spec  (x : Int) (hx : 0 - 100000 ≤ x ∧ x ≤ 100000) : FnSpec Tryd.prog 14 [.int .i64 x] [] (.str (strOf (Lib.itoa x))) [] := by
 have hb0 : (⟨#[45]⟩ : ByteArray).size = 1 := rfl
 refine FnSpec.of 26 Tryd.func14 rfl Tryd.ntmps14 (by simp) (AW.weakK ?_)
 refine AW.q 1 ?_
 refine AW.seq ?_
 refine AW.q 2 ?_
 refine AW.cD (x < 0) (fun h1 => ?_) (fun h1 => ?_)
 · refine AW.r ?_
   refine At.a 2 ?_
   refine At.sI 6 (0 - x) (by omega) ?_
   refine At.c (spec_l12Num_spec  (0 - x) (by omega)) Tryd.call14 true [] [] [] trivial ?_
   refine At.cat (t := 9) (u := 9) (d := 8) (x := .const (.string ⟨#[45]⟩)) (y := .tmp 7) (a := (⟨#[45]⟩ : ByteArray)) (b := strOf (Lib.itoa (0 - x))) (by kernel_rfl) (by kernel_rfl) (by kernel_rfl) (by kernel_rfl) (by simp only [cat_size, strOf_size, List.length_cons, List.length_nil]; first | omega | (have := Lib.itoa_length_le (0 - x) (by omega) (by omega); omega) | (have := Lib.itoa_length_le (x / 10) (by omega) (by omega); omega)) ?_
   refine At.z 1 ?_
   refine AW.ret ?_
   refine ⟨_, Sub.refl _ _, ?_⟩
   refine KF.conv (fun w => .str w) (fun w => []) (show ((⟨#[45]⟩ : ByteArray) ++ (strOf (Lib.itoa (0 - x)))) = (strOf (Lib.itoa x)) from by exact num_neg (by omega)) ?_
   exact KF.n []
 refine AW.skip ?_
 refine AW.seq ?_
 refine AW.q 2 ?_
 refine AW.cD (x < 10) (fun h2 => ?_) (fun h2 => ?_)
 · refine AW.r ?_
   refine At.a 2 ?_
   refine At.sI 12 (48 + x) (by omega) ?_
   refine At.conv (s := 3) (t := 5) (d := 13) (x := .tmp 12) (kd := .i64) (kd' := .u8) (a := 48 + x) (.int .u8 ((u8Of (48 + x)).toNat : Int)) (by kernel_rfl) (by kernel_rfl) (by kernel_rfl) (by kernel_rfl) (sayByte _) ?_
   refine At.ll 14 5 1 114 (0, 6) (([(u8Of (48 + x))]).map encU8) ?_
   refine At.b2s (s := 63) (t := 9) (e := 5) (d := 15) (x := .tmp 14) (T := .ref 114) ([(u8Of (48 + x))]) [] (by kernel_rfl) (by kernel_rfl) (by kernel_rfl) (by kernel_rfl) ⟨by kernel_rfl, .inl ⟨rfl, (allP_encU8 _)⟩⟩ ?_
   refine At.z 1 ?_
   refine AW.ret ?_
   refine ⟨_, Sub.refl _ _, ?_⟩
   refine KF.conv (fun w => .str w) (fun w => []) (show (strOf ([(u8Of (48 + x))])) = (strOf (Lib.itoa x)) from by exact num_one (by omega) (by omega)) ?_
   exact KF.n []
 refine AW.skip ?_
 refine AW.seq ?_
 refine AW.gD Tryd_mix ?_
 refine At.a 1 ?_
 refine At.div (t := 3) (u := 3) (d := 17) (op := .quo) (x := .tmp 16) (y := .const (.int .i64 10)) (kd := .i64) (a := x) (b := 10) (by kernel_rfl) (by kernel_rfl) (by kernel_rfl) (by kernel_rfl) (by omega) (.int .i64 (IntKind.i64.wrap (x.tdiv 10))) (.inl ⟨rfl, rfl⟩) ?_
 refine At.say 17 (.int .i64 (IntKind.i64.wrap (x.tdiv 10))) (.int .i64 (x / 10)) (by kernel_rfl) (sayQuo (by omega) (by omega) (by omega)) ?_
 refine At.c (spec_l12Num_spec  (x / 10) (by omega)) Tryd.call14 true [] [] [] trivial ?_
 refine At.a 1 ?_
 refine At.div (t := 3) (u := 3) (d := 20) (op := .rem) (x := .tmp 19) (y := .const (.int .i64 10)) (kd := .i64) (a := x) (b := 10) (by kernel_rfl) (by kernel_rfl) (by kernel_rfl) (by kernel_rfl) (by omega) (.int .i64 (x.tmod 10)) (.inr ⟨rfl, rfl⟩) ?_
 refine At.say 20 (.int .i64 (x.tmod 10)) (.int .i64 (x % 10)) (by kernel_rfl) (sayRem (by omega)) ?_
 refine At.a 1 ?_
 refine At.sI 21 (48 + (x % 10)) (by omega) ?_
 refine At.conv (s := 3) (t := 5) (d := 22) (x := .tmp 21) (kd := .i64) (kd' := .u8) (a := 48 + (x % 10)) (.int .u8 ((u8Of (48 + (x % 10))).toNat : Int)) (by kernel_rfl) (by kernel_rfl) (by kernel_rfl) (by kernel_rfl) (sayByte _) ?_
 refine At.ll 23 5 1 123 (0, 6) (([(u8Of (48 + (x % 10)))]).map encU8) ?_
 refine At.b2s (s := 63) (t := 9) (e := 5) (d := 24) (x := .tmp 23) (T := .ref 123) ([(u8Of (48 + (x % 10)))]) [] (by kernel_rfl) (by kernel_rfl) (by kernel_rfl) (by kernel_rfl) ⟨by kernel_rfl, .inl ⟨rfl, (allP_encU8 _)⟩⟩ ?_
 refine At.cat (t := 9) (u := 9) (d := 25) (x := .tmp 18) (y := .tmp 24) (a := strOf (Lib.itoa (x / 10))) (b := strOf ([(u8Of (48 + (x % 10)))])) (by kernel_rfl) (by kernel_rfl) (by kernel_rfl) (by kernel_rfl) (by simp only [cat_size, strOf_size, List.length_cons, List.length_nil]; first | omega | (have := Lib.itoa_length_le (0 - x) (by omega) (by omega); omega) | (have := Lib.itoa_length_le (x / 10) (by omega) (by omega); omega)) ?_
 refine At.zD 1 ?_
 refine AW.ret ?_
 refine ⟨_, Sub.refl _ _, ?_⟩
 refine KF.conv (fun w => .str w) (fun w => []) (show ((strOf (Lib.itoa (x / 10))) ++ (strOf ([(u8Of (48 + (x % 10)))]))) = (strOf (Lib.itoa x)) from by exact num_big (by omega) (by omega)) ?_
 exact KF.n []
termination_by (2 * x.natAbs + (1 - x).toNat)
decreasing_by all_goals omega
theorem spec_OnText_spec  (o : On) : FnSpec Tryd.prog 15 [.agg [.int .i64 o.kind, .int .i64 o.day, .int .i64 o.week]] [] (.str (strOf (txO o))) [] := by
 have hl1 : (⟨#[108, 97, 115, 116]⟩ : ByteArray).size = 4 := rfl
 have hl2 : (⟨#[62, 61]⟩ : ByteArray).size = 2 := rfl
 refine FnSpec.of 30 Tryd.func15 rfl Tryd.ntmps15 (by simp) (AW.weakK ?_)
 refine AW.q 2 ?_
 refine AW.seq ?_
 refine AW.block ?_
 refine AW.r ?_
 refine At.a 1 ?_
 refine At.c (spec_OnOk_spec  o ) Tryd.call30 true [] [] [] trivial ?_
 refine At.z 2 ?_
 refine AW.cNB (onOk o) (fun h1 => ?_) (fun h1 => ?_)
 · refine AW.q 1 ?_
   refine AW.ret ?_
   refine ⟨_, Sub.refl _ _, ?_⟩
   refine KF.conv (fun w => .str w) (fun w => []) (show ((⟨#[]⟩ : ByteArray)) = (strOf (txO o)) from by exact tx_no (by assumption)) ?_
   exact KF.n []
 have hnn := onOk_nums h1
 refine AW.q 4 ?_
 refine AW.cE o.kind (1 : Int) (fun h2 => ?_) (fun h2 => ?_)
 · refine AW.r ?_
   refine At.a 2 ?_
   refine At.c (spec_l12Num_spec  o.day (by omega)) Tryd.call14 true [] [] [] trivial ?_
   refine At.z 1 ?_
   refine AW.ret ?_
   refine ⟨_, Sub.refl _ _, ?_⟩
   refine KF.conv (fun w => .str w) (fun w => []) (show (strOf (Lib.itoa o.day)) = (strOf (txO o)) from by exact tx_1 (by assumption) (by assumption)) ?_
   exact KF.n []
 refine AW.q 4 ?_
 refine AW.cE o.kind (2 : Int) (fun h3 => ?_) (fun h3 => ?_)
 · refine AW.r ?_
   refine At.a 2 ?_
   refine At.c (spec_l12Num_spec  o.week (by omega)) Tryd.call14 true [] [] [] trivial ?_
   refine At.cat (t := 9) (u := 9) (d := 21) (x := .const (.string ⟨#[108, 97, 115, 116]⟩)) (y := .tmp 20) (a := (⟨#[108, 97, 115, 116]⟩ : ByteArray)) (b := strOf (Lib.itoa o.week)) (by kernel_rfl) (by kernel_rfl) (by kernel_rfl) (by kernel_rfl) (by simp only [cat_size, strOf_size]; have hid := Lib.itoa_length_le o.day (by omega) (by omega); have hiw := Lib.itoa_length_le o.week (by omega) (by omega); omega) ?_
   refine At.z 1 ?_
   refine AW.ret ?_
   refine ⟨_, Sub.refl _ _, ?_⟩
   refine KF.conv (fun w => .str w) (fun w => []) (show ((⟨#[108, 97, 115, 116]⟩ : ByteArray) ++ (strOf (Lib.itoa o.week))) = (strOf (txO o)) from by exact tx_2 (by assumption) (by assumption) (by assumption)) ?_
   exact KF.n []
 refine AW.skip ?_
 refine AW.seq ?_
 refine AW.gD Tryd_mix ?_
 refine At.a 2 ?_
 refine At.c (spec_l12Num_spec  o.week (by omega)) Tryd.call14 true [] [] [] trivial ?_
 refine At.cat (t := 9) (u := 9) (d := 25) (x := .tmp 24) (y := .const (.string ⟨#[62, 61]⟩)) (a := strOf (Lib.itoa o.week)) (b := (⟨#[62, 61]⟩ : ByteArray)) (by kernel_rfl) (by kernel_rfl) (by kernel_rfl) (by kernel_rfl) (by simp only [cat_size, strOf_size]; have hid := Lib.itoa_length_le o.day (by omega) (by omega); have hiw := Lib.itoa_length_le o.week (by omega) (by omega); omega) ?_
 refine At.a 2 ?_
 refine At.c (spec_l12Num_spec  o.day (by omega)) Tryd.call14 true [] [] [] trivial ?_
 refine At.cat (t := 9) (u := 9) (d := 29) (x := .tmp 25) (y := .tmp 28) (a := (strOf (Lib.itoa o.week)) ++ (⟨#[62, 61]⟩ : ByteArray)) (b := strOf (Lib.itoa o.day)) (by kernel_rfl) (by kernel_rfl) (by kernel_rfl) (by kernel_rfl) (by simp only [cat_size, strOf_size]; have hid := Lib.itoa_length_le o.day (by omega) (by omega); have hiw := Lib.itoa_length_le o.week (by omega) (by omega); omega) ?_
 refine At.zD 1 ?_
 refine AW.ret ?_
 refine ⟨_, Sub.refl _ _, ?_⟩
 refine KF.conv (fun w => .str w) (fun w => []) (show (((strOf (Lib.itoa o.week)) ++ (⟨#[62, 61]⟩ : ByteArray)) ++ (strOf (Lib.itoa o.day))) = (strOf (txO o)) from by exact tx_3 (by assumption) (by assumption) (by assumption)) ?_
 exact KF.n []
def K_spec_SourcePrint (rs : List ResultVar) (s : Srce) (w0_ : ByteArray) (w1_ : Bool) : Exit → Sg → Prop := KF Tryd.prog 0 rs (.tup [.str w0_, .bool w1_]) []
theorem spec_SourcePrint_spec  (s : Srce) (hs : (s.rules.length ≤ 1048576 ∧ s.zones.length ≤ 1048576 ∧ s.links.length ≤ 1048576)) : FnSpec Tryd.prog 5 [.agg [.sl false 9 (s.rules.map encRul), .sl false 3 (s.zones.map encZon), .sl false 2 (s.links.map encLnk)]] [] (.tup [.str (strOf (srcP s).1), .bool ((srcP s).2)]) [] := by
 have hb0 : (⟨#[45]⟩ : ByteArray).size = 1 := rfl
 have hb1 : (⟨#[32]⟩ : ByteArray).size = 1 := rfl
 have hb2 : (⟨#[10]⟩ : ByteArray).size = 1 := rfl
 have hb3 : (⟨#[114, 117, 108, 101, 32]⟩ : ByteArray).size = 5 := rfl
 have hb4 : (⟨#[122, 111, 110, 101, 32]⟩ : ByteArray).size = 5 := rfl
 have hb5 : (⟨#[108, 105, 110, 107, 32]⟩ : ByteArray).size = 5 := rfl
 refine FnSpec.of 122 Tryd.func5 rfl Tryd.ntmps5 (by simp) (AW.weakK ?_)
 refine AW.q 3 ?_
 refine AW.seq ?_
 refine AW.r ?_
 refine At.a 1 ?_
 refine At.c (spec_SourceOk_spec  s (by omega)) Tryd.call12 true [] [] [] trivial ?_
 refine At.z 1 ?_
 refine AW.cNB (srcOk s) (fun h1 => ?_) (fun h1 => ?_)
 · refine AW.q 2 ?_
   exact AW.ret (rf (k2 (K_spec_SourcePrint _ s) (show ((⟨#[]⟩ : ByteArray)) = (strOf (srcP s).1) from by rw [srcP_no (by assumption)]; first | done | rfl) (show (false) = ((srcP s).2) from by rw [srcP_no (by assumption)]; first | done | rfl) (KF.n [])))
 obtain ⟨q1, q2, q3, q4⟩ := srcOk_iff.1 h1
 have q5 := zones_few q3
 have q6 := links_few q4
 refine AW.skip ?_
 refine AW.q 1 ?_
 refine AW.seq ?_
 refine AW.q 1 ?_
 refine AW.block ?_
 refine AW.loopW (fun (x : Nat × ByteArray) => match x with | (k, o) => Go.Sy.mk [.un, .ptr 101 0 0, .un, .un, .str o, .int .i64 (k : Int)] [(101, .box 34 [.sl false 9 (s.rules.map encRul), .sl false 3 (s.zones.map encZon), .sl false 2 (s.links.map encLnk)])]) (fun (x : Nat × ByteArray) => match x with | (k, o) => (k ≤ s.rules.length ∧ o.size ≤ 0 + 200 * k) ∧ o = strOf (([] : List UInt8) ++ (s.rules.take k).flatMap ruleT)) (fun (x : Nat × ByteArray) => match x with | (k, o) => s.rules.length - k) (0, ⟨#[]⟩) ⟨⟨by omega, by decide⟩, rfl⟩ (Sub.o [(101, 101)] [false, true, false, false, true, true]) ?_
 rintro ⟨k, o⟩ ⟨hsk, hRk⟩
 refine AW.seq ?_
 refine AW.r ?_
 refine At.a 4 ?_
 refine At.sL 16 encRul s.rules ?_
 refine At.z 1 ?_
 refine AW.cD ((k : Int) < (s.rules.length : Int)) (fun h2 => ?_) (fun h2 => ?_)
 · refine AW.skip ?_
   refine AW.seq ?_
   refine AW.block ?_
   refine AW.r ?_
   refine At.a 3 ?_
   refine At.iSl 30 23 (.tmp 21) (.tmp 22) false 9 (s.rules.map encRul) .i64 (k : Int) 45 (by omega) (by simp only [List.length_map]; omega) ?_
   refine Exists.elim (gE s.rules k (by omega)) fun e1 he1 => ?_
   have hoke1 := rulesOk_mem q2 he1
   have hlne1 := ruleLens hoke1
   have hnue1 := ruleNums hoke1
   have hnne1 := onOk_nums hnue1.2.2.2.1
   refine At.lVp 45 24 (.tmp 23) false 9 (s.rules.map encRul) k 0 true 9 (encRul e1) (.agg [.int .i64 e1.name, .int .i64 e1.from_, .int .i64 e1.to, .int .i64 e1.month, .int .i64 e1.on.kind, .int .i64 e1.on.day, .int .i64 e1.on.week, .int .i64 e1.at_, .int .i64 e1.save]) (mapGet he1) ?_
   refine At.z 2 ?_
   refine AW.gD Tryd_mix ?_
   refine At.a 1 ?_
   refine At.cat (t := 9) (u := 9) (d := 26) (x := .tmp 25) (y := .const (.string ⟨#[114, 117, 108, 101, 32]⟩)) (a := o) (b := (⟨#[114, 117, 108, 101, 32]⟩ : ByteArray)) (by kernel_rfl) (by kernel_rfl) (by kernel_rfl) (by kernel_rfl) (by omega) ?_
   refine At.a 2 ?_
   refine At.c (spec_l12Letter_spec  e1.name ) Tryd.call13 true [] [] [] trivial ?_
   refine At.cat (t := 9) (u := 9) (d := 30) (x := .tmp 26) (y := .tmp 29) (a := o ++ (⟨#[114, 117, 108, 101, 32]⟩ : ByteArray)) (b := strOf (letT e1.name)) (by kernel_rfl) (by kernel_rfl) (by kernel_rfl) (by kernel_rfl) (by simp only [cat_size, strOf_size]; omega) ?_
   refine At.cat (t := 9) (u := 9) (d := 31) (x := .tmp 30) (y := .const (.string ⟨#[32]⟩)) (a := (o ++ (⟨#[114, 117, 108, 101, 32]⟩ : ByteArray)) ++ (strOf (letT e1.name))) (b := (⟨#[32]⟩ : ByteArray)) (by kernel_rfl) (by kernel_rfl) (by kernel_rfl) (by kernel_rfl) (by simp only [cat_size, strOf_size]; omega) ?_
   refine At.a 2 ?_
   refine At.c (spec_l12Num_spec  e1.from_ (by omega)) Tryd.call14 true [] [] [] trivial ?_
   refine At.cat (t := 9) (u := 9) (d := 35) (x := .tmp 31) (y := .tmp 34) (a := ((o ++ (⟨#[114, 117, 108, 101, 32]⟩ : ByteArray)) ++ (strOf (letT e1.name))) ++ (⟨#[32]⟩ : ByteArray)) (b := strOf (Lib.itoa e1.from_)) (by kernel_rfl) (by kernel_rfl) (by kernel_rfl) (by kernel_rfl) (by simp only [cat_size, strOf_size]; omega) ?_
   refine At.cat (t := 9) (u := 9) (d := 36) (x := .tmp 35) (y := .const (.string ⟨#[32]⟩)) (a := (((o ++ (⟨#[114, 117, 108, 101, 32]⟩ : ByteArray)) ++ (strOf (letT e1.name))) ++ (⟨#[32]⟩ : ByteArray)) ++ (strOf (Lib.itoa e1.from_))) (b := (⟨#[32]⟩ : ByteArray)) (by kernel_rfl) (by kernel_rfl) (by kernel_rfl) (by kernel_rfl) (by simp only [cat_size, strOf_size]; omega) ?_
   refine At.a 2 ?_
   refine At.c (spec_l12Num_spec  e1.to (by omega)) Tryd.call14 true [] [] [] trivial ?_
   refine At.cat (t := 9) (u := 9) (d := 40) (x := .tmp 36) (y := .tmp 39) (a := ((((o ++ (⟨#[114, 117, 108, 101, 32]⟩ : ByteArray)) ++ (strOf (letT e1.name))) ++ (⟨#[32]⟩ : ByteArray)) ++ (strOf (Lib.itoa e1.from_))) ++ (⟨#[32]⟩ : ByteArray)) (b := strOf (Lib.itoa e1.to)) (by kernel_rfl) (by kernel_rfl) (by kernel_rfl) (by kernel_rfl) (by simp only [cat_size, strOf_size]; omega) ?_
   refine At.cat (t := 9) (u := 9) (d := 41) (x := .tmp 40) (y := .const (.string ⟨#[32]⟩)) (a := (((((o ++ (⟨#[114, 117, 108, 101, 32]⟩ : ByteArray)) ++ (strOf (letT e1.name))) ++ (⟨#[32]⟩ : ByteArray)) ++ (strOf (Lib.itoa e1.from_))) ++ (⟨#[32]⟩ : ByteArray)) ++ (strOf (Lib.itoa e1.to))) (b := (⟨#[32]⟩ : ByteArray)) (by kernel_rfl) (by kernel_rfl) (by kernel_rfl) (by kernel_rfl) (by simp only [cat_size, strOf_size]; omega) ?_
   refine At.a 2 ?_
   refine At.c (spec_l12Num_spec  e1.month (by omega)) Tryd.call14 true [] [] [] trivial ?_
   refine At.cat (t := 9) (u := 9) (d := 45) (x := .tmp 41) (y := .tmp 44) (a := ((((((o ++ (⟨#[114, 117, 108, 101, 32]⟩ : ByteArray)) ++ (strOf (letT e1.name))) ++ (⟨#[32]⟩ : ByteArray)) ++ (strOf (Lib.itoa e1.from_))) ++ (⟨#[32]⟩ : ByteArray)) ++ (strOf (Lib.itoa e1.to))) ++ (⟨#[32]⟩ : ByteArray)) (b := strOf (Lib.itoa e1.month)) (by kernel_rfl) (by kernel_rfl) (by kernel_rfl) (by kernel_rfl) (by simp only [cat_size, strOf_size]; omega) ?_
   refine At.cat (t := 9) (u := 9) (d := 46) (x := .tmp 45) (y := .const (.string ⟨#[32]⟩)) (a := (((((((o ++ (⟨#[114, 117, 108, 101, 32]⟩ : ByteArray)) ++ (strOf (letT e1.name))) ++ (⟨#[32]⟩ : ByteArray)) ++ (strOf (Lib.itoa e1.from_))) ++ (⟨#[32]⟩ : ByteArray)) ++ (strOf (Lib.itoa e1.to))) ++ (⟨#[32]⟩ : ByteArray)) ++ (strOf (Lib.itoa e1.month))) (b := (⟨#[32]⟩ : ByteArray)) (by kernel_rfl) (by kernel_rfl) (by kernel_rfl) (by kernel_rfl) (by simp only [cat_size, strOf_size]; omega) ?_
   refine At.a 2 ?_
   refine At.c (spec_OnText_spec  e1.on ) Tryd.call15 true [] [] [] trivial ?_
   refine At.cat (t := 9) (u := 9) (d := 50) (x := .tmp 46) (y := .tmp 49) (a := ((((((((o ++ (⟨#[114, 117, 108, 101, 32]⟩ : ByteArray)) ++ (strOf (letT e1.name))) ++ (⟨#[32]⟩ : ByteArray)) ++ (strOf (Lib.itoa e1.from_))) ++ (⟨#[32]⟩ : ByteArray)) ++ (strOf (Lib.itoa e1.to))) ++ (⟨#[32]⟩ : ByteArray)) ++ (strOf (Lib.itoa e1.month))) ++ (⟨#[32]⟩ : ByteArray)) (b := strOf (txO e1.on)) (by kernel_rfl) (by kernel_rfl) (by kernel_rfl) (by kernel_rfl) (by simp only [cat_size, strOf_size]; omega) ?_
   refine At.cat (t := 9) (u := 9) (d := 51) (x := .tmp 50) (y := .const (.string ⟨#[32]⟩)) (a := (((((((((o ++ (⟨#[114, 117, 108, 101, 32]⟩ : ByteArray)) ++ (strOf (letT e1.name))) ++ (⟨#[32]⟩ : ByteArray)) ++ (strOf (Lib.itoa e1.from_))) ++ (⟨#[32]⟩ : ByteArray)) ++ (strOf (Lib.itoa e1.to))) ++ (⟨#[32]⟩ : ByteArray)) ++ (strOf (Lib.itoa e1.month))) ++ (⟨#[32]⟩ : ByteArray)) ++ (strOf (txO e1.on))) (b := (⟨#[32]⟩ : ByteArray)) (by kernel_rfl) (by kernel_rfl) (by kernel_rfl) (by kernel_rfl) (by simp only [cat_size, strOf_size]; omega) ?_
   refine At.a 2 ?_
   refine At.c (spec_l12Num_spec  e1.at_ (by omega)) Tryd.call14 true [] [] [] trivial ?_
   refine At.cat (t := 9) (u := 9) (d := 55) (x := .tmp 51) (y := .tmp 54) (a := ((((((((((o ++ (⟨#[114, 117, 108, 101, 32]⟩ : ByteArray)) ++ (strOf (letT e1.name))) ++ (⟨#[32]⟩ : ByteArray)) ++ (strOf (Lib.itoa e1.from_))) ++ (⟨#[32]⟩ : ByteArray)) ++ (strOf (Lib.itoa e1.to))) ++ (⟨#[32]⟩ : ByteArray)) ++ (strOf (Lib.itoa e1.month))) ++ (⟨#[32]⟩ : ByteArray)) ++ (strOf (txO e1.on))) ++ (⟨#[32]⟩ : ByteArray)) (b := strOf (Lib.itoa e1.at_)) (by kernel_rfl) (by kernel_rfl) (by kernel_rfl) (by kernel_rfl) (by simp only [cat_size, strOf_size]; omega) ?_
   refine At.cat (t := 9) (u := 9) (d := 56) (x := .tmp 55) (y := .const (.string ⟨#[32]⟩)) (a := (((((((((((o ++ (⟨#[114, 117, 108, 101, 32]⟩ : ByteArray)) ++ (strOf (letT e1.name))) ++ (⟨#[32]⟩ : ByteArray)) ++ (strOf (Lib.itoa e1.from_))) ++ (⟨#[32]⟩ : ByteArray)) ++ (strOf (Lib.itoa e1.to))) ++ (⟨#[32]⟩ : ByteArray)) ++ (strOf (Lib.itoa e1.month))) ++ (⟨#[32]⟩ : ByteArray)) ++ (strOf (txO e1.on))) ++ (⟨#[32]⟩ : ByteArray)) ++ (strOf (Lib.itoa e1.at_))) (b := (⟨#[32]⟩ : ByteArray)) (by kernel_rfl) (by kernel_rfl) (by kernel_rfl) (by kernel_rfl) (by simp only [cat_size, strOf_size]; omega) ?_
   refine At.a 2 ?_
   refine At.c (spec_l12Num_spec  e1.save (by omega)) Tryd.call14 true [] [] [] trivial ?_
   refine At.cat (t := 9) (u := 9) (d := 60) (x := .tmp 56) (y := .tmp 59) (a := ((((((((((((o ++ (⟨#[114, 117, 108, 101, 32]⟩ : ByteArray)) ++ (strOf (letT e1.name))) ++ (⟨#[32]⟩ : ByteArray)) ++ (strOf (Lib.itoa e1.from_))) ++ (⟨#[32]⟩ : ByteArray)) ++ (strOf (Lib.itoa e1.to))) ++ (⟨#[32]⟩ : ByteArray)) ++ (strOf (Lib.itoa e1.month))) ++ (⟨#[32]⟩ : ByteArray)) ++ (strOf (txO e1.on))) ++ (⟨#[32]⟩ : ByteArray)) ++ (strOf (Lib.itoa e1.at_))) ++ (⟨#[32]⟩ : ByteArray)) (b := strOf (Lib.itoa e1.save)) (by kernel_rfl) (by kernel_rfl) (by kernel_rfl) (by kernel_rfl) (by simp only [cat_size, strOf_size]; omega) ?_
   refine At.cat (t := 9) (u := 9) (d := 61) (x := .tmp 60) (y := .const (.string ⟨#[10]⟩)) (a := (((((((((((((o ++ (⟨#[114, 117, 108, 101, 32]⟩ : ByteArray)) ++ (strOf (letT e1.name))) ++ (⟨#[32]⟩ : ByteArray)) ++ (strOf (Lib.itoa e1.from_))) ++ (⟨#[32]⟩ : ByteArray)) ++ (strOf (Lib.itoa e1.to))) ++ (⟨#[32]⟩ : ByteArray)) ++ (strOf (Lib.itoa e1.month))) ++ (⟨#[32]⟩ : ByteArray)) ++ (strOf (txO e1.on))) ++ (⟨#[32]⟩ : ByteArray)) ++ (strOf (Lib.itoa e1.at_))) ++ (⟨#[32]⟩ : ByteArray)) ++ (strOf (Lib.itoa e1.save))) (b := (⟨#[10]⟩ : ByteArray)) (by kernel_rfl) (by kernel_rfl) (by kernel_rfl) (by kernel_rfl) (by simp only [cat_size, strOf_size]; omega) ?_
   refine At.zD 1 ?_
   refine AW.g ?_
   refine At.a 2 ?_
   refine At.sI 19 ((k : Int) + 1) (by omega) ?_
   refine At.z 1 ?_
   exact ⟨(k + 1, (((((((((((((((o ++ (⟨#[114, 117, 108, 101, 32]⟩ : ByteArray)) ++ (strOf (letT e1.name))) ++ (⟨#[32]⟩ : ByteArray)) ++ (strOf (Lib.itoa e1.from_))) ++ (⟨#[32]⟩ : ByteArray)) ++ (strOf (Lib.itoa e1.to))) ++ (⟨#[32]⟩ : ByteArray)) ++ (strOf (Lib.itoa e1.month))) ++ (⟨#[32]⟩ : ByteArray)) ++ (strOf (txO e1.on))) ++ (⟨#[32]⟩ : ByteArray)) ++ (strOf (Lib.itoa e1.at_))) ++ (⟨#[32]⟩ : ByteArray)) ++ (strOf (Lib.itoa e1.save))) ++ (⟨#[10]⟩ : ByteArray))), ⟨⟨by omega, by simp only [cat_size, strOf_size]; omega⟩, rule_stepS (by assumption) hRk⟩, (by simp only; omega), Sub.o [(101, 101)] [false, true, false, false, true, true]⟩
 refine AW.exit ?_
 refine AW.seq ?_
 refine AW.q 1 ?_
 refine AW.block ?_
 refine AW.loopW (fun (x : Nat × ByteArray) => match x with | (j, o2) => Go.Sy.mk [.un, .ptr 101 0 0, .un, .un, .str o2, .un, .un, .int .i64 (j : Int)] [(101, .box 34 [.sl false 9 (s.rules.map encRul), .sl false 3 (s.zones.map encZon), .sl false 2 (s.links.map encLnk)])]) (fun (x : Nat × ByteArray) => match x with | (j, o2) => (j ≤ s.zones.length ∧ o2.size ≤ 4000 + 60 * j) ∧ o2 = strOf ((([] : List UInt8) ++ s.rules.flatMap ruleT) ++ (s.zones.take j).flatMap zoneT)) (fun (x : Nat × ByteArray) => match x with | (j, o2) => s.zones.length - j) (0, o) ⟨⟨by omega, by omega⟩, base_next hRk (by omega)⟩ (Sub.o [(101, 101)] [false, true, false, false, true, false, false, true]) ?_
 rintro ⟨j, o2⟩ ⟨hsj, hRj⟩
 refine AW.seq ?_
 refine AW.r ?_
 refine At.a 4 ?_
 refine At.sL 65 encZon s.zones ?_
 refine At.z 1 ?_
 refine AW.cD ((j : Int) < (s.zones.length : Int)) (fun h3 => ?_) (fun h3 => ?_)
 · refine AW.skip ?_
   refine AW.seq ?_
   refine AW.block ?_
   refine AW.r ?_
   refine At.a 3 ?_
   refine At.iSl 31 72 (.tmp 70) (.tmp 71) false 3 (s.zones.map encZon) .i64 (j : Int) 49 (by omega) (by simp only [List.length_map]; omega) ?_
   refine Exists.elim (gE s.zones j (by omega)) fun e2 he2 => ?_
   have hlne2 := zoneLens q3 he2
   refine At.lVp 49 73 (.tmp 72) false 3 (s.zones.map encZon) j 0 true 3 (encZon e2) (.agg [.int .i64 e2.name, .int .i64 e2.off, .int .i64 e2.rule]) (mapGet he2) ?_
   refine At.z 2 ?_
   refine AW.gD Tryd_mix ?_
   refine At.a 1 ?_
   refine At.cat (t := 9) (u := 9) (d := 75) (x := .tmp 74) (y := .const (.string ⟨#[122, 111, 110, 101, 32]⟩)) (a := o2) (b := (⟨#[122, 111, 110, 101, 32]⟩ : ByteArray)) (by kernel_rfl) (by kernel_rfl) (by kernel_rfl) (by kernel_rfl) (by omega) ?_
   refine At.a 2 ?_
   refine At.c (spec_l12Letter_spec  e2.name ) Tryd.call13 true [] [] [] trivial ?_
   refine At.cat (t := 9) (u := 9) (d := 79) (x := .tmp 75) (y := .tmp 78) (a := o2 ++ (⟨#[122, 111, 110, 101, 32]⟩ : ByteArray)) (b := strOf (letT e2.name)) (by kernel_rfl) (by kernel_rfl) (by kernel_rfl) (by kernel_rfl) (by simp only [cat_size, strOf_size]; omega) ?_
   refine At.cat (t := 9) (u := 9) (d := 80) (x := .tmp 79) (y := .const (.string ⟨#[32]⟩)) (a := (o2 ++ (⟨#[122, 111, 110, 101, 32]⟩ : ByteArray)) ++ (strOf (letT e2.name))) (b := (⟨#[32]⟩ : ByteArray)) (by kernel_rfl) (by kernel_rfl) (by kernel_rfl) (by kernel_rfl) (by simp only [cat_size, strOf_size]; omega) ?_
   refine At.a 2 ?_
   refine At.c (spec_l12Num_spec  e2.off (by omega)) Tryd.call14 true [] [] [] trivial ?_
   refine At.cat (t := 9) (u := 9) (d := 84) (x := .tmp 80) (y := .tmp 83) (a := ((o2 ++ (⟨#[122, 111, 110, 101, 32]⟩ : ByteArray)) ++ (strOf (letT e2.name))) ++ (⟨#[32]⟩ : ByteArray)) (b := strOf (Lib.itoa e2.off)) (by kernel_rfl) (by kernel_rfl) (by kernel_rfl) (by kernel_rfl) (by simp only [cat_size, strOf_size]; omega) ?_
   refine At.cat (t := 9) (u := 9) (d := 85) (x := .tmp 84) (y := .const (.string ⟨#[32]⟩)) (a := (((o2 ++ (⟨#[122, 111, 110, 101, 32]⟩ : ByteArray)) ++ (strOf (letT e2.name))) ++ (⟨#[32]⟩ : ByteArray)) ++ (strOf (Lib.itoa e2.off))) (b := (⟨#[32]⟩ : ByteArray)) (by kernel_rfl) (by kernel_rfl) (by kernel_rfl) (by kernel_rfl) (by simp only [cat_size, strOf_size]; omega) ?_
   refine At.a 2 ?_
   refine At.c (spec_l12Letter_spec  e2.rule ) Tryd.call13 true [] [] [] trivial ?_
   refine At.cat (t := 9) (u := 9) (d := 89) (x := .tmp 85) (y := .tmp 88) (a := ((((o2 ++ (⟨#[122, 111, 110, 101, 32]⟩ : ByteArray)) ++ (strOf (letT e2.name))) ++ (⟨#[32]⟩ : ByteArray)) ++ (strOf (Lib.itoa e2.off))) ++ (⟨#[32]⟩ : ByteArray)) (b := strOf (letT e2.rule)) (by kernel_rfl) (by kernel_rfl) (by kernel_rfl) (by kernel_rfl) (by simp only [cat_size, strOf_size]; omega) ?_
   refine At.cat (t := 9) (u := 9) (d := 90) (x := .tmp 89) (y := .const (.string ⟨#[10]⟩)) (a := (((((o2 ++ (⟨#[122, 111, 110, 101, 32]⟩ : ByteArray)) ++ (strOf (letT e2.name))) ++ (⟨#[32]⟩ : ByteArray)) ++ (strOf (Lib.itoa e2.off))) ++ (⟨#[32]⟩ : ByteArray)) ++ (strOf (letT e2.rule))) (b := (⟨#[10]⟩ : ByteArray)) (by kernel_rfl) (by kernel_rfl) (by kernel_rfl) (by kernel_rfl) (by simp only [cat_size, strOf_size]; omega) ?_
   refine At.zD 1 ?_
   refine AW.g ?_
   refine At.a 2 ?_
   refine At.sI 68 ((j : Int) + 1) (by omega) ?_
   refine At.z 1 ?_
   exact ⟨(j + 1, (((((((o2 ++ (⟨#[122, 111, 110, 101, 32]⟩ : ByteArray)) ++ (strOf (letT e2.name))) ++ (⟨#[32]⟩ : ByteArray)) ++ (strOf (Lib.itoa e2.off))) ++ (⟨#[32]⟩ : ByteArray)) ++ (strOf (letT e2.rule))) ++ (⟨#[10]⟩ : ByteArray))), ⟨⟨by omega, by simp only [cat_size, strOf_size]; omega⟩, zone_stepS (by assumption) hRj⟩, (by simp only; omega), Sub.o [(101, 101)] [false, true, false, false, true, false, false, true]⟩
 refine AW.exit ?_
 refine AW.seq ?_
 refine AW.q 1 ?_
 refine AW.block ?_
 refine AW.loopW (fun (x : Nat × ByteArray) => match x with | (i, o3) => Go.Sy.mk [.un, .ptr 101 0 0, .un, .un, .str o3, .un, .un, .un, .un, .int .i64 (i : Int)] [(101, .box 34 [.sl false 9 (s.rules.map encRul), .sl false 3 (s.zones.map encZon), .sl false 2 (s.links.map encLnk)])]) (fun (x : Nat × ByteArray) => match x with | (i, o3) => (i ≤ s.links.length ∧ o3.size ≤ 5600 + 40 * i) ∧ o3 = strOf (((([] : List UInt8) ++ s.rules.flatMap ruleT) ++ s.zones.flatMap zoneT) ++ (s.links.take i).flatMap linkT)) (fun (x : Nat × ByteArray) => match x with | (i, o3) => s.links.length - i) (0, o2) ⟨⟨by omega, by omega⟩, base_next hRj (by omega)⟩ (Sub.o [(101, 101)] [false, true, false, false, true, false, false, false, false, true]) ?_
 rintro ⟨i, o3⟩ ⟨hsi, hRi⟩
 refine AW.seq ?_
 refine AW.r ?_
 refine At.a 4 ?_
 refine At.sL 94 encLnk s.links ?_
 refine At.z 1 ?_
 refine AW.cD ((i : Int) < (s.links.length : Int)) (fun h4 => ?_) (fun h4 => ?_)
 · refine AW.skip ?_
   refine AW.seq ?_
   refine AW.block ?_
   refine AW.gD Tryd_mix ?_
   refine At.a 1 ?_
   refine At.cat (t := 9) (u := 9) (d := 99) (x := .tmp 98) (y := .const (.string ⟨#[108, 105, 110, 107, 32]⟩)) (a := o3) (b := (⟨#[108, 105, 110, 107, 32]⟩ : ByteArray)) (by kernel_rfl) (by kernel_rfl) (by kernel_rfl) (by kernel_rfl) (by omega) ?_
   refine At.a 3 ?_
   refine At.iSl 32 103 (.tmp 101) (.tmp 102) false 2 (s.links.map encLnk) .i64 (i : Int) 51 (by omega) (by simp only [List.length_map]; omega) ?_
   refine At.a 1 ?_
   refine Exists.elim (gE s.links i (by omega)) fun e3 he3 => ?_
   have hlne3 := letT_len e3.name
   have hloe3 := letT_len e3.to
   refine At.lVp 3 105 (.tmp 104) false 2 (s.links.map encLnk) i 0 false 1 (encLnk e3) (.int .i64 e3.name) (mapGet he3) ?_
   refine At.c (spec_l12Letter_spec  e3.name ) Tryd.call13 true [] [] [] trivial ?_
   refine At.cat (t := 9) (u := 9) (d := 107) (x := .tmp 99) (y := .tmp 106) (a := o3 ++ (⟨#[108, 105, 110, 107, 32]⟩ : ByteArray)) (b := strOf (letT e3.name)) (by kernel_rfl) (by kernel_rfl) (by kernel_rfl) (by kernel_rfl) (by simp only [cat_size, strOf_size]; omega) ?_
   refine At.cat (t := 9) (u := 9) (d := 108) (x := .tmp 107) (y := .const (.string ⟨#[32]⟩)) (a := (o3 ++ (⟨#[108, 105, 110, 107, 32]⟩ : ByteArray)) ++ (strOf (letT e3.name))) (b := (⟨#[32]⟩ : ByteArray)) (by kernel_rfl) (by kernel_rfl) (by kernel_rfl) (by kernel_rfl) (by simp only [cat_size, strOf_size]; omega) ?_
   refine At.a 3 ?_
   refine At.iSl 32 112 (.tmp 110) (.tmp 111) false 2 (s.links.map encLnk) .i64 (i : Int) 51 (by omega) (by simp only [List.length_map]; omega) ?_
   refine At.a 1 ?_
   refine At.lVp 3 114 (.tmp 113) false 2 (s.links.map encLnk) i 1 false 1 (encLnk e3) (.int .i64 e3.to) (mapGet he3) ?_
   refine At.c (spec_l12Letter_spec  e3.to ) Tryd.call13 true [] [] [] trivial ?_
   refine At.cat (t := 9) (u := 9) (d := 116) (x := .tmp 108) (y := .tmp 115) (a := ((o3 ++ (⟨#[108, 105, 110, 107, 32]⟩ : ByteArray)) ++ (strOf (letT e3.name))) ++ (⟨#[32]⟩ : ByteArray)) (b := strOf (letT e3.to)) (by kernel_rfl) (by kernel_rfl) (by kernel_rfl) (by kernel_rfl) (by simp only [cat_size, strOf_size]; omega) ?_
   refine At.cat (t := 9) (u := 9) (d := 117) (x := .tmp 116) (y := .const (.string ⟨#[10]⟩)) (a := (((o3 ++ (⟨#[108, 105, 110, 107, 32]⟩ : ByteArray)) ++ (strOf (letT e3.name))) ++ (⟨#[32]⟩ : ByteArray)) ++ (strOf (letT e3.to))) (b := (⟨#[10]⟩ : ByteArray)) (by kernel_rfl) (by kernel_rfl) (by kernel_rfl) (by kernel_rfl) (by simp only [cat_size, strOf_size]; omega) ?_
   refine At.zD 1 ?_
   refine AW.g ?_
   refine At.a 2 ?_
   refine At.sI 97 ((i : Int) + 1) (by omega) ?_
   refine At.z 1 ?_
   exact ⟨(i + 1, (((((o3 ++ (⟨#[108, 105, 110, 107, 32]⟩ : ByteArray)) ++ (strOf (letT e3.name))) ++ (⟨#[32]⟩ : ByteArray)) ++ (strOf (letT e3.to))) ++ (⟨#[10]⟩ : ByteArray))), ⟨⟨by omega, by simp only [cat_size, strOf_size]; omega⟩, link_stepS (by assumption) hRi⟩, (by simp only; omega), Sub.o [(101, 101)] [false, true, false, false, true, false, false, false, false, true]⟩
 refine AW.exit ?_
 refine AW.seq ?_
 refine AW.q 3 ?_
 refine AW.cD ((o3.size : Int) > 1000) (fun h5 => ?_) (fun h5 => ?_)
 · refine AW.q 2 ?_
   exact AW.ret (rf (k2 (K_spec_SourcePrint _ s) (show ((⟨#[]⟩ : ByteArray)) = (strOf (srcP s).1) from by rw [srcP_big (by assumption) (base_end hRi (by omega)) (by assumption)]; first | done | rfl) (show (false) = ((srcP s).2) from by rw [srcP_big (by assumption) (base_end hRi (by omega)) (by assumption)]; first | done | rfl) (KF.n [])))
 refine AW.skip ?_
 refine AW.q 3 ?_
 exact AW.ret (rf (k2 (K_spec_SourcePrint _ s) (show (o3) = (strOf (srcP s).1) from by rw [srcP_ok (by assumption) (base_end hRi (by omega)) (by assumption)]; first | done | rfl | exact base_end hRi (by omega)) (show (true) = ((srcP s).2) from by rw [srcP_ok (by assumption) (base_end hRi (by omega)) (by assumption)]; first | done | rfl | exact base_end hRi (by omega)) (KF.n [])))
theorem impl_within_spec  (n : Int) (low : Int) (high : Int) : FnSpec Tryd.prog 56 [.int .i64 n, .int .i64 low, .int .i64 high] [] (.bool (inR n low high)) [] := by
 refine FnSpec.of 15 Tryd.func56 rfl Tryd.ntmps56 (by simp) (AW.weakK ?_)
 refine AW.q 1 ?_
 refine AW.r ?_
 refine At.a 4 ?_
 by_cases h1 : n ≥ low
 · refine At.sB 10 _ _ (sayT h1) ?_
   refine At.z 5 ?_
   refine AW.ret ?_
   refine ⟨_, Sub.refl _ _, ?_⟩
   refine KF.conv (fun w => .bool w) (fun w => []) (show (decide (n ≤ high)) = (inR n low high) from by simp [inR, *]) ?_
   exact KF.n []
 refine At.sB 10 _ _ (sayF h1) ?_
 refine At.z 5 ?_
 refine AW.ret ?_
 refine ⟨_, Sub.refl _ _, ?_⟩
 refine KF.conv (fun w => .bool w) (fun w => []) (show (false) = (inR n low high) from by simp [inR, *]) ?_
 exact KF.n []
theorem impl_isYear_spec  (n : Int) : FnSpec Tryd.prog 54 [.int .i64 n] [] (.bool (inR n 1900 2200)) [] := by
 refine FnSpec.of 5 Tryd.func54 rfl Tryd.ntmps54 (by simp) (AW.weakK ?_)
 refine AW.q 1 ?_
 refine AW.r ?_
 refine At.a 1 ?_
 refine At.c (impl_within_spec  n 1900 2200 ) Tryd.call56 true [] [] [] trivial ?_
 refine At.z 1 ?_
 exact AW.ret (rf (KF.n []))
theorem impl_isSmall_spec  (n : Int) : FnSpec Tryd.prog 55 [.int .i64 n] [] (.bool (inR n 97 122)) [] := by
 refine FnSpec.of 5 Tryd.func55 rfl Tryd.ntmps55 (by simp) (AW.weakK ?_)
 refine AW.q 1 ?_
 refine AW.r ?_
 refine At.a 1 ?_
 refine At.c (impl_within_spec  n 97 122 ) Tryd.call56 true [] [] [] trivial ?_
 refine At.z 1 ?_
 exact AW.ret (rf (KF.n []))
def K_impl_OnOk (rs : List ResultVar) (o : On) (w0_ : Bool) : Exit → Sg → Prop := KF Tryd.prog 0 rs (.bool w0_) []
theorem impl_OnOk_spec  (o : On) : FnSpec Tryd.prog 40 [.agg [.int .i64 o.kind, .int .i64 o.day, .int .i64 o.week]] [] (.bool (onOk o)) [] := by
 refine FnSpec.of 38 Tryd.func40 rfl Tryd.ntmps40 (by simp) (AW.weakK ?_)
 refine AW.q 2 ?_
 refine AW.seq ?_
 refine AW.q 2 ?_
 refine AW.block ?_
 refine AW.q 2 ?_
 refine AW.cE o.kind (1 : Int) (fun h1 => ?_) (fun h1 => ?_)
 · refine AW.r ?_
   refine At.a 2 ?_
   refine At.c (impl_within_spec  o.day 1 31 ) Tryd.call56 true [] [] [] trivial ?_
   refine At.a 1 ?_
   by_cases h2 : (inR o.day 1 31) = true
   · refine At.sB 10 (inR o.day 1 31) true (sayB h2) ?_
     have h2i := inR_iff.1 h2
     refine At.z 5 ?_
     exact AW.ret (rf (k1 (K_impl_OnOk _ o) (show (o.week == 0) = (onOk o) from by simp [onOk, *]; done) (KF.n [])))
   refine At.sB 10 (inR o.day 1 31) false (sayB (Bool.eq_false_iff.2 h2)) ?_
   replace h2 := Bool.eq_false_iff.2 h2
   refine At.z 5 ?_
   exact AW.ret (rf (k1 (K_impl_OnOk _ o) (show (false) = (onOk o) from by simp [onOk, *]; done) (KF.n [])))
 refine AW.q 2 ?_
 refine AW.cE o.kind (2 : Int) (fun h3 => ?_) (fun h3 => ?_)
 · refine AW.r ?_
   refine At.a 4 ?_
   by_cases h4 : o.day = 0
   · refine At.sB 20 _ _ (sayET h4) ?_
     refine At.a 2 ?_
     refine At.c (impl_within_spec  o.week 0 6 ) Tryd.call56 true [] [] [] trivial ?_
     refine At.z 2 ?_
     exact AW.ret (rf (k1 (K_impl_OnOk _ o) (show (inR o.week 0 6) = (onOk o) from by simp [onOk, *]; done) (KF.n [])))
   refine At.sB 20 _ _ (sayEF h4) ?_
   refine At.z 5 ?_
   exact AW.ret (rf (k1 (K_impl_OnOk _ o) (show (false) = (onOk o) from by simp [onOk, *]; done) (KF.n [])))
 refine AW.skip ?_
 refine AW.r ?_
 refine At.a 4 ?_
 by_cases h5 : o.kind = 3
 · refine At.sB 28 _ _ (sayET h5) ?_
   refine At.a 2 ?_
   refine At.c (impl_within_spec  o.day 1 31 ) Tryd.call56 true [] [] [] trivial ?_
   refine At.a 2 ?_
   by_cases h6 : (inR o.day 1 31) = true
   · refine At.sB 33 (inR o.day 1 31) true (sayB h6) ?_
     have h6i := inR_iff.1 h6
     refine At.a 2 ?_
     refine At.c (impl_within_spec  o.week 0 6 ) Tryd.call56 true [] [] [] trivial ?_
     refine At.z 2 ?_
     exact AW.ret (rf (k1 (K_impl_OnOk _ o) (show (inR o.week 0 6) = (onOk o) from by simp [onOk, *]; done) (KF.n [])))
   refine At.sB 33 (inR o.day 1 31) false (sayB (Bool.eq_false_iff.2 h6)) ?_
   replace h6 := Bool.eq_false_iff.2 h6
   refine At.z 5 ?_
   exact AW.ret (rf (k1 (K_impl_OnOk _ o) (show (false) = (onOk o) from by simp [onOk, *]; done) (KF.n [])))
 refine At.sB 28 _ _ (sayEF h5) ?_
 refine At.z 10 ?_
 exact AW.ret (rf (k1 (K_impl_OnOk _ o) (show (false) = (onOk o) from by simp [onOk, *]; done) (KF.n [])))
def K_impl_ruleOk (rs : List ResultVar) (r : Rul) (w0_ : Bool) : Exit → Sg → Prop := KF Tryd.prog 0 rs (.bool w0_) []
theorem impl_ruleOk_spec  (r : Rul) : FnSpec Tryd.prog 34 [.agg [.int .i64 r.name, .int .i64 r.from_, .int .i64 r.to, .int .i64 r.month, .int .i64 r.on.kind, .int .i64 r.on.day, .int .i64 r.on.week, .int .i64 r.at_, .int .i64 r.save]] [] (.bool (ruleOk r)) [] := by
 refine FnSpec.of 45 Tryd.func34 rfl Tryd.ntmps34 (by simp) (AW.weakK ?_)
 refine AW.q 2 ?_
 refine AW.r ?_
 refine At.a 2 ?_
 refine At.c (impl_isYear_spec  r.from_ ) Tryd.call54 true [] [] [] trivial ?_
 refine At.a 1 ?_
 by_cases h1 : (inR r.from_ 1900 2200) = true
 · refine At.sB 7 (inR r.from_ 1900 2200) true (sayB h1) ?_
   have h1i := inR_iff.1 h1
   refine At.a 2 ?_
   refine At.c (impl_isYear_spec  r.to ) Tryd.call54 true [] [] [] trivial ?_
   refine At.a 2 ?_
   by_cases h2 : (inR r.to 1900 2200) = true
   · refine At.sB 12 (inR r.to 1900 2200) true (sayB h2) ?_
     have h2i := inR_iff.1 h2
     refine At.z 7 ?_
     refine AW.r ?_
     refine At.a 2 ?_
     refine At.c (impl_isSmall_spec  r.name ) Tryd.call55 true [] [] [] trivial ?_
     refine At.a 1 ?_
     by_cases h3 : (inR r.name 97 122) = true
     · refine At.sB 22 (inR r.name 97 122) true (sayB h3) ?_
       have h3i := inR_iff.1 h3
       refine At.a 3 ?_
       by_cases h4 : r.from_ ≤ r.to
       · refine At.sB 25 _ _ (sayT h4) ?_
         refine At.a 2 ?_
         refine At.c (impl_within_spec  r.month 1 12 ) Tryd.call56 true [] [] [] trivial ?_
         refine At.a 2 ?_
         by_cases h5 : (inR r.month 1 12) = true
         · refine At.sB 30 (inR r.month 1 12) true (sayB h5) ?_
           have h5i := inR_iff.1 h5
           refine At.a 2 ?_
           refine At.c (impl_OnOk_spec  r.on ) Tryd.call40 true [] [] [] trivial ?_
           refine At.a 2 ?_
           by_cases h6 : (onOk r.on) = true
           · refine At.sB 35 (onOk r.on) true (sayB h6) ?_
             refine At.a 2 ?_
             refine At.c (impl_within_spec  r.at_ 0 1439 ) Tryd.call56 true [] [] [] trivial ?_
             refine At.a 2 ?_
             by_cases h7 : (inR r.at_ 0 1439) = true
             · refine At.sB 40 (inR r.at_ 0 1439) true (sayB h7) ?_
               have h7i := inR_iff.1 h7
               refine At.a 2 ?_
               refine At.c (impl_within_spec  r.save 0 180 ) Tryd.call56 true [] [] [] trivial ?_
               refine At.z 2 ?_
               exact AW.ret (rf (k1 (K_impl_ruleOk _ r) (show (inR r.save 0 180) = (ruleOk r) from by simp [ruleOk, *]; done) (KF.n [])))
             refine At.sB 40 (inR r.at_ 0 1439) false (sayB (Bool.eq_false_iff.2 h7)) ?_
             replace h7 := Bool.eq_false_iff.2 h7
             refine At.z 5 ?_
             exact AW.ret (rf (k1 (K_impl_ruleOk _ r) (show (false) = (ruleOk r) from by simp [ruleOk, *]; done) (KF.n [])))
           refine At.sB 35 (onOk r.on) false (sayB (Bool.eq_false_iff.2 h6)) ?_
           replace h6 := Bool.eq_false_iff.2 h6
           refine At.z 10 ?_
           exact AW.ret (rf (k1 (K_impl_ruleOk _ r) (show (false) = (ruleOk r) from by simp [ruleOk, *]; done) (KF.n [])))
         refine At.sB 30 (inR r.month 1 12) false (sayB (Bool.eq_false_iff.2 h5)) ?_
         replace h5 := Bool.eq_false_iff.2 h5
         refine At.z 15 ?_
         exact AW.ret (rf (k1 (K_impl_ruleOk _ r) (show (false) = (ruleOk r) from by simp [ruleOk, *]; done) (KF.n [])))
       refine At.sB 25 _ _ (sayF h4) ?_
       refine At.z 20 ?_
       exact AW.ret (rf (k1 (K_impl_ruleOk _ r) (show (false) = (ruleOk r) from by simp [ruleOk, *]; done) (KF.n [])))
     refine At.sB 22 (inR r.name 97 122) false (sayB (Bool.eq_false_iff.2 h3)) ?_
     replace h3 := Bool.eq_false_iff.2 h3
     refine At.z 23 ?_
     exact AW.ret (rf (k1 (K_impl_ruleOk _ r) (show (false) = (ruleOk r) from by simp [ruleOk, *]; done) (KF.n [])))
   refine At.sB 12 (inR r.to 1900 2200) false (sayB (Bool.eq_false_iff.2 h2)) ?_
   replace h2 := Bool.eq_false_iff.2 h2
   refine At.z 7 ?_
   refine AW.r ?_
   refine At.a 2 ?_
   refine At.c (impl_isSmall_spec  r.name ) Tryd.call55 true [] [] [] trivial ?_
   refine At.a 1 ?_
   by_cases h8 : (inR r.name 97 122) = true
   · refine At.sB 22 (inR r.name 97 122) true (sayB h8) ?_
     have h8i := inR_iff.1 h8
     refine At.z 23 ?_
     exact AW.ret (rf (k1 (K_impl_ruleOk _ r) (show (false) = (ruleOk r) from by simp [ruleOk, *]; done) (KF.n [])))
   refine At.sB 22 (inR r.name 97 122) false (sayB (Bool.eq_false_iff.2 h8)) ?_
   replace h8 := Bool.eq_false_iff.2 h8
   refine At.z 23 ?_
   exact AW.ret (rf (k1 (K_impl_ruleOk _ r) (show (false) = (ruleOk r) from by simp [ruleOk, *]; done) (KF.n [])))
 refine At.sB 7 (inR r.from_ 1900 2200) false (sayB (Bool.eq_false_iff.2 h1)) ?_
 replace h1 := Bool.eq_false_iff.2 h1
 refine At.z 12 ?_
 refine AW.r ?_
 refine At.a 2 ?_
 refine At.c (impl_isSmall_spec  r.name ) Tryd.call55 true [] [] [] trivial ?_
 refine At.a 1 ?_
 by_cases h9 : (inR r.name 97 122) = true
 · refine At.sB 22 (inR r.name 97 122) true (sayB h9) ?_
   have h9i := inR_iff.1 h9
   refine At.z 23 ?_
   exact AW.ret (rf (k1 (K_impl_ruleOk _ r) (show (false) = (ruleOk r) from by simp [ruleOk, *]; done) (KF.n [])))
 refine At.sB 22 (inR r.name 97 122) false (sayB (Bool.eq_false_iff.2 h9)) ?_
 replace h9 := Bool.eq_false_iff.2 h9
 refine At.z 23 ?_
 exact AW.ret (rf (k1 (K_impl_ruleOk _ r) (show (false) = (ruleOk r) from by simp [ruleOk, *]; done) (KF.n [])))
theorem impl_isGreat_spec  (n : Int) : FnSpec Tryd.prog 37 [.int .i64 n] [] (.bool (inR n 65 90)) [] := by
 refine FnSpec.of 5 Tryd.func37 rfl Tryd.ntmps37 (by simp) (AW.weakK ?_)
 refine AW.q 1 ?_
 refine AW.r ?_
 refine At.a 1 ?_
 refine At.c (impl_within_spec  n 65 90 ) Tryd.call56 true [] [] [] trivial ?_
 refine At.z 1 ?_
 exact AW.ret (rf (KF.n []))
theorem impl_zoneOk_spec  (z : Zon) : FnSpec Tryd.prog 35 [.agg [.int .i64 z.name, .int .i64 z.off, .int .i64 z.rule]] [] (.bool (zoneOk z)) [] := by
 refine FnSpec.of 21 Tryd.func35 rfl Tryd.ntmps35 (by simp) (AW.weakK ?_)
 refine AW.q 2 ?_
 refine AW.r ?_
 refine At.a 2 ?_
 refine At.c (impl_isGreat_spec  z.name ) Tryd.call37 true [] [] [] trivial ?_
 refine At.a 1 ?_
 by_cases h1 : (inR z.name 65 90) = true
 · refine At.sB 6 (inR z.name 65 90) true (sayB h1) ?_
   have h1i := inR_iff.1 h1
   refine At.a 2 ?_
   refine At.c (impl_within_spec  z.off (-900) 900 ) Tryd.call56 true [] [] [] trivial ?_
   refine At.a 2 ?_
   by_cases h2 : (inR z.off (-900) 900) = true
   · refine At.sB 11 (inR z.off (-900) 900) true (sayB h2) ?_
     have h2i := inR_iff.1 h2
     refine At.a 4 ?_
     by_cases h3 : z.rule = 0
     · refine At.sB 15 _ _ (sayET h3) ?_
       refine At.z 6 ?_
       refine AW.ret ?_
       refine ⟨_, Sub.refl _ _, ?_⟩
       refine KF.conv (fun w => .bool w) (fun w => []) (show (true) = (zoneOk z) from by simp [zoneOk, *]; done) ?_
       exact KF.n []
     refine At.sB 15 _ _ (sayEF h3) ?_
     refine At.a 2 ?_
     refine At.c (impl_isSmall_spec  z.rule ) Tryd.call55 true [] [] [] trivial ?_
     refine At.z 3 ?_
     refine AW.ret ?_
     refine ⟨_, Sub.refl _ _, ?_⟩
     refine KF.conv (fun w => .bool w) (fun w => []) (show (inR z.rule 97 122) = (zoneOk z) from by simp [zoneOk, *]; done) ?_
     exact KF.n []
   refine At.sB 11 (inR z.off (-900) 900) false (sayB (Bool.eq_false_iff.2 h2)) ?_
   replace h2 := Bool.eq_false_iff.2 h2
   refine At.z 10 ?_
   refine AW.ret ?_
   refine ⟨_, Sub.refl _ _, ?_⟩
   refine KF.conv (fun w => .bool w) (fun w => []) (show (false) = (zoneOk z) from by simp [zoneOk, *]; done) ?_
   exact KF.n []
 refine At.sB 6 (inR z.name 65 90) false (sayB (Bool.eq_false_iff.2 h1)) ?_
 replace h1 := Bool.eq_false_iff.2 h1
 refine At.z 15 ?_
 refine AW.ret ?_
 refine ⟨_, Sub.refl _ _, ?_⟩
 refine KF.conv (fun w => .bool w) (fun w => []) (show (false) = (zoneOk z) from by simp [zoneOk, *]; done) ?_
 exact KF.n []
theorem impl_hasRule_spec  (s : Srce) (name : Int) : FnSpec Tryd.prog 36 [.agg [.sl false 9 (s.rules.map encRul), .sl false 3 (s.zones.map encZon), .sl false 2 (s.links.map encLnk)], .int .i64 name] [] (.bool (hasR name s.rules)) [] := hasRule_s s name
theorem impl_zoneAt_spec  (s : Srce) (name : Int) : FnSpec Tryd.prog 38 [.agg [.sl false 9 (s.rules.map encRul), .sl false 3 (s.zones.map encZon), .sl false 2 (s.links.map encLnk)], .int .i64 name] [] (.int .i64 (posZ name s.zones 0)) [] := zoneAt_s s name
def K_impl_SourceOk (rs : List ResultVar) (s : Srce) (w0_ : Bool) : Exit → Sg → Prop := KF Tryd.prog 0 rs (.bool w0_) []
theorem impl_SourceOk_spec  (s : Srce) (hs : (s.rules.length ≤ 1048576 ∧ s.zones.length ≤ 1048576 ∧ s.links.length ≤ 1048576)) : FnSpec Tryd.prog 19 [.agg [.sl false 9 (s.rules.map encRul), .sl false 3 (s.zones.map encZon), .sl false 2 (s.links.map encLnk)]] [] (.bool (srcOk s)) [] := by
 refine FnSpec.of 107 Tryd.func19 rfl Tryd.ntmps19 (by simp) (AW.weakK ?_)
 refine AW.q 2 ?_
 refine AW.seq ?_
 refine AW.r ?_
 refine At.a 3 ?_
 refine At.sL 11 encRul s.rules ?_
 refine At.z 1 ?_
 refine AW.block ?_
 refine AW.loopW (fun (k : Nat) => Go.Sy.mk [.un, .ptr 101 0 0, .un, .un, .un, .un, .un, .un, .un, .un, .sl false 9 (s.rules.map encRul), .int .i64 (s.rules.length : Int), .int .i64 (k : Int)] [(101, .box 34 [.sl false 9 (s.rules.map encRul), .sl false 3 (s.zones.map encZon), .sl false 2 (s.links.map encLnk)])]) (fun (k : Nat) => k ≤ s.rules.length ∧ rulesOk s.rules = rulesOk (s.rules.drop k)) (fun (k : Nat) => s.rules.length - k) 0 ⟨by omega, by rw [List.drop_zero]⟩ (Sub.o [(101, 101)] [false, true, false, false, false, false, false, false, false, false, true, true, true]) ?_
 rintro k ⟨hk, hR1⟩
 refine AW.q 1 ?_
 refine AW.seq ?_
 refine AW.cD ((k : Int) < (s.rules.length : Int)) (fun h1 => ?_) (fun h1 => ?_)
 · refine AW.skip ?_
   refine AW.seq ?_
   refine AW.block ?_
   refine AW.r ?_
   refine At.iSl 30 14 (.tmp 10) (.tmp 12) false 9 (s.rules.map encRul) .i64 (k : Int) 45 (by omega) (by simp only [List.length_map]; omega) ?_
   refine Exists.elim (gE s.rules k (by omega)) fun e1 he1 => ?_
   refine At.lVp 45 15 (.tmp 14) false 9 (s.rules.map encRul) k 0 true 9 (encRul e1) (.agg [.int .i64 e1.name, .int .i64 e1.from_, .int .i64 e1.to, .int .i64 e1.month, .int .i64 e1.on.kind, .int .i64 e1.on.day, .int .i64 e1.on.week, .int .i64 e1.at_, .int .i64 e1.save]) (mapGet he1) ?_
   refine At.z 2 ?_
   refine AW.r ?_
   refine At.a 1 ?_
   refine At.c (impl_ruleOk_spec  e1 ) Tryd.call34 true [] [] [] trivial ?_
   refine At.z 1 ?_
   refine AW.cNB (ruleOk e1) (fun h2 => ?_) (fun h2 => ?_)
   · refine AW.q 1 ?_
     exact AW.ret (rf (k1 (K_impl_SourceOk _ s) (show (false) = (srcOk s) from by exact (srcOk_rb (hR1.trans (rules_bad (by assumption) (by assumption)))).symm) (KF.n [])))
   refine AW.skip ?_
   refine AW.g ?_
   refine At.a 1 ?_
   refine At.sI 19 ((k : Int) + 1) (by omega) ?_
   refine At.z 1 ?_
   exact ⟨k + 1, ⟨by omega, hR1.trans (rules_step he1 (by assumption))⟩, (by omega), Sub.o [(101, 101)] [false, true, false, false, false, false, false, false, false, false, true, true, true]⟩
 refine AW.exit ?_
 refine AW.seq ?_
 refine AW.r ?_
 refine At.a 3 ?_
 refine At.sL 22 encZon s.zones ?_
 refine At.z 1 ?_
 refine AW.block ?_
 refine AW.loopW (fun (j : Nat) => Go.Sy.mk [.un, .ptr 101 0 0, .un, .un, .un, .un, .un, .un, .un, .un, .un, .un, .un, .un, .un, .un, .un, .un, .un, .un, .un, .sl false 3 (s.zones.map encZon), .int .i64 (s.zones.length : Int), .int .i64 (j : Int)] [(101, .box 34 [.sl false 9 (s.rules.map encRul), .sl false 3 (s.zones.map encZon), .sl false 2 (s.links.map encLnk)])]) (fun (j : Nat) => j ≤ s.zones.length ∧ zonesOk s.rules 0 s.zones = zonesOk s.rules (lastZ (s.zones.take j)) (s.zones.drop j)) (fun (j : Nat) => s.zones.length - j) 0 ⟨by omega, by rw [List.drop_zero]; rfl⟩ (Sub.o [(101, 101)] [false, true, false, false, false, false, false, false, false, false, false, false, false, false, false, false, false, false, false, false, false, true, true, true]) ?_
 rintro j ⟨hj, hR2⟩
 refine AW.q 1 ?_
 refine AW.seq ?_
 refine AW.cD ((j : Int) < (s.zones.length : Int)) (fun h3 => ?_) (fun h3 => ?_)
 · refine AW.skip ?_
   refine AW.seq ?_
   refine AW.block ?_
   refine AW.r ?_
   refine At.a 1 ?_
   refine At.iSl 31 26 (.tmp 21) (.tmp 23) false 3 (s.zones.map encZon) .i64 (j : Int) 49 (by omega) (by simp only [List.length_map]; omega) ?_
   refine Exists.elim (gE s.zones j (by omega)) fun e2 he2 => ?_
   refine At.lVp 49 27 (.tmp 26) false 3 (s.zones.map encZon) j 0 true 3 (encZon e2) (.agg [.int .i64 e2.name, .int .i64 e2.off, .int .i64 e2.rule]) (mapGet he2) ?_
   refine At.z 3 ?_
   refine AW.seq ?_
   refine AW.gD Tryd_mix ?_
   refine At.a 1 ?_
   refine At.c (impl_zoneOk_spec  e2 ) Tryd.call35 true [] [] [] trivial ?_
   refine At.a 2 ?_
   by_cases h4 : (zoneOk e2) = true
   · refine At.sB 31 (!(zoneOk e2)) false (sayNF (sayB h4)) ?_
     refine At.a 3 ?_
     by_cases h5 : (j : Int) > 0
     · refine At.sB 34 _ _ (sayT h5) ?_
       refine At.a 4 ?_
       refine At.sI 38 ((j : Int) - 1) (by omega) ?_
       refine At.iSl 31 39 (.tmp 36) (.tmp 38) false 3 (s.zones.map encZon) .i64 ((j : Int) - 1) 49 (by omega) (by simp only [List.length_map]; omega) ?_
       refine At.a 1 ?_
       refine Exists.elim (gE s.zones (((j : Int) - 1).toNat) (by omega)) fun e3 he3 => ?_
       refine At.lVp 3 41 (.tmp 40) false 3 (s.zones.map encZon) (((j : Int) - 1).toNat) 0 false 1 (encZon e3) (.int .i64 e3.name) (mapGet he3) ?_
       refine At.a 6 ?_
       by_cases h6 : e3.name ≥ e2.name
       · refine At.sB 47 _ _ (sayT h6) ?_
         refine At.zD 11 ?_
         refine AW.cond true (by kernel_rfl) (fun _ => ?_) (fun h => by cases h)
         refine AW.q 1 ?_
         exact AW.ret (rf (k1 (K_impl_SourceOk _ s) (show (false) = (srcOk s) from by exact (srcOk_zb (hR2.trans (zones_bad (by assumption) (by first | exact zone1_f1 (hR1.trans (rules_end (by omega))) (by assumption) | exact zone1_f3 (by assumption) (by assumption) | exact zone1_f2 (by rw [prevZ (by assumption) (by assumption)]; omega))))).symm) (KF.n [])))
       refine At.sB 47 _ _ (sayF h6) ?_
       refine At.a 4 ?_
       by_cases h7 : e2.rule = 0
       · refine At.sB 51 _ _ (sayUF h7) ?_
         refine At.zD 7 ?_
         refine AW.cond false (by kernel_rfl) (fun h => by cases h) (fun _ => ?_)
         refine AW.skip ?_
         refine AW.g ?_
         refine At.a 1 ?_
         refine At.sI 59 ((j : Int) + 1) (by omega) ?_
         refine At.z 1 ?_
         exact ⟨j + 1, ⟨by omega, hR2.trans (zones_step (by assumption) (zone1_tI (hR1.trans (rules_end (by omega))) (by assumption) (by rw [prevZ (by assumption) (by assumption)]; omega) (by exact .inl (by assumption))))⟩, (by omega), Sub.o [(101, 101)] [false, true, false, false, false, false, false, false, false, false, false, false, false, false, false, false, false, false, false, false, false, true, true, true]⟩
       refine At.sB 51 _ _ (sayUT h7) ?_
       refine At.a 3 ?_
       refine At.c (impl_hasRule_spec  s e2.rule ) Tryd.call36 true [] [] [] trivial ?_
       refine At.zD 3 ?_
       refine AW.cNB (hasR e2.rule s.rules) (fun h8 => ?_) (fun h8 => ?_)
       · refine AW.q 1 ?_
         exact AW.ret (rf (k1 (K_impl_SourceOk _ s) (show (false) = (srcOk s) from by exact (srcOk_zb (hR2.trans (zones_bad (by assumption) (by first | exact zone1_f1 (hR1.trans (rules_end (by omega))) (by assumption) | exact zone1_f3 (by assumption) (by assumption) | exact zone1_f2 (by rw [prevZ (by assumption) (by assumption)]; omega))))).symm) (KF.n [])))
       refine AW.skip ?_
       refine AW.g ?_
       refine At.a 1 ?_
       refine At.sI 59 ((j : Int) + 1) (by omega) ?_
       refine At.z 1 ?_
       exact ⟨j + 1, ⟨by omega, hR2.trans (zones_step (by assumption) (zone1_tI (hR1.trans (rules_end (by omega))) (by assumption) (by rw [prevZ (by assumption) (by assumption)]; omega) (by exact .inr (by assumption))))⟩, (by omega), Sub.o [(101, 101)] [false, true, false, false, false, false, false, false, false, false, false, false, false, false, false, false, false, false, false, false, false, true, true, true]⟩
     refine At.sB 34 _ _ (sayF h5) ?_
     refine At.a 17 ?_
     by_cases h9 : e2.rule = 0
     · refine At.sB 51 _ _ (sayUF h9) ?_
       refine At.zD 7 ?_
       refine AW.cond false (by kernel_rfl) (fun h => by cases h) (fun _ => ?_)
       refine AW.skip ?_
       refine AW.g ?_
       refine At.a 1 ?_
       refine At.sI 59 ((j : Int) + 1) (by omega) ?_
       refine At.z 1 ?_
       exact ⟨j + 1, ⟨by omega, hR2.trans (zones_step (by assumption) (zone1_tI (hR1.trans (rules_end (by omega))) (by assumption) (by rw [prevZ0 (by assumption)]; have := zoneOk_name (by assumption); omega) (by exact .inl (by assumption))))⟩, (by omega), Sub.o [(101, 101)] [false, true, false, false, false, false, false, false, false, false, false, false, false, false, false, false, false, false, false, false, false, true, true, true]⟩
     refine At.sB 51 _ _ (sayUT h9) ?_
     refine At.a 3 ?_
     refine At.c (impl_hasRule_spec  s e2.rule ) Tryd.call36 true [] [] [] trivial ?_
     refine At.zD 3 ?_
     refine AW.cNB (hasR e2.rule s.rules) (fun h10 => ?_) (fun h10 => ?_)
     · refine AW.q 1 ?_
       exact AW.ret (rf (k1 (K_impl_SourceOk _ s) (show (false) = (srcOk s) from by exact (srcOk_zb (hR2.trans (zones_bad (by assumption) (by first | exact zone1_f1 (hR1.trans (rules_end (by omega))) (by assumption) | exact zone1_f3 (by assumption) (by assumption) | exact zone1_f2 (by rw [prevZ (by assumption) (by assumption)]; omega))))).symm) (KF.n [])))
     refine AW.skip ?_
     refine AW.g ?_
     refine At.a 1 ?_
     refine At.sI 59 ((j : Int) + 1) (by omega) ?_
     refine At.z 1 ?_
     exact ⟨j + 1, ⟨by omega, hR2.trans (zones_step (by assumption) (zone1_tI (hR1.trans (rules_end (by omega))) (by assumption) (by rw [prevZ0 (by assumption)]; have := zoneOk_name (by assumption); omega) (by exact .inr (by assumption))))⟩, (by omega), Sub.o [(101, 101)] [false, true, false, false, false, false, false, false, false, false, false, false, false, false, false, false, false, false, false, false, false, true, true, true]⟩
   refine At.sB 31 (!(zoneOk e2)) true (sayNT (sayB (Bool.eq_false_iff.2 h4))) ?_
   replace h4 := Bool.eq_false_iff.2 h4
   refine At.zD 27 ?_
   refine AW.cond true (by kernel_rfl) (fun _ => ?_) (fun h => by cases h)
   refine AW.q 1 ?_
   exact AW.ret (rf (k1 (K_impl_SourceOk _ s) (show (false) = (srcOk s) from by exact (srcOk_zb (hR2.trans (zones_bad (by assumption) (by first | exact zone1_f1 (hR1.trans (rules_end (by omega))) (by assumption) | exact zone1_f3 (by assumption) (by assumption) | exact zone1_f2 (by rw [prevZ (by assumption) (by assumption)]; omega))))).symm) (KF.n [])))
 refine AW.exit ?_
 refine AW.seq ?_
 refine AW.r ?_
 refine At.a 3 ?_
 refine At.sL 62 encLnk s.links ?_
 refine At.z 1 ?_
 refine AW.block ?_
 refine AW.loopW (fun (i : Nat) => Go.Sy.mk [.un, .ptr 101 0 0, .un, .un, .un, .un, .un, .un, .un, .un, .un, .un, .un, .un, .un, .un, .un, .un, .un, .un, .un, .un, .un, .un, .un, .un, .un, .un, .un, .un, .un, .un, .un, .un, .un, .un, .un, .un, .un, .un, .un, .un, .un, .un, .un, .un, .un, .un, .un, .un, .un, .un, .un, .un, .un, .un, .un, .un, .un, .un, .un, .sl false 2 (s.links.map encLnk), .int .i64 (s.links.length : Int), .int .i64 (i : Int)] [(101, .box 34 [.sl false 9 (s.rules.map encRul), .sl false 3 (s.zones.map encZon), .sl false 2 (s.links.map encLnk)])]) (fun (i : Nat) => i ≤ s.links.length ∧ linksOk s.zones 0 s.links = linksOk s.zones (lastL (s.links.take i)) (s.links.drop i)) (fun (i : Nat) => s.links.length - i) 0 ⟨by omega, by rw [List.drop_zero]; rfl⟩ (Sub.o [(101, 101)] [false, true, false, false, false, false, false, false, false, false, false, false, false, false, false, false, false, false, false, false, false, false, false, false, false, false, false, false, false, false, false, false, false, false, false, false, false, false, false, false, false, false, false, false, false, false, false, false, false, false, false, false, false, false, false, false, false, false, false, false, false, true, true, true]) ?_
 rintro i ⟨hi, hR3⟩
 refine AW.q 1 ?_
 refine AW.seq ?_
 refine AW.cD ((i : Int) < (s.links.length : Int)) (fun h11 => ?_) (fun h11 => ?_)
 · refine AW.skip ?_
   refine AW.seq ?_
   refine AW.block ?_
   refine AW.r ?_
   refine At.a 1 ?_
   refine At.iSl 32 66 (.tmp 61) (.tmp 63) false 2 (s.links.map encLnk) .i64 (i : Int) 51 (by omega) (by simp only [List.length_map]; omega) ?_
   refine Exists.elim (gE s.links i (by omega)) fun e4 he4 => ?_
   refine At.lVp 51 67 (.tmp 66) false 2 (s.links.map encLnk) i 0 true 2 (encLnk e4) (.agg [.int .i64 e4.name, .int .i64 e4.to]) (mapGet he4) ?_
   refine At.z 3 ?_
   refine AW.seq ?_
   refine AW.gD Tryd_mix ?_
   refine At.a 2 ?_
   refine At.c (impl_isGreat_spec  e4.name ) Tryd.call37 true [] [] [] trivial ?_
   refine At.a 2 ?_
   by_cases h12 : (inR e4.name 65 90) = true
   · refine At.sB 72 (!(inR e4.name 65 90)) false (sayNF (sayB h12)) ?_
     have h12i := inR_iff.1 h12
     refine At.a 3 ?_
     by_cases h13 : (i : Int) > 0
     · refine At.sB 75 _ _ (sayT h13) ?_
       refine At.a 4 ?_
       refine At.sI 79 ((i : Int) - 1) (by omega) ?_
       refine At.iSl 32 80 (.tmp 77) (.tmp 79) false 2 (s.links.map encLnk) .i64 ((i : Int) - 1) 51 (by omega) (by simp only [List.length_map]; omega) ?_
       refine At.a 1 ?_
       refine Exists.elim (gE s.links (((i : Int) - 1).toNat) (by omega)) fun e5 he5 => ?_
       refine At.lVp 3 82 (.tmp 81) false 2 (s.links.map encLnk) (((i : Int) - 1).toNat) 0 false 1 (encLnk e5) (.int .i64 e5.name) (mapGet he5) ?_
       refine At.a 6 ?_
       by_cases h14 : e5.name ≥ e4.name
       · refine At.sB 88 _ _ (sayT h14) ?_
         refine At.zD 13 ?_
         refine AW.cond true (by kernel_rfl) (fun _ => ?_) (fun h => by cases h)
         refine AW.q 1 ?_
         exact AW.ret (rf (k1 (K_impl_SourceOk _ s) (show (false) = (srcOk s) from by exact (srcOk_lb (hR3.trans (links_bad (by assumption) (by first | exact link1_f1 (by assumption) | exact link1_f3 (by assumption) | exact link1_f4 (by assumption) | exact link1_f2 (by rw [prevL (by assumption) (by assumption)]; omega))))).symm) (KF.n [])))
       refine At.sB 88 _ _ (sayF h14) ?_
       refine At.a 3 ?_
       refine At.c (impl_zoneAt_spec  s e4.to ) Tryd.call38 true [] [] [] trivial ?_
       refine At.a 3 ?_
       by_cases h15 : (posZ e4.to s.zones 0) < 0
       · refine At.sB 95 _ _ (sayT h15) ?_
         refine At.zD 6 ?_
         refine AW.cond true (by kernel_rfl) (fun _ => ?_) (fun h => by cases h)
         refine AW.q 1 ?_
         exact AW.ret (rf (k1 (K_impl_SourceOk _ s) (show (false) = (srcOk s) from by exact (srcOk_lb (hR3.trans (links_bad (by assumption) (by first | exact link1_f1 (by assumption) | exact link1_f3 (by assumption) | exact link1_f4 (by assumption) | exact link1_f2 (by rw [prevL (by assumption) (by assumption)]; omega))))).symm) (KF.n [])))
       refine At.sB 95 _ _ (sayF h15) ?_
       refine At.a 3 ?_
       refine At.c (impl_zoneAt_spec  s e4.name ) Tryd.call38 true [] [] [] trivial ?_
       refine At.zD 2 ?_
       refine AW.cD ((posZ e4.name s.zones 0) ≥ 0) (fun h16 => ?_) (fun h16 => ?_)
       · refine AW.q 1 ?_
         exact AW.ret (rf (k1 (K_impl_SourceOk _ s) (show (false) = (srcOk s) from by exact (srcOk_lb (hR3.trans (links_bad (by assumption) (by first | exact link1_f1 (by assumption) | exact link1_f3 (by assumption) | exact link1_f4 (by assumption) | exact link1_f2 (by rw [prevL (by assumption) (by assumption)]; omega))))).symm) (KF.n [])))
       refine AW.skip ?_
       refine AW.g ?_
       refine At.a 1 ?_
       refine At.sI 102 ((i : Int) + 1) (by omega) ?_
       refine At.z 1 ?_
       exact ⟨i + 1, ⟨by omega, hR3.trans (links_step (by assumption) (link1_t (by assumption) (by rw [prevL (by assumption) (by assumption)]; omega) (by assumption) (by assumption)))⟩, (by omega), Sub.o [(101, 101)] [false, true, false, false, false, false, false, false, false, false, false, false, false, false, false, false, false, false, false, false, false, false, false, false, false, false, false, false, false, false, false, false, false, false, false, false, false, false, false, false, false, false, false, false, false, false, false, false, false, false, false, false, false, false, false, false, false, false, false, false, false, true, true, true]⟩
     refine At.sB 75 _ _ (sayF h13) ?_
     refine At.a 16 ?_
     refine At.c (impl_zoneAt_spec  s e4.to ) Tryd.call38 true [] [] [] trivial ?_
     refine At.a 3 ?_
     by_cases h17 : (posZ e4.to s.zones 0) < 0
     · refine At.sB 95 _ _ (sayT h17) ?_
       refine At.zD 6 ?_
       refine AW.cond true (by kernel_rfl) (fun _ => ?_) (fun h => by cases h)
       refine AW.q 1 ?_
       exact AW.ret (rf (k1 (K_impl_SourceOk _ s) (show (false) = (srcOk s) from by exact (srcOk_lb (hR3.trans (links_bad (by assumption) (by first | exact link1_f1 (by assumption) | exact link1_f3 (by assumption) | exact link1_f4 (by assumption) | exact link1_f2 (by rw [prevL (by assumption) (by assumption)]; omega))))).symm) (KF.n [])))
     refine At.sB 95 _ _ (sayF h17) ?_
     refine At.a 3 ?_
     refine At.c (impl_zoneAt_spec  s e4.name ) Tryd.call38 true [] [] [] trivial ?_
     refine At.zD 2 ?_
     refine AW.cD ((posZ e4.name s.zones 0) ≥ 0) (fun h18 => ?_) (fun h18 => ?_)
     · refine AW.q 1 ?_
       exact AW.ret (rf (k1 (K_impl_SourceOk _ s) (show (false) = (srcOk s) from by exact (srcOk_lb (hR3.trans (links_bad (by assumption) (by first | exact link1_f1 (by assumption) | exact link1_f3 (by assumption) | exact link1_f4 (by assumption) | exact link1_f2 (by rw [prevL (by assumption) (by assumption)]; omega))))).symm) (KF.n [])))
     refine AW.skip ?_
     refine AW.g ?_
     refine At.a 1 ?_
     refine At.sI 102 ((i : Int) + 1) (by omega) ?_
     refine At.z 1 ?_
     exact ⟨i + 1, ⟨by omega, hR3.trans (links_step (by assumption) (link1_t (by assumption) (by rw [prevL0 (by assumption)]; omega) (by assumption) (by assumption)))⟩, (by omega), Sub.o [(101, 101)] [false, true, false, false, false, false, false, false, false, false, false, false, false, false, false, false, false, false, false, false, false, false, false, false, false, false, false, false, false, false, false, false, false, false, false, false, false, false, false, false, false, false, false, false, false, false, false, false, false, false, false, false, false, false, false, false, false, false, false, false, false, true, true, true]⟩
   refine At.sB 72 (!(inR e4.name 65 90)) true (sayNT (sayB (Bool.eq_false_iff.2 h12))) ?_
   replace h12 := Bool.eq_false_iff.2 h12
   refine At.zD 29 ?_
   refine AW.cond true (by kernel_rfl) (fun _ => ?_) (fun h => by cases h)
   refine AW.q 1 ?_
   exact AW.ret (rf (k1 (K_impl_SourceOk _ s) (show (false) = (srcOk s) from by exact (srcOk_lb (hR3.trans (links_bad (by assumption) (by first | exact link1_f1 (by assumption) | exact link1_f3 (by assumption) | exact link1_f4 (by assumption) | exact link1_f2 (by rw [prevL (by assumption) (by assumption)]; omega))))).symm) (KF.n [])))
 refine AW.exit ?_
 refine AW.r ?_
 refine At.a 3 ?_
 refine At.sL 105 encRul s.rules ?_
 refine At.z 2 ?_
 exact AW.ret (rf (k1 (K_impl_SourceOk _ s) (show (decide ((s.rules.length : Int) ≤ 20)) = (srcOk s) from by exact srcOk_20 (hR1.trans (rules_end (by omega))) (hR2.trans (zones_end (by omega) _)) (hR3.trans (links_end (by omega) _))) (KF.n [])))
theorem impl_letter_spec  (n : Int) : FnSpec Tryd.prog 20 [.int .i64 n] [] (.str (strOf (letT n))) [] := by
 refine FnSpec.of 9 Tryd.func20 rfl Tryd.ntmps20 (by simp) (AW.weakK ?_)
 refine AW.q 1 ?_
 refine AW.seq ?_
 refine AW.q 2 ?_
 refine AW.cE n (0 : Int) (fun h1 => ?_) (fun h1 => ?_)
 · refine AW.q 1 ?_
   refine AW.ret ?_
   refine ⟨_, Sub.refl _ _, ?_⟩
   refine KF.conv (fun w => .str w) (fun w => []) (show ((⟨#[45]⟩ : ByteArray)) = (strOf (letT n)) from by unfold letT; first | (rw [if_pos (by assumption)]; rfl) | (rw [if_neg (by assumption)]; done)) ?_
   exact KF.n []
 refine AW.skip ?_
 refine AW.r ?_
 refine At.a 1 ?_
 refine At.conv (s := 3) (t := 5) (d := 6) (x := .tmp 5) (kd := .i64) (kd' := .u8) (a := n) (.int .u8 ((u8Of n).toNat : Int)) (by kernel_rfl) (by kernel_rfl) (by kernel_rfl) (by kernel_rfl) (sayByte _) ?_
 refine At.ll 7 5 1 107 (0, 6) (([(u8Of n)]).map encU8) ?_
 refine At.b2s (s := 63) (t := 9) (e := 5) (d := 8) (x := .tmp 7) (T := .ref 107) ([(u8Of n)]) [] (by kernel_rfl) (by kernel_rfl) (by kernel_rfl) (by kernel_rfl) ⟨by kernel_rfl, .inl ⟨rfl, (allP_encU8 _)⟩⟩ ?_
 refine At.z 1 ?_
 refine AW.ret ?_
 refine ⟨_, Sub.refl _ _, ?_⟩
 refine KF.conv (fun w => .str w) (fun w => []) (show (strOf ([(u8Of n)])) = (strOf (letT n)) from by unfold letT; first | (rw [if_pos (by assumption)]; rfl) | (rw [if_neg (by assumption)]; done)) ?_
 exact KF.n []
theorem impl_digits_spec  (n : Int) (hn : -9223372036854775808 ≤ n ∧ n ≤ 9223372036854775807) : FnSpecQ GB Tryd.prog 21 [.int .i64 n] (.str (strOf (Lib.itoa n))) := digits_q n hn
theorem impl_OnText_spec  (o : On) (ho : (-9223372036854775808 ≤ o.day ∧ o.day ≤ 9223372036854775807) ∧ (-9223372036854775808 ≤ o.week ∧ o.week ≤ 9223372036854775807)) : FnSpecQ GB Tryd.prog 22 [.agg [.int .i64 o.kind, .int .i64 o.day, .int .i64 o.week]] (.str (strOf (txO o))) := by
 have hl1 : (⟨#[108, 97, 115, 116]⟩ : ByteArray).size = 4 := rfl
 have hl2 : (⟨#[62, 61]⟩ : ByteArray).size = 2 := rfl
 have hid := Lib.itoa_length_le o.day (by omega) (by omega)
 have hiw := Lib.itoa_length_le o.week (by omega) (by omega)
 refine FnSpecQ.of 27 Tryd.func22 rfl Tryd.ntmps22 (by simp) (AW.weakK ?_)
 refine AW.q 2 ?_
 refine AW.seq ?_
 refine AW.r ?_
 refine At.a 1 ?_
 refine At.c (impl_OnOk_spec  o ) Tryd.call40 true [] [] [] trivial ?_
 refine At.z 1 ?_
 refine AW.cNB (onOk o) (fun h1 => ?_) (fun h1 => ?_)
 · refine AW.q 1 ?_
   refine AW.ret ?_
   refine ⟨_, Sub.refl _ _, ?_⟩
   refine KF.conv (fun w => .str w) (fun w => []) (show ((⟨#[]⟩ : ByteArray)) = (strOf (txO o)) from by exact tx_no (by assumption)) ?_
   exact KF.n []
 refine AW.skip ?_
 refine AW.seq ?_
 refine AW.q 2 ?_
 refine AW.block ?_
 refine AW.q 2 ?_
 refine AW.cE o.kind (1 : Int) (fun h2 => ?_) (fun h2 => ?_)
 · refine AW.r ?_
   refine At.a 2 ?_
   refine At.callQ glLasts rfl (impl_digits_spec  o.day (by omega)) Tryd.call21 true [] [] [] (by kernel_rfl) (by kernel_rfl) (by kernel_rfl) (by kernel_rfl) (by kernel_rfl) trivial ?_
   refine At.z 1 ?_
   refine AW.ret ?_
   refine ⟨_, Sub.refl _ _, ?_⟩
   refine KF.conv (fun w => .str w) (fun w => []) (show (strOf (Lib.itoa o.day)) = (strOf (txO o)) from by exact tx_1 (by assumption) (by assumption)) ?_
   exact KF.n []
 refine AW.q 2 ?_
 refine AW.cE o.kind (2 : Int) (fun h3 => ?_) (fun h3 => ?_)
 · refine AW.r ?_
   refine At.a 2 ?_
   refine At.callQ glLasts rfl (impl_digits_spec  o.week (by omega)) Tryd.call21 true [] [] [] (by kernel_rfl) (by kernel_rfl) (by kernel_rfl) (by kernel_rfl) (by kernel_rfl) trivial ?_
   refine At.cat (t := 9) (u := 9) (d := 18) (x := .const (.string ⟨#[108, 97, 115, 116]⟩)) (y := .tmp 17) (a := (⟨#[108, 97, 115, 116]⟩ : ByteArray)) (b := strOf (Lib.itoa o.week)) (by kernel_rfl) (by kernel_rfl) (by kernel_rfl) (by kernel_rfl) (by simp only [cat_size, strOf_size]; omega) ?_
   refine At.z 1 ?_
   refine AW.ret ?_
   refine ⟨_, Sub.refl _ _, ?_⟩
   refine KF.conv (fun w => .str w) (fun w => []) (show ((⟨#[108, 97, 115, 116]⟩ : ByteArray) ++ (strOf (Lib.itoa o.week))) = (strOf (txO o)) from by exact tx_2 (by assumption) (by assumption) (by assumption)) ?_
   exact KF.n []
 refine AW.skip ?_
 refine AW.seq ?_
 refine AW.gD Tryd_mix ?_
 refine At.a 2 ?_
 refine At.callQ glLasts rfl (impl_digits_spec  o.week (by omega)) Tryd.call21 true [] [] [] (by kernel_rfl) (by kernel_rfl) (by kernel_rfl) (by kernel_rfl) (by kernel_rfl) trivial ?_
 refine At.cat (t := 9) (u := 9) (d := 22) (x := .tmp 21) (y := .const (.string ⟨#[62, 61]⟩)) (a := strOf (Lib.itoa o.week)) (b := (⟨#[62, 61]⟩ : ByteArray)) (by kernel_rfl) (by kernel_rfl) (by kernel_rfl) (by kernel_rfl) (by simp only [cat_size, strOf_size]; omega) ?_
 refine At.a 2 ?_
 refine At.callQ glLasts rfl (impl_digits_spec  o.day (by omega)) Tryd.call21 true [] [] [] (by kernel_rfl) (by kernel_rfl) (by kernel_rfl) (by kernel_rfl) (by kernel_rfl) trivial ?_
 refine At.cat (t := 9) (u := 9) (d := 26) (x := .tmp 22) (y := .tmp 25) (a := (strOf (Lib.itoa o.week)) ++ (⟨#[62, 61]⟩ : ByteArray)) (b := strOf (Lib.itoa o.day)) (by kernel_rfl) (by kernel_rfl) (by kernel_rfl) (by kernel_rfl) (by simp only [cat_size, strOf_size]; omega) ?_
 refine At.zD 1 ?_
 refine AW.ret ?_
 refine ⟨_, Sub.refl _ _, ?_⟩
 refine KF.conv (fun w => .str w) (fun w => []) (show (((strOf (Lib.itoa o.week)) ++ (⟨#[62, 61]⟩ : ByteArray)) ++ (strOf (Lib.itoa o.day))) = (strOf (txO o)) from by exact tx_3 (by assumption) (by assumption) (by assumption)) ?_
 exact KF.n []
theorem strings_Join_spec  (a : List ByteArray) (sep : ByteArray) (hl : a.length ≤ 1048576) (hc : (Lib.join (a.map (·.data.toList)) sep.data.toList).length ≤ 1048576) : FnSpec Tryd.prog 23 [.sl false 1 (a.map encS), .str sep] [] (.str (strOf (Lib.join (a.map (·.data.toList)) sep.data.toList))) [] := join_q a sep hl hc
def K_impl_SourcePrint (rs : List ResultVar) (s : Srce) (w0_ : ByteArray) (w1_ : Bool) : Exit → Sg → Prop := KF Tryd.prog 0 rs (.tup [.str w0_, .bool w1_]) []
theorem impl_SourcePrint_spec  (s : Srce) (hs : (s.rules.length ≤ 1048576 ∧ s.zones.length ≤ 1048576 ∧ s.links.length ≤ 1048576)) : FnSpecQ GB Tryd.prog 7 [.agg [.sl false 9 (s.rules.map encRul), .sl false 3 (s.zones.map encZon), .sl false 2 (s.links.map encLnk)]] (.tup [.str (strOf (srcP s).1), .bool ((srcP s).2)]) := by
 have hb0 : (⟨#[45]⟩ : ByteArray).size = 1 := rfl
 have hb1 : (⟨#[32]⟩ : ByteArray).size = 1 := rfl
 have hb2 : (⟨#[10]⟩ : ByteArray).size = 1 := rfl
 have hb3 : (⟨#[114, 117, 108, 101, 32]⟩ : ByteArray).size = 5 := rfl
 have hb4 : (⟨#[122, 111, 110, 101, 32]⟩ : ByteArray).size = 5 := rfl
 have hb5 : (⟨#[108, 105, 110, 107, 32]⟩ : ByteArray).size = 5 := rfl
 refine FnSpecQ.of 99 Tryd.func7 rfl Tryd.ntmps7 (by simp) (AW.weakK ?_)
 refine AW.q 3 ?_
 refine AW.seq ?_
 refine AW.r ?_
 refine At.a 1 ?_
 refine At.c (impl_SourceOk_spec  s (by omega)) Tryd.call19 true [] [] [] trivial ?_
 refine At.z 1 ?_
 refine AW.cNB (srcOk s) (fun h1 => ?_) (fun h1 => ?_)
 · refine AW.q 2 ?_
   exact AW.ret (rf (k2 (K_impl_SourcePrint _ s) (show ((⟨#[]⟩ : ByteArray)) = (strOf (srcP s).1) from by rw [srcP_no (by assumption)]; first | done | rfl) (show (false) = ((srcP s).2) from by rw [srcP_no (by assumption)]; first | done | rfl) (KF.n [])))
 obtain ⟨q1, q2, q3, q4⟩ := srcOk_iff.1 h1
 have q5 := zones_few q3
 have q6 := links_few q4
 refine AW.skip ?_
 refine AW.q 1 ?_
 refine AW.seq ?_
 refine AW.r ?_
 refine At.a 3 ?_
 refine At.sL 17 encRul s.rules ?_
 refine At.z 1 ?_
 refine AW.block ?_
 refine AW.loopW (fun (x : Nat × ByteArray) => match x with | (k, o) => Go.Sy.mk [.un, .ptr 101 0 0, .un, .un, .str o, .un, .un, .un, .un, .un, .un, .un, .un, .un, .un, .un, .sl false 9 (s.rules.map encRul), .int .i64 (s.rules.length : Int), .int .i64 (k : Int)] [(101, .box 34 [.sl false 9 (s.rules.map encRul), .sl false 3 (s.zones.map encZon), .sl false 2 (s.links.map encLnk)])]) (fun (x : Nat × ByteArray) => match x with | (k, o) => (k ≤ s.rules.length ∧ o.size ≤ 0 + 200 * k) ∧ o = strOf (([] : List UInt8) ++ (s.rules.take k).flatMap ruleT)) (fun (x : Nat × ByteArray) => match x with | (k, o) => s.rules.length - k) (0, ⟨#[]⟩) ⟨⟨by omega, by decide⟩, rfl⟩ (Sub.o [(101, 101)] [false, true, false, false, true, false, false, false, false, false, false, false, false, false, false, false, true, true, true]) ?_
 rintro ⟨k, o⟩ ⟨hsk, hRk⟩
 refine AW.q 1 ?_
 refine AW.seq ?_
 refine AW.cD ((k : Int) < (s.rules.length : Int)) (fun h2 => ?_) (fun h2 => ?_)
 · refine AW.skip ?_
   refine AW.seq ?_
   refine AW.block ?_
   refine AW.r ?_
   refine At.iSl 30 20 (.tmp 16) (.tmp 18) false 9 (s.rules.map encRul) .i64 (k : Int) 45 (by omega) (by simp only [List.length_map]; omega) ?_
   refine Exists.elim (gE s.rules k (by omega)) fun e1 he1 => ?_
   have hoke1 := rulesOk_mem q2 he1
   have hlne1 := ruleLens hoke1
   have hnue1 := ruleNums hoke1
   have hnne1 := onOk_nums hnue1.2.2.2.1
   refine At.lVp 45 21 (.tmp 20) false 9 (s.rules.map encRul) k 0 true 9 (encRul e1) (.agg [.int .i64 e1.name, .int .i64 e1.from_, .int .i64 e1.to, .int .i64 e1.month, .int .i64 e1.on.kind, .int .i64 e1.on.day, .int .i64 e1.on.week, .int .i64 e1.at_, .int .i64 e1.save]) (mapGet he1) ?_
   refine At.z 2 ?_
   refine AW.seq ?_
   refine AW.gD Tryd_mix ?_
   refine At.a 2 ?_
   refine At.c (impl_letter_spec  e1.name ) Tryd.call20 true [] [] [] trivial ?_
   refine At.a 2 ?_
   refine At.callQ glLasts rfl (impl_digits_spec  e1.from_ (by omega)) Tryd.call21 true [] [] [] (by kernel_rfl) (by kernel_rfl) (by kernel_rfl) (by kernel_rfl) (by kernel_rfl) trivial ?_
   refine At.a 2 ?_
   refine At.callQ glLasts rfl (impl_digits_spec  e1.to (by omega)) Tryd.call21 true [] [] [] (by kernel_rfl) (by kernel_rfl) (by kernel_rfl) (by kernel_rfl) (by kernel_rfl) trivial ?_
   refine At.a 2 ?_
   refine At.callQ glLasts rfl (impl_digits_spec  e1.month (by omega)) Tryd.call21 true [] [] [] (by kernel_rfl) (by kernel_rfl) (by kernel_rfl) (by kernel_rfl) (by kernel_rfl) trivial ?_
   refine At.a 2 ?_
   refine At.callQ glLasts rfl (impl_OnText_spec  e1.on (by omega)) Tryd.call22 true [] [] [] (by kernel_rfl) (by kernel_rfl) (by kernel_rfl) (by kernel_rfl) (by kernel_rfl) trivial ?_
   refine At.a 2 ?_
   refine At.callQ glLasts rfl (impl_digits_spec  e1.at_ (by omega)) Tryd.call21 true [] [] [] (by kernel_rfl) (by kernel_rfl) (by kernel_rfl) (by kernel_rfl) (by kernel_rfl) trivial ?_
   refine At.a 2 ?_
   refine At.callQ glLasts rfl (impl_digits_spec  e1.save (by omega)) Tryd.call21 true [] [] [] (by kernel_rfl) (by kernel_rfl) (by kernel_rfl) (by kernel_rfl) (by kernel_rfl) trivial ?_
   refine At.ll 43 9 1 143 (0, 6) (([(⟨#[114, 117, 108, 101]⟩ : ByteArray), strOf (letT e1.name), strOf (Lib.itoa e1.from_), strOf (Lib.itoa e1.to), strOf (Lib.itoa e1.month), strOf (txO e1.on), strOf (Lib.itoa e1.at_), strOf (Lib.itoa e1.save)]).map encS) ?_
   refine At.zD 1 ?_
   refine AW.g ?_
   refine At.a 2 ?_
   refine At.c (strings_Join_spec  ([(⟨#[114, 117, 108, 101]⟩ : ByteArray), strOf (letT e1.name), strOf (Lib.itoa e1.from_), strOf (Lib.itoa e1.to), strOf (Lib.itoa e1.month), strOf (txO e1.on), strOf (Lib.itoa e1.at_), strOf (Lib.itoa e1.save)]) (⟨#[32]⟩ : ByteArray) (by simp) (Nat.le_trans (join_len (by assumption)) (by decide))) Tryd.call23 false [] [] [(143, 1, (([(⟨#[114, 117, 108, 101]⟩ : ByteArray), strOf (letT e1.name), strOf (Lib.itoa e1.from_), strOf (Lib.itoa e1.to), strOf (Lib.itoa e1.month), strOf (txO e1.on), strOf (Lib.itoa e1.at_), strOf (Lib.itoa e1.save)]).map encS))] ⟨rfl, ⟨9, (([(⟨#[114, 117, 108, 101]⟩ : ByteArray), strOf (letT e1.name), strOf (Lib.itoa e1.from_), strOf (Lib.itoa e1.to), strOf (Lib.itoa e1.month), strOf (txO e1.on), strOf (Lib.itoa e1.at_), strOf (Lib.itoa e1.save)]).map encS), by kernel_rfl, FrzIs.same (allP_encS _)⟩, trivial⟩ ?_
   have hjl : ((Lib.join (([(⟨#[114, 117, 108, 101]⟩ : ByteArray), strOf (letT e1.name), strOf (Lib.itoa e1.from_), strOf (Lib.itoa e1.to), strOf (Lib.itoa e1.month), strOf (txO e1.on), strOf (Lib.itoa e1.at_), strOf (Lib.itoa e1.save)]).map (·.data.toList)) [32])).length ≤ 199 := join_len (by assumption)
   refine At.cat (t := 9) (u := 9) (d := 47) (x := .tmp 46) (y := .const (.string ⟨#[10]⟩)) (a := strOf (Lib.join (([(⟨#[114, 117, 108, 101]⟩ : ByteArray), strOf (letT e1.name), strOf (Lib.itoa e1.from_), strOf (Lib.itoa e1.to), strOf (Lib.itoa e1.month), strOf (txO e1.on), strOf (Lib.itoa e1.at_), strOf (Lib.itoa e1.save)]).map (·.data.toList)) (⟨#[32]⟩ : ByteArray).data.toList)) (b := (⟨#[10]⟩ : ByteArray)) (by kernel_rfl) (by kernel_rfl) (by kernel_rfl) (by kernel_rfl) (by simp only [cat_size, strOf_size]; omega) ?_
   refine At.cat (t := 9) (u := 9) (d := 48) (x := .tmp 44) (y := .tmp 47) (a := o) (b := (strOf (Lib.join (([(⟨#[114, 117, 108, 101]⟩ : ByteArray), strOf (letT e1.name), strOf (Lib.itoa e1.from_), strOf (Lib.itoa e1.to), strOf (Lib.itoa e1.month), strOf (txO e1.on), strOf (Lib.itoa e1.at_), strOf (Lib.itoa e1.save)]).map (·.data.toList)) (⟨#[32]⟩ : ByteArray).data.toList)) ++ (⟨#[10]⟩ : ByteArray)) (by kernel_rfl) (by kernel_rfl) (by kernel_rfl) (by kernel_rfl) (by simp only [cat_size, strOf_size]; omega) ?_
   refine At.z 1 ?_
   refine AW.g ?_
   refine At.a 1 ?_
   refine At.sI 49 ((k : Int) + 1) (by omega) ?_
   refine At.z 1 ?_
   exact ⟨(k + 1, (o ++ ((strOf (Lib.join (([(⟨#[114, 117, 108, 101]⟩ : ByteArray), strOf (letT e1.name), strOf (Lib.itoa e1.from_), strOf (Lib.itoa e1.to), strOf (Lib.itoa e1.month), strOf (txO e1.on), strOf (Lib.itoa e1.at_), strOf (Lib.itoa e1.save)]).map (·.data.toList)) (⟨#[32]⟩ : ByteArray).data.toList)) ++ (⟨#[10]⟩ : ByteArray)))), ⟨⟨by omega, by simp only [cat_size, strOf_size]; omega⟩, rule_stepI (by assumption) hRk⟩, (by simp only; omega), Sub.o [(101, 101)] [false, true, false, false, true, false, false, false, false, false, false, false, false, false, false, false, true, true, true]⟩
 refine AW.exit ?_
 refine AW.seq ?_
 refine AW.r ?_
 refine At.a 3 ?_
 refine At.sL 52 encZon s.zones ?_
 refine At.z 1 ?_
 refine AW.block ?_
 refine AW.loopW (fun (x : Nat × ByteArray) => match x with | (j, o2) => Go.Sy.mk [.un, .ptr 101 0 0, .un, .un, .str o2, .un, .un, .un, .un, .un, .un, .un, .un, .un, .un, .un, .un, .un, .un, .un, .un, .un, .un, .un, .un, .un, .un, .un, .un, .un, .un, .un, .un, .un, .un, .un, .un, .un, .un, .un, .un, .un, .un, .un, .un, .un, .un, .un, .un, .un, .un, .sl false 3 (s.zones.map encZon), .int .i64 (s.zones.length : Int), .int .i64 (j : Int)] [(101, .box 34 [.sl false 9 (s.rules.map encRul), .sl false 3 (s.zones.map encZon), .sl false 2 (s.links.map encLnk)])]) (fun (x : Nat × ByteArray) => match x with | (j, o2) => (j ≤ s.zones.length ∧ o2.size ≤ 4000 + 60 * j) ∧ o2 = strOf ((([] : List UInt8) ++ s.rules.flatMap ruleT) ++ (s.zones.take j).flatMap zoneT)) (fun (x : Nat × ByteArray) => match x with | (j, o2) => s.zones.length - j) (0, o) ⟨⟨by omega, by omega⟩, base_next hRk (by omega)⟩ (Sub.o [(101, 101)] [false, true, false, false, true, false, false, false, false, false, false, false, false, false, false, false, false, false, false, false, false, false, false, false, false, false, false, false, false, false, false, false, false, false, false, false, false, false, false, false, false, false, false, false, false, false, false, false, false, false, false, true, true, true]) ?_
 rintro ⟨j, o2⟩ ⟨hsj, hRj⟩
 refine AW.q 1 ?_
 refine AW.seq ?_
 refine AW.cD ((j : Int) < (s.zones.length : Int)) (fun h3 => ?_) (fun h3 => ?_)
 · refine AW.skip ?_
   refine AW.seq ?_
   refine AW.block ?_
   refine AW.r ?_
   refine At.iSl 31 55 (.tmp 51) (.tmp 53) false 3 (s.zones.map encZon) .i64 (j : Int) 49 (by omega) (by simp only [List.length_map]; omega) ?_
   refine Exists.elim (gE s.zones j (by omega)) fun e2 he2 => ?_
   have hlne2 := zoneLens q3 he2
   refine At.lVp 49 56 (.tmp 55) false 3 (s.zones.map encZon) j 0 true 3 (encZon e2) (.agg [.int .i64 e2.name, .int .i64 e2.off, .int .i64 e2.rule]) (mapGet he2) ?_
   refine At.z 2 ?_
   refine AW.gD Tryd_mix ?_
   refine At.a 3 ?_
   refine At.c (impl_letter_spec  e2.name ) Tryd.call20 true [] [] [] trivial ?_
   refine At.cat (t := 9) (u := 9) (d := 61) (x := .const (.string ⟨#[122, 111, 110, 101, 32]⟩)) (y := .tmp 60) (a := (⟨#[122, 111, 110, 101, 32]⟩ : ByteArray)) (b := strOf (letT e2.name)) (by kernel_rfl) (by kernel_rfl) (by kernel_rfl) (by kernel_rfl) (by simp only [cat_size, strOf_size]; omega) ?_
   refine At.cat (t := 9) (u := 9) (d := 62) (x := .tmp 61) (y := .const (.string ⟨#[32]⟩)) (a := (⟨#[122, 111, 110, 101, 32]⟩ : ByteArray) ++ (strOf (letT e2.name))) (b := (⟨#[32]⟩ : ByteArray)) (by kernel_rfl) (by kernel_rfl) (by kernel_rfl) (by kernel_rfl) (by simp only [cat_size, strOf_size]; omega) ?_
   refine At.a 2 ?_
   refine At.callQ glLasts rfl (impl_digits_spec  e2.off (by omega)) Tryd.call21 true [] [] [] (by kernel_rfl) (by kernel_rfl) (by kernel_rfl) (by kernel_rfl) (by kernel_rfl) trivial ?_
   refine At.cat (t := 9) (u := 9) (d := 66) (x := .tmp 62) (y := .tmp 65) (a := ((⟨#[122, 111, 110, 101, 32]⟩ : ByteArray) ++ (strOf (letT e2.name))) ++ (⟨#[32]⟩ : ByteArray)) (b := strOf (Lib.itoa e2.off)) (by kernel_rfl) (by kernel_rfl) (by kernel_rfl) (by kernel_rfl) (by simp only [cat_size, strOf_size]; omega) ?_
   refine At.cat (t := 9) (u := 9) (d := 67) (x := .tmp 66) (y := .const (.string ⟨#[32]⟩)) (a := (((⟨#[122, 111, 110, 101, 32]⟩ : ByteArray) ++ (strOf (letT e2.name))) ++ (⟨#[32]⟩ : ByteArray)) ++ (strOf (Lib.itoa e2.off))) (b := (⟨#[32]⟩ : ByteArray)) (by kernel_rfl) (by kernel_rfl) (by kernel_rfl) (by kernel_rfl) (by simp only [cat_size, strOf_size]; omega) ?_
   refine At.a 2 ?_
   refine At.c (impl_letter_spec  e2.rule ) Tryd.call20 true [] [] [] trivial ?_
   refine At.cat (t := 9) (u := 9) (d := 71) (x := .tmp 67) (y := .tmp 70) (a := ((((⟨#[122, 111, 110, 101, 32]⟩ : ByteArray) ++ (strOf (letT e2.name))) ++ (⟨#[32]⟩ : ByteArray)) ++ (strOf (Lib.itoa e2.off))) ++ (⟨#[32]⟩ : ByteArray)) (b := strOf (letT e2.rule)) (by kernel_rfl) (by kernel_rfl) (by kernel_rfl) (by kernel_rfl) (by simp only [cat_size, strOf_size]; omega) ?_
   refine At.cat (t := 9) (u := 9) (d := 72) (x := .tmp 71) (y := .const (.string ⟨#[10]⟩)) (a := (((((⟨#[122, 111, 110, 101, 32]⟩ : ByteArray) ++ (strOf (letT e2.name))) ++ (⟨#[32]⟩ : ByteArray)) ++ (strOf (Lib.itoa e2.off))) ++ (⟨#[32]⟩ : ByteArray)) ++ (strOf (letT e2.rule))) (b := (⟨#[10]⟩ : ByteArray)) (by kernel_rfl) (by kernel_rfl) (by kernel_rfl) (by kernel_rfl) (by simp only [cat_size, strOf_size]; omega) ?_
   refine At.cat (t := 9) (u := 9) (d := 73) (x := .tmp 57) (y := .tmp 72) (a := o2) (b := ((((((⟨#[122, 111, 110, 101, 32]⟩ : ByteArray) ++ (strOf (letT e2.name))) ++ (⟨#[32]⟩ : ByteArray)) ++ (strOf (Lib.itoa e2.off))) ++ (⟨#[32]⟩ : ByteArray)) ++ (strOf (letT e2.rule))) ++ (⟨#[10]⟩ : ByteArray)) (by kernel_rfl) (by kernel_rfl) (by kernel_rfl) (by kernel_rfl) (by simp only [cat_size, strOf_size]; omega) ?_
   refine At.zD 1 ?_
   refine AW.g ?_
   refine At.a 1 ?_
   refine At.sI 74 ((j : Int) + 1) (by omega) ?_
   refine At.z 1 ?_
   exact ⟨(j + 1, (o2 ++ (((((((⟨#[122, 111, 110, 101, 32]⟩ : ByteArray) ++ (strOf (letT e2.name))) ++ (⟨#[32]⟩ : ByteArray)) ++ (strOf (Lib.itoa e2.off))) ++ (⟨#[32]⟩ : ByteArray)) ++ (strOf (letT e2.rule))) ++ (⟨#[10]⟩ : ByteArray)))), ⟨⟨by omega, by simp only [cat_size, strOf_size]; omega⟩, zone_stepI (by assumption) hRj⟩, (by simp only; omega), Sub.o [(101, 101)] [false, true, false, false, true, false, false, false, false, false, false, false, false, false, false, false, false, false, false, false, false, false, false, false, false, false, false, false, false, false, false, false, false, false, false, false, false, false, false, false, false, false, false, false, false, false, false, false, false, false, false, true, true, true]⟩
 refine AW.exit ?_
 refine AW.seq ?_
 refine AW.r ?_
 refine At.a 3 ?_
 refine At.sL 77 encLnk s.links ?_
 refine At.z 1 ?_
 refine AW.block ?_
 refine AW.loopW (fun (x : Nat × ByteArray) => match x with | (i, o3) => Go.Sy.mk [.un, .un, .un, .un, .str o3, .un, .un, .un, .un, .un, .un, .un, .un, .un, .un, .un, .un, .un, .un, .un, .un, .un, .un, .un, .un, .un, .un, .un, .un, .un, .un, .un, .un, .un, .un, .un, .un, .un, .un, .un, .un, .un, .un, .un, .un, .un, .un, .un, .un, .un, .un, .un, .un, .un, .un, .un, .un, .un, .un, .un, .un, .un, .un, .un, .un, .un, .un, .un, .un, .un, .un, .un, .un, .un, .un, .un, .sl false 2 (s.links.map encLnk), .int .i64 (s.links.length : Int), .int .i64 (i : Int)] []) (fun (x : Nat × ByteArray) => match x with | (i, o3) => (i ≤ s.links.length ∧ o3.size ≤ 5600 + 40 * i) ∧ o3 = strOf (((([] : List UInt8) ++ s.rules.flatMap ruleT) ++ s.zones.flatMap zoneT) ++ (s.links.take i).flatMap linkT)) (fun (x : Nat × ByteArray) => match x with | (i, o3) => s.links.length - i) (0, o2) ⟨⟨by omega, by omega⟩, base_next hRj (by omega)⟩ (Sub.o [] [false, false, false, false, true, false, false, false, false, false, false, false, false, false, false, false, false, false, false, false, false, false, false, false, false, false, false, false, false, false, false, false, false, false, false, false, false, false, false, false, false, false, false, false, false, false, false, false, false, false, false, false, false, false, false, false, false, false, false, false, false, false, false, false, false, false, false, false, false, false, false, false, false, false, false, false, true, true, true]) ?_
 rintro ⟨i, o3⟩ ⟨hsi, hRi⟩
 refine AW.q 1 ?_
 refine AW.seq ?_
 refine AW.cD ((i : Int) < (s.links.length : Int)) (fun h4 => ?_) (fun h4 => ?_)
 · refine AW.skip ?_
   refine AW.seq ?_
   refine AW.block ?_
   refine AW.r ?_
   refine At.iSl 32 80 (.tmp 76) (.tmp 78) false 2 (s.links.map encLnk) .i64 (i : Int) 51 (by omega) (by simp only [List.length_map]; omega) ?_
   refine Exists.elim (gE s.links i (by omega)) fun e3 he3 => ?_
   have hlne3 := letT_len e3.name
   have hloe3 := letT_len e3.to
   refine At.lVp 51 81 (.tmp 80) false 2 (s.links.map encLnk) i 0 true 2 (encLnk e3) (.agg [.int .i64 e3.name, .int .i64 e3.to]) (mapGet he3) ?_
   refine At.z 2 ?_
   refine AW.gD Tryd_mix ?_
   refine At.a 3 ?_
   refine At.c (impl_letter_spec  e3.name ) Tryd.call20 true [] [] [] trivial ?_
   refine At.cat (t := 9) (u := 9) (d := 86) (x := .const (.string ⟨#[108, 105, 110, 107, 32]⟩)) (y := .tmp 85) (a := (⟨#[108, 105, 110, 107, 32]⟩ : ByteArray)) (b := strOf (letT e3.name)) (by kernel_rfl) (by kernel_rfl) (by kernel_rfl) (by kernel_rfl) (by simp only [cat_size, strOf_size]; omega) ?_
   refine At.cat (t := 9) (u := 9) (d := 87) (x := .tmp 86) (y := .const (.string ⟨#[32]⟩)) (a := (⟨#[108, 105, 110, 107, 32]⟩ : ByteArray) ++ (strOf (letT e3.name))) (b := (⟨#[32]⟩ : ByteArray)) (by kernel_rfl) (by kernel_rfl) (by kernel_rfl) (by kernel_rfl) (by simp only [cat_size, strOf_size]; omega) ?_
   refine At.a 2 ?_
   refine At.c (impl_letter_spec  e3.to ) Tryd.call20 true [] [] [] trivial ?_
   refine At.cat (t := 9) (u := 9) (d := 91) (x := .tmp 87) (y := .tmp 90) (a := ((⟨#[108, 105, 110, 107, 32]⟩ : ByteArray) ++ (strOf (letT e3.name))) ++ (⟨#[32]⟩ : ByteArray)) (b := strOf (letT e3.to)) (by kernel_rfl) (by kernel_rfl) (by kernel_rfl) (by kernel_rfl) (by simp only [cat_size, strOf_size]; omega) ?_
   refine At.cat (t := 9) (u := 9) (d := 92) (x := .tmp 91) (y := .const (.string ⟨#[10]⟩)) (a := (((⟨#[108, 105, 110, 107, 32]⟩ : ByteArray) ++ (strOf (letT e3.name))) ++ (⟨#[32]⟩ : ByteArray)) ++ (strOf (letT e3.to))) (b := (⟨#[10]⟩ : ByteArray)) (by kernel_rfl) (by kernel_rfl) (by kernel_rfl) (by kernel_rfl) (by simp only [cat_size, strOf_size]; omega) ?_
   refine At.cat (t := 9) (u := 9) (d := 93) (x := .tmp 82) (y := .tmp 92) (a := o3) (b := ((((⟨#[108, 105, 110, 107, 32]⟩ : ByteArray) ++ (strOf (letT e3.name))) ++ (⟨#[32]⟩ : ByteArray)) ++ (strOf (letT e3.to))) ++ (⟨#[10]⟩ : ByteArray)) (by kernel_rfl) (by kernel_rfl) (by kernel_rfl) (by kernel_rfl) (by simp only [cat_size, strOf_size]; omega) ?_
   refine At.zD 1 ?_
   refine AW.g ?_
   refine At.a 1 ?_
   refine At.sI 94 ((i : Int) + 1) (by omega) ?_
   refine At.z 1 ?_
   exact ⟨(i + 1, (o3 ++ (((((⟨#[108, 105, 110, 107, 32]⟩ : ByteArray) ++ (strOf (letT e3.name))) ++ (⟨#[32]⟩ : ByteArray)) ++ (strOf (letT e3.to))) ++ (⟨#[10]⟩ : ByteArray)))), ⟨⟨by omega, by simp only [cat_size, strOf_size]; omega⟩, link_stepI (by assumption) hRi⟩, (by simp only; omega), Sub.o [] [false, false, false, false, true, false, false, false, false, false, false, false, false, false, false, false, false, false, false, false, false, false, false, false, false, false, false, false, false, false, false, false, false, false, false, false, false, false, false, false, false, false, false, false, false, false, false, false, false, false, false, false, false, false, false, false, false, false, false, false, false, false, false, false, false, false, false, false, false, false, false, false, false, false, false, false, true, true, true]⟩
 refine AW.exit ?_
 refine AW.seq ?_
 refine AW.q 3 ?_
 refine AW.cD ((o3.size : Int) > 1000) (fun h5 => ?_) (fun h5 => ?_)
 · refine AW.q 2 ?_
   exact AW.ret (rf (k2 (K_impl_SourcePrint _ s) (show ((⟨#[]⟩ : ByteArray)) = (strOf (srcP s).1) from by rw [srcP_big (by assumption) (base_end hRi (by omega)) (by assumption)]; first | done | rfl) (show (false) = ((srcP s).2) from by rw [srcP_big (by assumption) (base_end hRi (by omega)) (by assumption)]; first | done | rfl) (KF.n [])))
 refine AW.skip ?_
 refine AW.q 3 ?_
 exact AW.ret (rf (k2 (K_impl_SourcePrint _ s) (show (o3) = (strOf (srcP s).1) from by rw [srcP_ok (by assumption) (base_end hRi (by omega)) (by assumption)]; first | done | rfl | exact base_end hRi (by omega)) (show (true) = ((srcP s).2) from by rw [srcP_ok (by assumption) (base_end hRi (by omega)) (by assumption)]; first | done | rfl | exact base_end hRi (by omega)) (KF.n [])))
theorem laws_eqOn_spec  (a : On) (b : On) : FnSpec Tryd.prog 64 [.agg [.int .i64 a.kind, .int .i64 a.day, .int .i64 a.week], .agg [.int .i64 b.kind, .int .i64 b.day, .int .i64 b.week]] [] (.bool (onEq a b)) [] := by
 refine FnSpec.of 20 Tryd.func64 rfl Tryd.ntmps64 (by simp) (AW.weakK ?_)
 refine AW.q 3 ?_
 refine AW.seq ?_
 refine AW.q 5 ?_
 refine AW.cU a.kind b.kind (fun h1 => ?_) (fun h1 => ?_)
 · refine AW.q 1 ?_
   refine AW.ret ?_
   refine ⟨_, Sub.refl _ _, ?_⟩
   refine KF.conv (fun w => .bool w) (fun w => []) (show (false) = (onEq a b) from by simp [onEq, *]) ?_
   exact KF.n []
 refine AW.skip ?_
 refine AW.seq ?_
 refine AW.q 5 ?_
 refine AW.cU a.day b.day (fun h2 => ?_) (fun h2 => ?_)
 · refine AW.q 1 ?_
   refine AW.ret ?_
   refine ⟨_, Sub.refl _ _, ?_⟩
   refine KF.conv (fun w => .bool w) (fun w => []) (show (false) = (onEq a b) from by simp [onEq, *]) ?_
   exact KF.n []
 refine AW.skip ?_
 refine AW.seq ?_
 refine AW.q 5 ?_
 refine AW.cU a.week b.week (fun h3 => ?_) (fun h3 => ?_)
 · refine AW.q 1 ?_
   refine AW.ret ?_
   refine ⟨_, Sub.refl _ _, ?_⟩
   refine KF.conv (fun w => .bool w) (fun w => []) (show (false) = (onEq a b) from by simp [onEq, *]) ?_
   exact KF.n []
 refine AW.skip ?_
 refine AW.q 1 ?_
 refine AW.ret ?_
 refine ⟨_, Sub.refl _ _, ?_⟩
 refine KF.conv (fun w => .bool w) (fun w => []) (show (true) = (onEq a b) from by simp [onEq, *]) ?_
 exact KF.n []
end Go.Proofs.YtahackghhalfeaaDoor
