/- The contracts of the functions that FnSource reaches (each: what it answers, said over values), printed by a program of this session (wip/sy/g/gen.py). -/
import Derived.Test.YtahackghhalfeaaGreatDoorFFnSource1
set_option linter.unusedVariables false
set_option linter.unusedSimpArgs false
set_option maxRecDepth 100000
set_option maxHeartbeats 4000000
namespace Go.Proofs.YtahackghhalfeaaGreatDoor
open Go Go.Sy Go.Proofs Go.Proofs.YtahackghhalfeaaGreatDoor.OnRd
theorem spec_l12Link_spec  (s : Srce) (l : Lnk) (hs : (s.rules.length ≤ 1048576 ∧ s.zones.length ≤ 1048576 ∧ s.links.length ≤ 1048576)) : FnSpec Tryz.prog 30 [.agg [.sl false 9 (s.rules.map encRul), .sl false 3 (s.zones.map encZon), .sl false 2 (s.links.map encLnk)], .agg [.int .i64 l.name, .int .i64 l.to]] [] (.bool (link1 s.zones (lastL s.links) l)) [] := by
 refine FnSpec.of 43 Tryz.func30 rfl Tryz.ntmps30 (by simp) (AW.weakK ?_)
 refine AW.q 3 ?_
 refine AW.r ?_
 refine At.a 3 ?_
 refine At.sL 8 encLnk s.links ?_
 refine At.z 1 ?_
 refine AW.seq ?_
 refine AW.gD Tryz_mix ?_
 refine At.a 2 ?_
 refine At.c (spec_l12Great_spec  l.name ) Tryz.call53 true [] [] [] trivial ?_
 refine At.a 1 ?_
 by_cases h1 : (inR l.name 65 90) = true
 · refine At.sB 12 (inR l.name 65 90) true (sayB h1) ?_
   have h1i := inR_iff.1 h1
   refine At.a 3 ?_
   by_cases h2 : (s.links.length : Int) = 0
   · refine At.sB 15 _ _ (sayET h2) ?_
     refine At.a 17 ?_
     refine At.c (spec_l12HasZone_spec  s.zones l.to (by omega)) Tryz.call55 true [] [] [] trivial ?_
     refine At.a 2 ?_
     by_cases h3 : (hasZ l.to s.zones) = true
     · refine At.sB 35 (hasZ l.to s.zones) true (sayB h3) ?_
       refine At.a 4 ?_
       refine At.c (spec_l12HasZone_spec  s.zones l.name (by omega)) Tryz.call55 true [] [] [] trivial ?_
       refine At.zD 3 ?_
       refine AW.ret ?_
       refine ⟨_, Sub.refl _ _, ?_⟩
       refine KF.conv (fun w => .bool w) (fun w => []) (show (!(hasZ l.name s.zones)) = (link1 s.zones (lastL s.links) l) from by unfold link1; first | (rw [lastL_0 (by assumption), decide_eq_true (show (0 : Int) < l.name by omega)]; simp [*]; done) | (rw [lastL_len he1]; simp [*]; done) | (simp [*]; done)) ?_
       exact KF.n []
     refine At.sB 35 (hasZ l.to s.zones) false (sayB (Bool.eq_false_iff.2 h3)) ?_
     replace h3 := Bool.eq_false_iff.2 h3
     refine At.zD 8 ?_
     refine AW.ret ?_
     refine ⟨_, Sub.refl _ _, ?_⟩
     refine KF.conv (fun w => .bool w) (fun w => []) (show (false) = (link1 s.zones (lastL s.links) l) from by unfold link1; first | (rw [lastL_0 (by assumption), decide_eq_true (show (0 : Int) < l.name by omega)]; simp [*]; done) | (rw [lastL_len he1]; simp [*]; done) | (simp [*]; done)) ?_
     exact KF.n []
   refine At.sB 15 _ _ (sayEF h2) ?_
   refine At.a 4 ?_
   refine At.sI 19 ((s.links.length : Int) - 1) (by omega) ?_
   refine At.iSl 26 20 (.tmp 17) (.tmp 19) false 2 (s.links.map encLnk) .i64 ((s.links.length : Int) - 1) 51 (by omega) (by simp only [List.length_map]; omega) ?_
   refine At.a 1 ?_
   refine Exists.elim (gE s.links (((s.links.length : Int) - 1).toNat) (by omega)) fun e1 he1 => ?_
   refine At.lVp 3 22 (.tmp 21) false 2 (s.links.map encLnk) (((s.links.length : Int) - 1).toNat) 0 false 1 (encLnk e1) (.int .i64 e1.name) (mapGet he1) ?_
   refine At.a 6 ?_
   by_cases h4 : e1.name < l.name
   · refine At.sB 28 _ _ (sayT h4) ?_
     refine At.a 4 ?_
     refine At.c (spec_l12HasZone_spec  s.zones l.to (by omega)) Tryz.call55 true [] [] [] trivial ?_
     refine At.a 2 ?_
     by_cases h5 : (hasZ l.to s.zones) = true
     · refine At.sB 35 (hasZ l.to s.zones) true (sayB h5) ?_
       refine At.a 4 ?_
       refine At.c (spec_l12HasZone_spec  s.zones l.name (by omega)) Tryz.call55 true [] [] [] trivial ?_
       refine At.zD 3 ?_
       refine AW.ret ?_
       refine ⟨_, Sub.refl _ _, ?_⟩
       refine KF.conv (fun w => .bool w) (fun w => []) (show (!(hasZ l.name s.zones)) = (link1 s.zones (lastL s.links) l) from by unfold link1; first | (rw [lastL_0 (by assumption), decide_eq_true (show (0 : Int) < l.name by omega)]; simp [*]; done) | (rw [lastL_len he1]; simp [*]; done) | (simp [*]; done)) ?_
       exact KF.n []
     refine At.sB 35 (hasZ l.to s.zones) false (sayB (Bool.eq_false_iff.2 h5)) ?_
     replace h5 := Bool.eq_false_iff.2 h5
     refine At.zD 8 ?_
     refine AW.ret ?_
     refine ⟨_, Sub.refl _ _, ?_⟩
     refine KF.conv (fun w => .bool w) (fun w => []) (show (false) = (link1 s.zones (lastL s.links) l) from by unfold link1; first | (rw [lastL_0 (by assumption), decide_eq_true (show (0 : Int) < l.name by omega)]; simp [*]; done) | (rw [lastL_len he1]; simp [*]; done) | (simp [*]; done)) ?_
     exact KF.n []
   refine At.sB 28 _ _ (sayF h4) ?_
   refine At.zD 15 ?_
   refine AW.ret ?_
   refine ⟨_, Sub.refl _ _, ?_⟩
   refine KF.conv (fun w => .bool w) (fun w => []) (show (false) = (link1 s.zones (lastL s.links) l) from by unfold link1; first | (rw [lastL_0 (by assumption), decide_eq_true (show (0 : Int) < l.name by omega)]; simp [*]; done) | (rw [lastL_len he1]; simp [*]; done) | (simp [*]; done)) ?_
   exact KF.n []
 refine At.sB 12 (inR l.name 65 90) false (sayB (Bool.eq_false_iff.2 h1)) ?_
 replace h1 := Bool.eq_false_iff.2 h1
 refine At.zD 31 ?_
 refine AW.ret ?_
 refine ⟨_, Sub.refl _ _, ?_⟩
 refine KF.conv (fun w => .bool w) (fun w => []) (show (false) = (link1 s.zones (lastL s.links) l) from by unfold link1; first | (rw [lastL_0 (by assumption), decide_eq_true (show (0 : Int) < l.name by omega)]; simp [*]; done) | (rw [lastL_len he1]; simp [*]; done) | (simp [*]; done)) ?_
 exact KF.n []
theorem spec_SourceOk_spec  (s : Srce) (hs : (s.rules.length ≤ 1048576 ∧ s.zones.length ≤ 1048576 ∧ s.links.length ≤ 1048576)) : FnSpec Tryz.prog 9 [.agg [.sl false 9 (s.rules.map encRul), .sl false 3 (s.zones.map encZon), .sl false 2 (s.links.map encLnk)]] [] (.bool (srcOk s)) [] := by
 refine FnSpec.of 82 Tryz.func9 rfl Tryz.ntmps9 (by simp) (AW.weakK ?_)
 refine AW.q 2 ?_
 refine AW.seq ?_
 refine AW.r ?_
 refine At.a 3 ?_
 refine At.sL 9 encRul s.rules ?_
 refine At.a 2 ?_
 by_cases h1 : (s.rules.length : Int) > 20
 · refine At.sB 11 _ _ (sayT h1) ?_
   refine At.z 11 ?_
   refine AW.cond true (by kernel_rfl) (fun _ => ?_) (fun h => by cases h)
   refine AW.q 1 ?_
   refine AW.ret ?_
   refine ⟨_, Sub.refl _ _, ?_⟩
   refine KF.conv (fun w => .bool w) (fun w => []) (show (false) = (srcOk s) from by exact (srcOk_r20 (by assumption)).symm) ?_
   exact KF.n []
 refine At.sB 11 _ _ (sayF h1) ?_
 refine At.a 3 ?_
 refine At.sL 14 encZon s.zones ?_
 refine At.a 3 ?_
 by_cases h2 : (s.zones.length : Int) > 26
 · refine At.sB 17 _ _ (sayT h2) ?_
   refine At.z 5 ?_
   refine AW.cond true (by kernel_rfl) (fun _ => ?_) (fun h => by cases h)
   refine AW.q 1 ?_
   refine AW.ret ?_
   refine ⟨_, Sub.refl _ _, ?_⟩
   refine KF.conv (fun w => .bool w) (fun w => []) (show (false) = (srcOk s) from by exact (srcOk_z26 (by assumption)).symm) ?_
   exact KF.n []
 refine At.sB 17 _ _ (sayF h2) ?_
 refine At.a 3 ?_
 refine At.sL 20 encLnk s.links ?_
 refine At.z 2 ?_
 refine AW.cD ((s.links.length : Int) > 26) (fun h3 => ?_) (fun h3 => ?_)
 · refine AW.q 1 ?_
   refine AW.ret ?_
   refine ⟨_, Sub.refl _ _, ?_⟩
   refine KF.conv (fun w => .bool w) (fun w => []) (show (false) = (srcOk s) from by exact (srcOk_l26 (by assumption)).symm) ?_
   exact KF.n []
 refine AW.skip ?_
 refine AW.q 5 ?_
 refine AW.seq ?_
 refine AW.seq ?_
 refine AW.weak (Sub.nsl 103 1 28 3 [.sl false 9 (s.rules.map encRul), .nil, .nil] (by kernel_rfl)) ?_
 refine AW.weak (Sub.nsl 103 2 28 2 [.sl false 9 (s.rules.map encRul), .sl false 3 [], .nil] (by kernel_rfl)) ?_
 refine AW.gq 1 ?_
 refine AW.block ?_
 refine AW.loopW (fun (k : Nat) => Go.Sy.mk [.un, .ptr 101 0 0, .un, .ptr 103 0 0, .int .i64 (k : Int)] [(101, .box 28 [.sl false 9 (s.rules.map encRul), .sl false 3 (s.zones.map encZon), .sl false 2 (s.links.map encLnk)]), (103, .box 28 [.sl false 9 (s.rules.map encRul), .sl false 3 [], .sl false 2 []])]) (fun (k : Nat) => k ≤ s.rules.length ∧ rulesOk s.rules = rulesOk (s.rules.drop k)) (fun (k : Nat) => s.rules.length - k) 0 ⟨by omega, by rw [List.drop_zero]⟩ (Sub.o [(101, 101), (103, 103)] [false, true, false, true, true]) ?_
 rintro k ⟨hk, hR1⟩
 refine AW.seq ?_
 refine AW.r ?_
 refine At.a 4 ?_
 refine At.sL 29 encRul s.rules ?_
 refine At.z 1 ?_
 refine AW.cD ((k : Int) < (s.rules.length : Int)) (fun h4 => ?_) (fun h4 => ?_)
 · refine AW.skip ?_
   refine AW.seq ?_
   refine AW.block ?_
   refine AW.r ?_
   refine At.a 3 ?_
   refine At.iSl 24 36 (.tmp 34) (.tmp 35) false 9 (s.rules.map encRul) .i64 (k : Int) 43 (by omega) (by simp only [List.length_map]; omega) ?_
   refine Exists.elim (gE s.rules k (by omega)) fun e1 he1 => ?_
   refine At.lVp 43 37 (.tmp 36) false 9 (s.rules.map encRul) k 0 true 9 (encRul e1) (.agg [.int .i64 e1.name, .int .i64 e1.from_, .int .i64 e1.to, .int .i64 e1.month, .int .i64 e1.on.kind, .int .i64 e1.on.day, .int .i64 e1.on.week, .int .i64 e1.at_, .int .i64 e1.save]) (mapGet he1) ?_
   refine At.c (spec_l12RuleOk_spec  e1 ) Tryz.call28 true [] [] [] trivial ?_
   refine At.z 1 ?_
   refine AW.cNB (ruleOk e1) (fun h5 => ?_) (fun h5 => ?_)
   · refine AW.q 1 ?_
     refine AW.ret ?_
     refine ⟨_, Sub.refl _ _, ?_⟩
     refine KF.conv (fun w => .bool w) (fun w => []) (show (false) = (srcOk s) from by exact (srcOk_rb (hR1.trans (rules_bad (by assumption) (by assumption)))).symm) ?_
     exact KF.n []
   refine AW.skip ?_
   refine AW.g ?_
   refine At.a 2 ?_
   refine At.sI 32 ((k : Int) + 1) (by omega) ?_
   refine At.z 1 ?_
   exact ⟨k + 1, ⟨by omega, hR1.trans (rules_step he1 (by assumption))⟩, (by omega), Sub.o [(101, 101), (103, 103)] [false, true, false, true, true]⟩
 refine AW.exit ?_
 refine AW.seq ?_
 refine AW.q 1 ?_
 refine AW.block ?_
 refine AW.loopW (fun (x : Nat × List Zon) => match x with | (j, zs) => Go.Sy.mk [.un, .ptr 101 0 0, .un, .ptr 103 0 0, .un, .int .i64 (j : Int)] [(101, .box 28 [.sl false 9 (s.rules.map encRul), .sl false 3 (s.zones.map encZon), .sl false 2 (s.links.map encLnk)]), (103, .box 28 [.sl false 9 (s.rules.map encRul), .sl false 3 (zs.map encZon), .sl false 2 []])]) (fun (x : Nat × List Zon) => match x with | (j, zs) => (j ≤ s.zones.length ∧ zs.length ≤ j) ∧ zs = s.zones.take j ∧ zonesOk s.rules 0 s.zones = zonesOk s.rules (lastZ (s.zones.take j)) (s.zones.drop j)) (fun (x : Nat × List Zon) => match x with | (j, zs) => s.zones.length - j) (0, []) ⟨by simp, rfl, by rw [List.drop_zero]; rfl⟩ (Sub.o [(101, 101), (103, 103)] [false, true, false, true, false, true]) ?_
 rintro ⟨j, zs⟩ ⟨hj, hZ, hR2⟩
 refine AW.seq ?_
 refine AW.r ?_
 refine At.a 4 ?_
 refine At.sL 43 encZon s.zones ?_
 refine At.z 1 ?_
 refine AW.cD ((j : Int) < (s.zones.length : Int)) (fun h6 => ?_) (fun h6 => ?_)
 · refine AW.skip ?_
   refine AW.seq ?_
   refine AW.block ?_
   refine AW.seq ?_
   refine AW.seq ?_
   refine AW.gD Tryz_mix ?_
   refine At.a 4 ?_
   refine At.iSl 25 51 (.tmp 49) (.tmp 50) false 3 (s.zones.map encZon) .i64 (j : Int) 49 (by omega) (by simp only [List.length_map]; omega) ?_
   refine Exists.elim (gE s.zones j (by omega)) fun e2 he2 => ?_
   refine At.lVp 49 52 (.tmp 51) false 3 (s.zones.map encZon) j 0 true 3 (encZon e2) (.agg [.int .i64 e2.name, .int .i64 e2.off, .int .i64 e2.rule]) (mapGet he2) ?_
   refine At.c (spec_l12Zone_spec  (⟨s.rules, zs, []⟩ : Srce) e2 (by dsimp only; first | omega | (simp only [List.length_nil, List.length_take]; omega))) Tryz.call29 true [] [] [] trivial ?_
   refine At.zD 1 ?_
   refine AW.cNB (zone1 s.rules (lastZ zs) e2) (fun h7 => ?_) (fun h7 => ?_)
   · refine AW.q 1 ?_
     refine AW.ret ?_
     refine ⟨_, Sub.refl _ _, ?_⟩
     refine KF.conv (fun w => .bool w) (fun w => []) (show (false) = (srcOk s) from by exact (srcOk_zb (hR2.trans (by rw [hZ] at *; exact zones_bad (by assumption) (by assumption)))).symm) ?_
     exact KF.n []
   refine AW.skip ?_
   refine AW.g ?_
   refine At.a 4 ?_
   refine At.sI 58 ((j : Int) + 1) (by omega) ?_
   refine At.sliceSl (t := 25) (d := 59) (e := 49) (es := 3) (x := .tmp 56) (lx := none) (hx := some (.tmp 58)) (p := false) (xs := (s.zones.map encZon)) (vl := .un) (vh := .int .i64 ((j : Int) + 1)) 0 (((j : Int) + 1).toNat) ((s.zones.take (((j : Int) + 1).toNat)).map encZon) (by kernel_rfl) (by kernel_rfl) (by kernel_rfl) (by kernel_rfl) (.inl ⟨rfl, rfl⟩) (.inr ⟨_, _, rfl, sayNat (by omega)⟩) (by omega) (by simp only [List.length_map]; omega) (by simp [List.map_take, List.map_drop]) ?_
   refine At.z 2 ?_
   refine AW.g ?_
   refine At.a 2 ?_
   refine At.sI 46 ((j : Int) + 1) (by omega) ?_
   refine At.z 1 ?_
   exact ⟨(j + 1, (s.zones.take (((j : Int) + 1).toNat))), ⟨(by simp only [List.length_take]; omega), by rw [show ((j : Int) + 1).toNat = j + 1 from by omega], hR2.trans (by rw [hZ] at *; exact zones_step (by assumption) (by assumption))⟩, (by simp only; omega), Sub.o [(101, 101), (103, 103)] [false, true, false, true, false, true]⟩
 refine AW.exit ?_
 refine AW.seq ?_
 refine AW.q 1 ?_
 refine AW.block ?_
 refine AW.loopW (fun (x : Nat × List Lnk) => match x with | (i, ls) => Go.Sy.mk [.un, .ptr 101 0 0, .un, .ptr 103 0 0, .un, .un, .int .i64 (i : Int)] [(101, .box 28 [.sl false 9 (s.rules.map encRul), .sl false 3 (s.zones.map encZon), .sl false 2 (s.links.map encLnk)]), (103, .box 28 [.sl false 9 (s.rules.map encRul), .sl false 3 (zs.map encZon), .sl false 2 (ls.map encLnk)])]) (fun (x : Nat × List Lnk) => match x with | (i, ls) => (i ≤ s.links.length ∧ ls.length ≤ i) ∧ ls = s.links.take i ∧ linksOk s.zones 0 s.links = linksOk s.zones (lastL (s.links.take i)) (s.links.drop i)) (fun (x : Nat × List Lnk) => match x with | (i, ls) => s.links.length - i) (0, []) ⟨by simp, rfl, by rw [List.drop_zero]; rfl⟩ (Sub.o [(101, 101), (103, 103)] [false, true, false, true, false, false, true]) ?_
 rintro ⟨i, ls⟩ ⟨hi, hL, hR3⟩
 have hY : zs = s.zones := by rw [hZ, List.take_of_length_le (by omega)]
 refine AW.seq ?_
 refine AW.r ?_
 refine At.a 4 ?_
 refine At.sL 64 encLnk s.links ?_
 refine At.z 1 ?_
 refine AW.cD ((i : Int) < (s.links.length : Int)) (fun h8 => ?_) (fun h8 => ?_)
 · refine AW.skip ?_
   refine AW.seq ?_
   refine AW.block ?_
   refine AW.seq ?_
   refine AW.seq ?_
   refine AW.gD Tryz_mix ?_
   refine At.a 4 ?_
   refine At.iSl 26 72 (.tmp 70) (.tmp 71) false 2 (s.links.map encLnk) .i64 (i : Int) 51 (by omega) (by simp only [List.length_map]; omega) ?_
   refine Exists.elim (gE s.links i (by omega)) fun e3 he3 => ?_
   refine At.lVp 51 73 (.tmp 72) false 2 (s.links.map encLnk) i 0 true 2 (encLnk e3) (.agg [.int .i64 e3.name, .int .i64 e3.to]) (mapGet he3) ?_
   refine At.c (spec_l12Link_spec  (⟨s.rules, zs, ls⟩ : Srce) e3 (by dsimp only; first | omega | (simp only [List.length_nil, List.length_take]; omega))) Tryz.call30 true [] [] [] trivial ?_
   refine At.zD 1 ?_
   refine AW.cNB (link1 zs (lastL ls) e3) (fun h9 => ?_) (fun h9 => ?_)
   · refine AW.q 1 ?_
     refine AW.ret ?_
     refine ⟨_, Sub.refl _ _, ?_⟩
     refine KF.conv (fun w => .bool w) (fun w => []) (show (false) = (srcOk s) from by exact (srcOk_lb (hR3.trans (by rw [hY, hL] at *; exact links_bad (by assumption) (by assumption)))).symm) ?_
     exact KF.n []
   refine AW.skip ?_
   refine AW.g ?_
   refine At.a 4 ?_
   refine At.sI 79 ((i : Int) + 1) (by omega) ?_
   refine At.sliceSl (t := 26) (d := 80) (e := 51) (es := 2) (x := .tmp 77) (lx := none) (hx := some (.tmp 79)) (p := false) (xs := (s.links.map encLnk)) (vl := .un) (vh := .int .i64 ((i : Int) + 1)) 0 (((i : Int) + 1).toNat) ((s.links.take (((i : Int) + 1).toNat)).map encLnk) (by kernel_rfl) (by kernel_rfl) (by kernel_rfl) (by kernel_rfl) (.inl ⟨rfl, rfl⟩) (.inr ⟨_, _, rfl, sayNat (by omega)⟩) (by omega) (by simp only [List.length_map]; omega) (by simp [List.map_take, List.map_drop]) ?_
   refine At.z 2 ?_
   refine AW.g ?_
   refine At.a 2 ?_
   refine At.sI 67 ((i : Int) + 1) (by omega) ?_
   refine At.z 1 ?_
   exact ⟨(i + 1, (s.links.take (((i : Int) + 1).toNat))), ⟨(by simp only [List.length_take]; omega), by rw [show ((i : Int) + 1).toNat = i + 1 from by omega], hR3.trans (by rw [hY, hL] at *; exact links_step (by assumption) (by assumption))⟩, (by simp only; omega), Sub.o [(101, 101), (103, 103)] [false, true, false, true, false, false, true]⟩
 refine AW.exit ?_
 refine AW.q 1 ?_
 refine AW.ret ?_
 refine ⟨_, Sub.refl _ _, ?_⟩
 refine KF.conv (fun w => .bool w) (fun w => []) (show (true) = (srcOk s) from by exact (srcOk_all (by assumption) (hR1.trans (rules_end (by omega))) (hR2.trans (zones_end (by omega) _)) (hR3.trans (links_end (by omega) _))).symm) ?_
 exact KF.n []
theorem spec_l12Letter_spec  (n : Int) : FnSpec Tryz.prog 20 [.int .i64 n] [] (.str (strOf (letT n))) [] := by
 refine FnSpec.of 9 Tryz.func20 rfl Tryz.ntmps20 (by simp) (AW.weakK ?_)
 refine AW.q 1 ?_
 refine AW.seq ?_
 refine AW.q 2 ?_
 refine AW.cE n (0 : Int) (fun h1 => ?_) (fun h1 => ?_)
 · refine AW.q 1 ?_
   refine AW.ret ?_
   refine ⟨_, Sub.refl _ _, ?_⟩
   refine KF.conv (fun w => .str w) (fun w => []) (show ((⟨#[45]⟩ : ByteArray)) = (strOf (letT n)) from by unfold letT; first | (rw [if_pos (by assumption)]; rfl) | (rw [if_neg (by assumption)]; done)) ?_
   exact KF.n []
 refine AW.skip ?_
 refine AW.r ?_
 refine At.a 1 ?_
 refine At.conv (s := 3) (t := 5) (d := 6) (x := .tmp 5) (kd := .i64) (kd' := .u8) (a := n) (.int .u8 ((u8Of n).toNat : Int)) (by kernel_rfl) (by kernel_rfl) (by kernel_rfl) (by kernel_rfl) (sayByte _) ?_
 refine At.ll 7 5 1 107 (0, 6) (([(u8Of n)]).map encU8) ?_
 refine At.b2s (s := 22) (t := 9) (e := 5) (d := 8) (x := .tmp 7) (T := .ref 107) ([(u8Of n)]) [] (by kernel_rfl) (by kernel_rfl) (by kernel_rfl) (by kernel_rfl) ⟨by kernel_rfl, .inl ⟨rfl, (allP_encU8 _)⟩⟩ ?_
 refine At.z 1 ?_
 refine AW.ret ?_
 refine ⟨_, Sub.refl _ _, ?_⟩
 refine KF.conv (fun w => .str w) (fun w => []) (show (strOf ([(u8Of n)])) = (strOf (letT n)) from by unfold letT; first | (rw [if_pos (by assumption)]; rfl) | (rw [if_neg (by assumption)]; done)) ?_
 exact KF.n []
theorem spec_l12Num_spec  (x : Int) (hx : 0 - 100000 ≤ x ∧ x ≤ 100000) : FnSpec Tryz.prog 21 [.int .i64 x] [] (.str (strOf (Lib.itoa x))) [] := by
 have hb0 : (⟨#[45]⟩ : ByteArray).size = 1 := rfl
 refine FnSpec.of 26 Tryz.func21 rfl Tryz.ntmps21 (by simp) (AW.weakK ?_)
 refine AW.q 1 ?_
 refine AW.seq ?_
 refine AW.q 2 ?_
 refine AW.cD (x < 0) (fun h1 => ?_) (fun h1 => ?_)
 · refine AW.r ?_
   refine At.a 2 ?_
   refine At.sI 6 (0 - x) (by omega) ?_
   refine At.c (spec_l12Num_spec  (0 - x) (by omega)) Tryz.call21 true [] [] [] trivial ?_
   refine At.cat (t := 9) (u := 9) (d := 8) (x := .const (.string ⟨#[45]⟩)) (y := .tmp 7) (a := (⟨#[45]⟩ : ByteArray)) (b := strOf (Lib.itoa (0 - x))) (by kernel_rfl) (by kernel_rfl) (by kernel_rfl) (by kernel_rfl) (by simp only [cat_size, strOf_size, List.length_cons, List.length_nil]; first | omega | (have := Lib.itoa_length_le (0 - x) (by omega) (by omega); omega) | (have := Lib.itoa_length_le (x / 10) (by omega) (by omega); omega)) ?_
   refine At.z 1 ?_
   refine AW.ret ?_
   refine ⟨_, Sub.refl _ _, ?_⟩
   refine KF.conv (fun w => .str w) (fun w => []) (show ((⟨#[45]⟩ : ByteArray) ++ (strOf (Lib.itoa (0 - x)))) = (strOf (Lib.itoa x)) from by exact num_neg (by omega)) ?_
   exact KF.n []
 refine AW.skip ?_
 refine AW.seq ?_
 refine AW.q 2 ?_
 refine AW.cD (x < 10) (fun h2 => ?_) (fun h2 => ?_)
 · refine AW.r ?_
   refine At.a 2 ?_
   refine At.sI 12 (48 + x) (by omega) ?_
   refine At.conv (s := 3) (t := 5) (d := 13) (x := .tmp 12) (kd := .i64) (kd' := .u8) (a := 48 + x) (.int .u8 ((u8Of (48 + x)).toNat : Int)) (by kernel_rfl) (by kernel_rfl) (by kernel_rfl) (by kernel_rfl) (sayByte _) ?_
   refine At.ll 14 5 1 114 (0, 6) (([(u8Of (48 + x))]).map encU8) ?_
   refine At.b2s (s := 22) (t := 9) (e := 5) (d := 15) (x := .tmp 14) (T := .ref 114) ([(u8Of (48 + x))]) [] (by kernel_rfl) (by kernel_rfl) (by kernel_rfl) (by kernel_rfl) ⟨by kernel_rfl, .inl ⟨rfl, (allP_encU8 _)⟩⟩ ?_
   refine At.z 1 ?_
   refine AW.ret ?_
   refine ⟨_, Sub.refl _ _, ?_⟩
   refine KF.conv (fun w => .str w) (fun w => []) (show (strOf ([(u8Of (48 + x))])) = (strOf (Lib.itoa x)) from by exact num_one (by omega) (by omega)) ?_
   exact KF.n []
 refine AW.skip ?_
 refine AW.seq ?_
 refine AW.gD Tryz_mix ?_
 refine At.a 1 ?_
 refine At.div (t := 3) (u := 3) (d := 17) (op := .quo) (x := .tmp 16) (y := .const (.int .i64 10)) (kd := .i64) (a := x) (b := 10) (by kernel_rfl) (by kernel_rfl) (by kernel_rfl) (by kernel_rfl) (by omega) (.int .i64 (IntKind.i64.wrap (x.tdiv 10))) (.inl ⟨rfl, rfl⟩) ?_
 refine At.say 17 (.int .i64 (IntKind.i64.wrap (x.tdiv 10))) (.int .i64 (x / 10)) (by kernel_rfl) (sayQuo (by omega) (by omega) (by omega)) ?_
 refine At.c (spec_l12Num_spec  (x / 10) (by omega)) Tryz.call21 true [] [] [] trivial ?_
 refine At.a 1 ?_
 refine At.div (t := 3) (u := 3) (d := 20) (op := .rem) (x := .tmp 19) (y := .const (.int .i64 10)) (kd := .i64) (a := x) (b := 10) (by kernel_rfl) (by kernel_rfl) (by kernel_rfl) (by kernel_rfl) (by omega) (.int .i64 (x.tmod 10)) (.inr ⟨rfl, rfl⟩) ?_
 refine At.say 20 (.int .i64 (x.tmod 10)) (.int .i64 (x % 10)) (by kernel_rfl) (sayRem (by omega)) ?_
 refine At.a 1 ?_
 refine At.sI 21 (48 + (x % 10)) (by omega) ?_
 refine At.conv (s := 3) (t := 5) (d := 22) (x := .tmp 21) (kd := .i64) (kd' := .u8) (a := 48 + (x % 10)) (.int .u8 ((u8Of (48 + (x % 10))).toNat : Int)) (by kernel_rfl) (by kernel_rfl) (by kernel_rfl) (by kernel_rfl) (sayByte _) ?_
 refine At.ll 23 5 1 123 (0, 6) (([(u8Of (48 + (x % 10)))]).map encU8) ?_
 refine At.b2s (s := 22) (t := 9) (e := 5) (d := 24) (x := .tmp 23) (T := .ref 123) ([(u8Of (48 + (x % 10)))]) [] (by kernel_rfl) (by kernel_rfl) (by kernel_rfl) (by kernel_rfl) ⟨by kernel_rfl, .inl ⟨rfl, (allP_encU8 _)⟩⟩ ?_
 refine At.cat (t := 9) (u := 9) (d := 25) (x := .tmp 18) (y := .tmp 24) (a := strOf (Lib.itoa (x / 10))) (b := strOf ([(u8Of (48 + (x % 10)))])) (by kernel_rfl) (by kernel_rfl) (by kernel_rfl) (by kernel_rfl) (by simp only [cat_size, strOf_size, List.length_cons, List.length_nil]; first | omega | (have := Lib.itoa_length_le (0 - x) (by omega) (by omega); omega) | (have := Lib.itoa_length_le (x / 10) (by omega) (by omega); omega)) ?_
 refine At.zD 1 ?_
 refine AW.ret ?_
 refine ⟨_, Sub.refl _ _, ?_⟩
 refine KF.conv (fun w => .str w) (fun w => []) (show ((strOf (Lib.itoa (x / 10))) ++ (strOf ([(u8Of (48 + (x % 10)))]))) = (strOf (Lib.itoa x)) from by exact num_big (by omega) (by omega)) ?_
 exact KF.n []
termination_by (2 * x.natAbs + (1 - x).toNat)
decreasing_by all_goals omega
theorem spec_OnText_spec  (o : On) : FnSpec Tryz.prog 22 [.agg [.int .i64 o.kind, .int .i64 o.day, .int .i64 o.week]] [] (.str (strOf (txO o))) [] := by
 have hl1 : (⟨#[108, 97, 115, 116]⟩ : ByteArray).size = 4 := rfl
 have hl2 : (⟨#[62, 61]⟩ : ByteArray).size = 2 := rfl
 refine FnSpec.of 30 Tryz.func22 rfl Tryz.ntmps22 (by simp) (AW.weakK ?_)
 refine AW.q 2 ?_
 refine AW.seq ?_
 refine AW.block ?_
 refine AW.r ?_
 refine At.a 1 ?_
 refine At.c (spec_OnOk_spec  o ) Tryz.call42 true [] [] [] trivial ?_
 refine At.z 2 ?_
 refine AW.cNB (onOk o) (fun h1 => ?_) (fun h1 => ?_)
 · refine AW.q 1 ?_
   refine AW.ret ?_
   refine ⟨_, Sub.refl _ _, ?_⟩
   refine KF.conv (fun w => .str w) (fun w => []) (show ((⟨#[]⟩ : ByteArray)) = (strOf (txO o)) from by exact tx_no (by assumption)) ?_
   exact KF.n []
 have hnn := onOk_nums h1
 refine AW.q 4 ?_
 refine AW.cE o.kind (1 : Int) (fun h2 => ?_) (fun h2 => ?_)
 · refine AW.r ?_
   refine At.a 2 ?_
   refine At.c (spec_l12Num_spec  o.day (by omega)) Tryz.call21 true [] [] [] trivial ?_
   refine At.z 1 ?_
   refine AW.ret ?_
   refine ⟨_, Sub.refl _ _, ?_⟩
   refine KF.conv (fun w => .str w) (fun w => []) (show (strOf (Lib.itoa o.day)) = (strOf (txO o)) from by exact tx_1 (by assumption) (by assumption)) ?_
   exact KF.n []
 refine AW.q 4 ?_
 refine AW.cE o.kind (2 : Int) (fun h3 => ?_) (fun h3 => ?_)
 · refine AW.r ?_
   refine At.a 2 ?_
   refine At.c (spec_l12Num_spec  o.week (by omega)) Tryz.call21 true [] [] [] trivial ?_
   refine At.cat (t := 9) (u := 9) (d := 21) (x := .const (.string ⟨#[108, 97, 115, 116]⟩)) (y := .tmp 20) (a := (⟨#[108, 97, 115, 116]⟩ : ByteArray)) (b := strOf (Lib.itoa o.week)) (by kernel_rfl) (by kernel_rfl) (by kernel_rfl) (by kernel_rfl) (by simp only [cat_size, strOf_size]; have hid := Lib.itoa_length_le o.day (by omega) (by omega); have hiw := Lib.itoa_length_le o.week (by omega) (by omega); omega) ?_
   refine At.z 1 ?_
   refine AW.ret ?_
   refine ⟨_, Sub.refl _ _, ?_⟩
   refine KF.conv (fun w => .str w) (fun w => []) (show ((⟨#[108, 97, 115, 116]⟩ : ByteArray) ++ (strOf (Lib.itoa o.week))) = (strOf (txO o)) from by exact tx_2 (by assumption) (by assumption) (by assumption)) ?_
   exact KF.n []
 refine AW.skip ?_
 refine AW.seq ?_
 refine AW.gD Tryz_mix ?_
 refine At.a 2 ?_
 refine At.c (spec_l12Num_spec  o.week (by omega)) Tryz.call21 true [] [] [] trivial ?_
 refine At.cat (t := 9) (u := 9) (d := 25) (x := .tmp 24) (y := .const (.string ⟨#[62, 61]⟩)) (a := strOf (Lib.itoa o.week)) (b := (⟨#[62, 61]⟩ : ByteArray)) (by kernel_rfl) (by kernel_rfl) (by kernel_rfl) (by kernel_rfl) (by simp only [cat_size, strOf_size]; have hid := Lib.itoa_length_le o.day (by omega) (by omega); have hiw := Lib.itoa_length_le o.week (by omega) (by omega); omega) ?_
 refine At.a 2 ?_
 refine At.c (spec_l12Num_spec  o.day (by omega)) Tryz.call21 true [] [] [] trivial ?_
 refine At.cat (t := 9) (u := 9) (d := 29) (x := .tmp 25) (y := .tmp 28) (a := (strOf (Lib.itoa o.week)) ++ (⟨#[62, 61]⟩ : ByteArray)) (b := strOf (Lib.itoa o.day)) (by kernel_rfl) (by kernel_rfl) (by kernel_rfl) (by kernel_rfl) (by simp only [cat_size, strOf_size]; have hid := Lib.itoa_length_le o.day (by omega) (by omega); have hiw := Lib.itoa_length_le o.week (by omega) (by omega); omega) ?_
 refine At.zD 1 ?_
 refine AW.ret ?_
 refine ⟨_, Sub.refl _ _, ?_⟩
 refine KF.conv (fun w => .str w) (fun w => []) (show (((strOf (Lib.itoa o.week)) ++ (⟨#[62, 61]⟩ : ByteArray)) ++ (strOf (Lib.itoa o.day))) = (strOf (txO o)) from by exact tx_3 (by assumption) (by assumption) (by assumption)) ?_
 exact KF.n []
def K_spec_SourcePrint (rs : List ResultVar) (s : Srce) (w0_ : ByteArray) (w1_ : Bool) : Exit → Sg → Prop := KF Tryz.prog 0 rs (.tup [.str w0_, .bool w1_]) []
theorem spec_SourcePrint_spec  (s : Srce) (hs : (s.rules.length ≤ 1048576 ∧ s.zones.length ≤ 1048576 ∧ s.links.length ≤ 1048576)) : FnSpec Tryz.prog 7 [.agg [.sl false 9 (s.rules.map encRul), .sl false 3 (s.zones.map encZon), .sl false 2 (s.links.map encLnk)]] [] (.tup [.str (strOf (srcP s).1), .bool ((srcP s).2)]) [] := by
 have hb0 : (⟨#[45]⟩ : ByteArray).size = 1 := rfl
 have hb1 : (⟨#[32]⟩ : ByteArray).size = 1 := rfl
 have hb2 : (⟨#[10]⟩ : ByteArray).size = 1 := rfl
 have hb3 : (⟨#[114, 117, 108, 101, 32]⟩ : ByteArray).size = 5 := rfl
 have hb4 : (⟨#[122, 111, 110, 101, 32]⟩ : ByteArray).size = 5 := rfl
 have hb5 : (⟨#[108, 105, 110, 107, 32]⟩ : ByteArray).size = 5 := rfl
 refine FnSpec.of 122 Tryz.func7 rfl Tryz.ntmps7 (by simp) (AW.weakK ?_)
 refine AW.q 3 ?_
 refine AW.seq ?_
 refine AW.r ?_
 refine At.a 1 ?_
 refine At.c (spec_SourceOk_spec  s (by omega)) Tryz.call9 true [] [] [] trivial ?_
 refine At.z 1 ?_
 refine AW.cNB (srcOk s) (fun h1 => ?_) (fun h1 => ?_)
 · refine AW.q 2 ?_
   exact AW.ret (rf (k2 (K_spec_SourcePrint _ s) (show ((⟨#[]⟩ : ByteArray)) = (strOf (srcP s).1) from by rw [srcP_no (by assumption)]; first | done | rfl) (show (false) = ((srcP s).2) from by rw [srcP_no (by assumption)]; first | done | rfl) (KF.n [])))
 obtain ⟨q1, q2, q3, q4⟩ := srcOk_iff.1 h1
 have q5 := zones_few q3
 have q6 := links_few q4
 refine AW.skip ?_
 refine AW.q 1 ?_
 refine AW.seq ?_
 refine AW.q 1 ?_
 refine AW.block ?_
 refine AW.loopW (fun (x : Nat × ByteArray) => match x with | (k, o) => Go.Sy.mk [.un, .ptr 101 0 0, .un, .un, .str o, .int .i64 (k : Int)] [(101, .box 28 [.sl false 9 (s.rules.map encRul), .sl false 3 (s.zones.map encZon), .sl false 2 (s.links.map encLnk)])]) (fun (x : Nat × ByteArray) => match x with | (k, o) => (k ≤ s.rules.length ∧ o.size ≤ 0 + 200 * k) ∧ o = strOf (([] : List UInt8) ++ (s.rules.take k).flatMap ruleT)) (fun (x : Nat × ByteArray) => match x with | (k, o) => s.rules.length - k) (0, ⟨#[]⟩) ⟨⟨by omega, by decide⟩, rfl⟩ (Sub.o [(101, 101)] [false, true, false, false, true, true]) ?_
 rintro ⟨k, o⟩ ⟨hsk, hRk⟩
 refine AW.seq ?_
 refine AW.r ?_
 refine At.a 4 ?_
 refine At.sL 16 encRul s.rules ?_
 refine At.z 1 ?_
 refine AW.cD ((k : Int) < (s.rules.length : Int)) (fun h2 => ?_) (fun h2 => ?_)
 · refine AW.skip ?_
   refine AW.seq ?_
   refine AW.block ?_
   refine AW.r ?_
   refine At.a 3 ?_
   refine At.iSl 24 23 (.tmp 21) (.tmp 22) false 9 (s.rules.map encRul) .i64 (k : Int) 43 (by omega) (by simp only [List.length_map]; omega) ?_
   refine Exists.elim (gE s.rules k (by omega)) fun e1 he1 => ?_
   have hoke1 := rulesOk_mem q2 he1
   have hlne1 := ruleLens hoke1
   have hnue1 := ruleNums hoke1
   have hnne1 := onOk_nums hnue1.2.2.2.1
   refine At.lVp 43 24 (.tmp 23) false 9 (s.rules.map encRul) k 0 true 9 (encRul e1) (.agg [.int .i64 e1.name, .int .i64 e1.from_, .int .i64 e1.to, .int .i64 e1.month, .int .i64 e1.on.kind, .int .i64 e1.on.day, .int .i64 e1.on.week, .int .i64 e1.at_, .int .i64 e1.save]) (mapGet he1) ?_
   refine At.z 2 ?_
   refine AW.gD Tryz_mix ?_
   refine At.a 1 ?_
   refine At.cat (t := 9) (u := 9) (d := 26) (x := .tmp 25) (y := .const (.string ⟨#[114, 117, 108, 101, 32]⟩)) (a := o) (b := (⟨#[114, 117, 108, 101, 32]⟩ : ByteArray)) (by kernel_rfl) (by kernel_rfl) (by kernel_rfl) (by kernel_rfl) (by omega) ?_
   refine At.a 2 ?_
   refine At.c (spec_l12Letter_spec  e1.name ) Tryz.call20 true [] [] [] trivial ?_
   refine At.cat (t := 9) (u := 9) (d := 30) (x := .tmp 26) (y := .tmp 29) (a := o ++ (⟨#[114, 117, 108, 101, 32]⟩ : ByteArray)) (b := strOf (letT e1.name)) (by kernel_rfl) (by kernel_rfl) (by kernel_rfl) (by kernel_rfl) (by simp only [cat_size, strOf_size]; omega) ?_
   refine At.cat (t := 9) (u := 9) (d := 31) (x := .tmp 30) (y := .const (.string ⟨#[32]⟩)) (a := (o ++ (⟨#[114, 117, 108, 101, 32]⟩ : ByteArray)) ++ (strOf (letT e1.name))) (b := (⟨#[32]⟩ : ByteArray)) (by kernel_rfl) (by kernel_rfl) (by kernel_rfl) (by kernel_rfl) (by simp only [cat_size, strOf_size]; omega) ?_
   refine At.a 2 ?_
   refine At.c (spec_l12Num_spec  e1.from_ (by omega)) Tryz.call21 true [] [] [] trivial ?_
   refine At.cat (t := 9) (u := 9) (d := 35) (x := .tmp 31) (y := .tmp 34) (a := ((o ++ (⟨#[114, 117, 108, 101, 32]⟩ : ByteArray)) ++ (strOf (letT e1.name))) ++ (⟨#[32]⟩ : ByteArray)) (b := strOf (Lib.itoa e1.from_)) (by kernel_rfl) (by kernel_rfl) (by kernel_rfl) (by kernel_rfl) (by simp only [cat_size, strOf_size]; omega) ?_
   refine At.cat (t := 9) (u := 9) (d := 36) (x := .tmp 35) (y := .const (.string ⟨#[32]⟩)) (a := (((o ++ (⟨#[114, 117, 108, 101, 32]⟩ : ByteArray)) ++ (strOf (letT e1.name))) ++ (⟨#[32]⟩ : ByteArray)) ++ (strOf (Lib.itoa e1.from_))) (b := (⟨#[32]⟩ : ByteArray)) (by kernel_rfl) (by kernel_rfl) (by kernel_rfl) (by kernel_rfl) (by simp only [cat_size, strOf_size]; omega) ?_
   refine At.a 2 ?_
   refine At.c (spec_l12Num_spec  e1.to (by omega)) Tryz.call21 true [] [] [] trivial ?_
   refine At.cat (t := 9) (u := 9) (d := 40) (x := .tmp 36) (y := .tmp 39) (a := ((((o ++ (⟨#[114, 117, 108, 101, 32]⟩ : ByteArray)) ++ (strOf (letT e1.name))) ++ (⟨#[32]⟩ : ByteArray)) ++ (strOf (Lib.itoa e1.from_))) ++ (⟨#[32]⟩ : ByteArray)) (b := strOf (Lib.itoa e1.to)) (by kernel_rfl) (by kernel_rfl) (by kernel_rfl) (by kernel_rfl) (by simp only [cat_size, strOf_size]; omega) ?_
   refine At.cat (t := 9) (u := 9) (d := 41) (x := .tmp 40) (y := .const (.string ⟨#[32]⟩)) (a := (((((o ++ (⟨#[114, 117, 108, 101, 32]⟩ : ByteArray)) ++ (strOf (letT e1.name))) ++ (⟨#[32]⟩ : ByteArray)) ++ (strOf (Lib.itoa e1.from_))) ++ (⟨#[32]⟩ : ByteArray)) ++ (strOf (Lib.itoa e1.to))) (b := (⟨#[32]⟩ : ByteArray)) (by kernel_rfl) (by kernel_rfl) (by kernel_rfl) (by kernel_rfl) (by simp only [cat_size, strOf_size]; omega) ?_
   refine At.a 2 ?_
   refine At.c (spec_l12Num_spec  e1.month (by omega)) Tryz.call21 true [] [] [] trivial ?_
   refine At.cat (t := 9) (u := 9) (d := 45) (x := .tmp 41) (y := .tmp 44) (a := ((((((o ++ (⟨#[114, 117, 108, 101, 32]⟩ : ByteArray)) ++ (strOf (letT e1.name))) ++ (⟨#[32]⟩ : ByteArray)) ++ (strOf (Lib.itoa e1.from_))) ++ (⟨#[32]⟩ : ByteArray)) ++ (strOf (Lib.itoa e1.to))) ++ (⟨#[32]⟩ : ByteArray)) (b := strOf (Lib.itoa e1.month)) (by kernel_rfl) (by kernel_rfl) (by kernel_rfl) (by kernel_rfl) (by simp only [cat_size, strOf_size]; omega) ?_
   refine At.cat (t := 9) (u := 9) (d := 46) (x := .tmp 45) (y := .const (.string ⟨#[32]⟩)) (a := (((((((o ++ (⟨#[114, 117, 108, 101, 32]⟩ : ByteArray)) ++ (strOf (letT e1.name))) ++ (⟨#[32]⟩ : ByteArray)) ++ (strOf (Lib.itoa e1.from_))) ++ (⟨#[32]⟩ : ByteArray)) ++ (strOf (Lib.itoa e1.to))) ++ (⟨#[32]⟩ : ByteArray)) ++ (strOf (Lib.itoa e1.month))) (b := (⟨#[32]⟩ : ByteArray)) (by kernel_rfl) (by kernel_rfl) (by kernel_rfl) (by kernel_rfl) (by simp only [cat_size, strOf_size]; omega) ?_
   refine At.a 2 ?_
   refine At.c (spec_OnText_spec  e1.on ) Tryz.call22 true [] [] [] trivial ?_
   refine At.cat (t := 9) (u := 9) (d := 50) (x := .tmp 46) (y := .tmp 49) (a := ((((((((o ++ (⟨#[114, 117, 108, 101, 32]⟩ : ByteArray)) ++ (strOf (letT e1.name))) ++ (⟨#[32]⟩ : ByteArray)) ++ (strOf (Lib.itoa e1.from_))) ++ (⟨#[32]⟩ : ByteArray)) ++ (strOf (Lib.itoa e1.to))) ++ (⟨#[32]⟩ : ByteArray)) ++ (strOf (Lib.itoa e1.month))) ++ (⟨#[32]⟩ : ByteArray)) (b := strOf (txO e1.on)) (by kernel_rfl) (by kernel_rfl) (by kernel_rfl) (by kernel_rfl) (by simp only [cat_size, strOf_size]; omega) ?_
   refine At.cat (t := 9) (u := 9) (d := 51) (x := .tmp 50) (y := .const (.string ⟨#[32]⟩)) (a := (((((((((o ++ (⟨#[114, 117, 108, 101, 32]⟩ : ByteArray)) ++ (strOf (letT e1.name))) ++ (⟨#[32]⟩ : ByteArray)) ++ (strOf (Lib.itoa e1.from_))) ++ (⟨#[32]⟩ : ByteArray)) ++ (strOf (Lib.itoa e1.to))) ++ (⟨#[32]⟩ : ByteArray)) ++ (strOf (Lib.itoa e1.month))) ++ (⟨#[32]⟩ : ByteArray)) ++ (strOf (txO e1.on))) (b := (⟨#[32]⟩ : ByteArray)) (by kernel_rfl) (by kernel_rfl) (by kernel_rfl) (by kernel_rfl) (by simp only [cat_size, strOf_size]; omega) ?_
   refine At.a 2 ?_
   refine At.c (spec_l12Num_spec  e1.at_ (by omega)) Tryz.call21 true [] [] [] trivial ?_
   refine At.cat (t := 9) (u := 9) (d := 55) (x := .tmp 51) (y := .tmp 54) (a := ((((((((((o ++ (⟨#[114, 117, 108, 101, 32]⟩ : ByteArray)) ++ (strOf (letT e1.name))) ++ (⟨#[32]⟩ : ByteArray)) ++ (strOf (Lib.itoa e1.from_))) ++ (⟨#[32]⟩ : ByteArray)) ++ (strOf (Lib.itoa e1.to))) ++ (⟨#[32]⟩ : ByteArray)) ++ (strOf (Lib.itoa e1.month))) ++ (⟨#[32]⟩ : ByteArray)) ++ (strOf (txO e1.on))) ++ (⟨#[32]⟩ : ByteArray)) (b := strOf (Lib.itoa e1.at_)) (by kernel_rfl) (by kernel_rfl) (by kernel_rfl) (by kernel_rfl) (by simp only [cat_size, strOf_size]; omega) ?_
   refine At.cat (t := 9) (u := 9) (d := 56) (x := .tmp 55) (y := .const (.string ⟨#[32]⟩)) (a := (((((((((((o ++ (⟨#[114, 117, 108, 101, 32]⟩ : ByteArray)) ++ (strOf (letT e1.name))) ++ (⟨#[32]⟩ : ByteArray)) ++ (strOf (Lib.itoa e1.from_))) ++ (⟨#[32]⟩ : ByteArray)) ++ (strOf (Lib.itoa e1.to))) ++ (⟨#[32]⟩ : ByteArray)) ++ (strOf (Lib.itoa e1.month))) ++ (⟨#[32]⟩ : ByteArray)) ++ (strOf (txO e1.on))) ++ (⟨#[32]⟩ : ByteArray)) ++ (strOf (Lib.itoa e1.at_))) (b := (⟨#[32]⟩ : ByteArray)) (by kernel_rfl) (by kernel_rfl) (by kernel_rfl) (by kernel_rfl) (by simp only [cat_size, strOf_size]; omega) ?_
   refine At.a 2 ?_
   refine At.c (spec_l12Num_spec  e1.save (by omega)) Tryz.call21 true [] [] [] trivial ?_
   refine At.cat (t := 9) (u := 9) (d := 60) (x := .tmp 56) (y := .tmp 59) (a := ((((((((((((o ++ (⟨#[114, 117, 108, 101, 32]⟩ : ByteArray)) ++ (strOf (letT e1.name))) ++ (⟨#[32]⟩ : ByteArray)) ++ (strOf (Lib.itoa e1.from_))) ++ (⟨#[32]⟩ : ByteArray)) ++ (strOf (Lib.itoa e1.to))) ++ (⟨#[32]⟩ : ByteArray)) ++ (strOf (Lib.itoa e1.month))) ++ (⟨#[32]⟩ : ByteArray)) ++ (strOf (txO e1.on))) ++ (⟨#[32]⟩ : ByteArray)) ++ (strOf (Lib.itoa e1.at_))) ++ (⟨#[32]⟩ : ByteArray)) (b := strOf (Lib.itoa e1.save)) (by kernel_rfl) (by kernel_rfl) (by kernel_rfl) (by kernel_rfl) (by simp only [cat_size, strOf_size]; omega) ?_
   refine At.cat (t := 9) (u := 9) (d := 61) (x := .tmp 60) (y := .const (.string ⟨#[10]⟩)) (a := (((((((((((((o ++ (⟨#[114, 117, 108, 101, 32]⟩ : ByteArray)) ++ (strOf (letT e1.name))) ++ (⟨#[32]⟩ : ByteArray)) ++ (strOf (Lib.itoa e1.from_))) ++ (⟨#[32]⟩ : ByteArray)) ++ (strOf (Lib.itoa e1.to))) ++ (⟨#[32]⟩ : ByteArray)) ++ (strOf (Lib.itoa e1.month))) ++ (⟨#[32]⟩ : ByteArray)) ++ (strOf (txO e1.on))) ++ (⟨#[32]⟩ : ByteArray)) ++ (strOf (Lib.itoa e1.at_))) ++ (⟨#[32]⟩ : ByteArray)) ++ (strOf (Lib.itoa e1.save))) (b := (⟨#[10]⟩ : ByteArray)) (by kernel_rfl) (by kernel_rfl) (by kernel_rfl) (by kernel_rfl) (by simp only [cat_size, strOf_size]; omega) ?_
   refine At.zD 1 ?_
   refine AW.g ?_
   refine At.a 2 ?_
   refine At.sI 19 ((k : Int) + 1) (by omega) ?_
   refine At.z 1 ?_
   exact ⟨(k + 1, (((((((((((((((o ++ (⟨#[114, 117, 108, 101, 32]⟩ : ByteArray)) ++ (strOf (letT e1.name))) ++ (⟨#[32]⟩ : ByteArray)) ++ (strOf (Lib.itoa e1.from_))) ++ (⟨#[32]⟩ : ByteArray)) ++ (strOf (Lib.itoa e1.to))) ++ (⟨#[32]⟩ : ByteArray)) ++ (strOf (Lib.itoa e1.month))) ++ (⟨#[32]⟩ : ByteArray)) ++ (strOf (txO e1.on))) ++ (⟨#[32]⟩ : ByteArray)) ++ (strOf (Lib.itoa e1.at_))) ++ (⟨#[32]⟩ : ByteArray)) ++ (strOf (Lib.itoa e1.save))) ++ (⟨#[10]⟩ : ByteArray))), ⟨⟨by omega, by simp only [cat_size, strOf_size]; omega⟩, rule_stepS (by assumption) hRk⟩, (by simp only; omega), Sub.o [(101, 101)] [false, true, false, false, true, true]⟩
 refine AW.exit ?_
 refine AW.seq ?_
 refine AW.q 1 ?_
 refine AW.block ?_
 refine AW.loopW (fun (x : Nat × ByteArray) => match x with | (j, o2) => Go.Sy.mk [.un, .ptr 101 0 0, .un, .un, .str o2, .un, .un, .int .i64 (j : Int)] [(101, .box 28 [.sl false 9 (s.rules.map encRul), .sl false 3 (s.zones.map encZon), .sl false 2 (s.links.map encLnk)])]) (fun (x : Nat × ByteArray) => match x with | (j, o2) => (j ≤ s.zones.length ∧ o2.size ≤ 4000 + 60 * j) ∧ o2 = strOf ((([] : List UInt8) ++ s.rules.flatMap ruleT) ++ (s.zones.take j).flatMap zoneT)) (fun (x : Nat × ByteArray) => match x with | (j, o2) => s.zones.length - j) (0, o) ⟨⟨by omega, by omega⟩, base_next hRk (by omega)⟩ (Sub.o [(101, 101)] [false, true, false, false, true, false, false, true]) ?_
 rintro ⟨j, o2⟩ ⟨hsj, hRj⟩
 refine AW.seq ?_
 refine AW.r ?_
 refine At.a 4 ?_
 refine At.sL 65 encZon s.zones ?_
 refine At.z 1 ?_
 refine AW.cD ((j : Int) < (s.zones.length : Int)) (fun h3 => ?_) (fun h3 => ?_)
 · refine AW.skip ?_
   refine AW.seq ?_
   refine AW.block ?_
   refine AW.r ?_
   refine At.a 3 ?_
   refine At.iSl 25 72 (.tmp 70) (.tmp 71) false 3 (s.zones.map encZon) .i64 (j : Int) 49 (by omega) (by simp only [List.length_map]; omega) ?_
   refine Exists.elim (gE s.zones j (by omega)) fun e2 he2 => ?_
   have hlne2 := zoneLens q3 he2
   refine At.lVp 49 73 (.tmp 72) false 3 (s.zones.map encZon) j 0 true 3 (encZon e2) (.agg [.int .i64 e2.name, .int .i64 e2.off, .int .i64 e2.rule]) (mapGet he2) ?_
   refine At.z 2 ?_
   refine AW.gD Tryz_mix ?_
   refine At.a 1 ?_
   refine At.cat (t := 9) (u := 9) (d := 75) (x := .tmp 74) (y := .const (.string ⟨#[122, 111, 110, 101, 32]⟩)) (a := o2) (b := (⟨#[122, 111, 110, 101, 32]⟩ : ByteArray)) (by kernel_rfl) (by kernel_rfl) (by kernel_rfl) (by kernel_rfl) (by omega) ?_
   refine At.a 2 ?_
   refine At.c (spec_l12Letter_spec  e2.name ) Tryz.call20 true [] [] [] trivial ?_
   refine At.cat (t := 9) (u := 9) (d := 79) (x := .tmp 75) (y := .tmp 78) (a := o2 ++ (⟨#[122, 111, 110, 101, 32]⟩ : ByteArray)) (b := strOf (letT e2.name)) (by kernel_rfl) (by kernel_rfl) (by kernel_rfl) (by kernel_rfl) (by simp only [cat_size, strOf_size]; omega) ?_
   refine At.cat (t := 9) (u := 9) (d := 80) (x := .tmp 79) (y := .const (.string ⟨#[32]⟩)) (a := (o2 ++ (⟨#[122, 111, 110, 101, 32]⟩ : ByteArray)) ++ (strOf (letT e2.name))) (b := (⟨#[32]⟩ : ByteArray)) (by kernel_rfl) (by kernel_rfl) (by kernel_rfl) (by kernel_rfl) (by simp only [cat_size, strOf_size]; omega) ?_
   refine At.a 2 ?_
   refine At.c (spec_l12Num_spec  e2.off (by omega)) Tryz.call21 true [] [] [] trivial ?_
   refine At.cat (t := 9) (u := 9) (d := 84) (x := .tmp 80) (y := .tmp 83) (a := ((o2 ++ (⟨#[122, 111, 110, 101, 32]⟩ : ByteArray)) ++ (strOf (letT e2.name))) ++ (⟨#[32]⟩ : ByteArray)) (b := strOf (Lib.itoa e2.off)) (by kernel_rfl) (by kernel_rfl) (by kernel_rfl) (by kernel_rfl) (by simp only [cat_size, strOf_size]; omega) ?_
   refine At.cat (t := 9) (u := 9) (d := 85) (x := .tmp 84) (y := .const (.string ⟨#[32]⟩)) (a := (((o2 ++ (⟨#[122, 111, 110, 101, 32]⟩ : ByteArray)) ++ (strOf (letT e2.name))) ++ (⟨#[32]⟩ : ByteArray)) ++ (strOf (Lib.itoa e2.off))) (b := (⟨#[32]⟩ : ByteArray)) (by kernel_rfl) (by kernel_rfl) (by kernel_rfl) (by kernel_rfl) (by simp only [cat_size, strOf_size]; omega) ?_
   refine At.a 2 ?_
   refine At.c (spec_l12Letter_spec  e2.rule ) Tryz.call20 true [] [] [] trivial ?_
   refine At.cat (t := 9) (u := 9) (d := 89) (x := .tmp 85) (y := .tmp 88) (a := ((((o2 ++ (⟨#[122, 111, 110, 101, 32]⟩ : ByteArray)) ++ (strOf (letT e2.name))) ++ (⟨#[32]⟩ : ByteArray)) ++ (strOf (Lib.itoa e2.off))) ++ (⟨#[32]⟩ : ByteArray)) (b := strOf (letT e2.rule)) (by kernel_rfl) (by kernel_rfl) (by kernel_rfl) (by kernel_rfl) (by simp only [cat_size, strOf_size]; omega) ?_
   refine At.cat (t := 9) (u := 9) (d := 90) (x := .tmp 89) (y := .const (.string ⟨#[10]⟩)) (a := (((((o2 ++ (⟨#[122, 111, 110, 101, 32]⟩ : ByteArray)) ++ (strOf (letT e2.name))) ++ (⟨#[32]⟩ : ByteArray)) ++ (strOf (Lib.itoa e2.off))) ++ (⟨#[32]⟩ : ByteArray)) ++ (strOf (letT e2.rule))) (b := (⟨#[10]⟩ : ByteArray)) (by kernel_rfl) (by kernel_rfl) (by kernel_rfl) (by kernel_rfl) (by simp only [cat_size, strOf_size]; omega) ?_
   refine At.zD 1 ?_
   refine AW.g ?_
   refine At.a 2 ?_
   refine At.sI 68 ((j : Int) + 1) (by omega) ?_
   refine At.z 1 ?_
   exact ⟨(j + 1, (((((((o2 ++ (⟨#[122, 111, 110, 101, 32]⟩ : ByteArray)) ++ (strOf (letT e2.name))) ++ (⟨#[32]⟩ : ByteArray)) ++ (strOf (Lib.itoa e2.off))) ++ (⟨#[32]⟩ : ByteArray)) ++ (strOf (letT e2.rule))) ++ (⟨#[10]⟩ : ByteArray))), ⟨⟨by omega, by simp only [cat_size, strOf_size]; omega⟩, zone_stepS (by assumption) hRj⟩, (by simp only; omega), Sub.o [(101, 101)] [false, true, false, false, true, false, false, true]⟩
 refine AW.exit ?_
 refine AW.seq ?_
 refine AW.q 1 ?_
 refine AW.block ?_
 refine AW.loopW (fun (x : Nat × ByteArray) => match x with | (i, o3) => Go.Sy.mk [.un, .ptr 101 0 0, .un, .un, .str o3, .un, .un, .un, .un, .int .i64 (i : Int)] [(101, .box 28 [.sl false 9 (s.rules.map encRul), .sl false 3 (s.zones.map encZon), .sl false 2 (s.links.map encLnk)])]) (fun (x : Nat × ByteArray) => match x with | (i, o3) => (i ≤ s.links.length ∧ o3.size ≤ 5600 + 40 * i) ∧ o3 = strOf (((([] : List UInt8) ++ s.rules.flatMap ruleT) ++ s.zones.flatMap zoneT) ++ (s.links.take i).flatMap linkT)) (fun (x : Nat × ByteArray) => match x with | (i, o3) => s.links.length - i) (0, o2) ⟨⟨by omega, by omega⟩, base_next hRj (by omega)⟩ (Sub.o [(101, 101)] [false, true, false, false, true, false, false, false, false, true]) ?_
 rintro ⟨i, o3⟩ ⟨hsi, hRi⟩
 refine AW.seq ?_
 refine AW.r ?_
 refine At.a 4 ?_
 refine At.sL 94 encLnk s.links ?_
 refine At.z 1 ?_
 refine AW.cD ((i : Int) < (s.links.length : Int)) (fun h4 => ?_) (fun h4 => ?_)
 · refine AW.skip ?_
   refine AW.seq ?_
   refine AW.block ?_
   refine AW.gD Tryz_mix ?_
   refine At.a 1 ?_
   refine At.cat (t := 9) (u := 9) (d := 99) (x := .tmp 98) (y := .const (.string ⟨#[108, 105, 110, 107, 32]⟩)) (a := o3) (b := (⟨#[108, 105, 110, 107, 32]⟩ : ByteArray)) (by kernel_rfl) (by kernel_rfl) (by kernel_rfl) (by kernel_rfl) (by omega) ?_
   refine At.a 3 ?_
   refine At.iSl 26 103 (.tmp 101) (.tmp 102) false 2 (s.links.map encLnk) .i64 (i : Int) 51 (by omega) (by simp only [List.length_map]; omega) ?_
   refine At.a 1 ?_
   refine Exists.elim (gE s.links i (by omega)) fun e3 he3 => ?_
   have hlne3 := letT_len e3.name
   have hloe3 := letT_len e3.to
   refine At.lVp 3 105 (.tmp 104) false 2 (s.links.map encLnk) i 0 false 1 (encLnk e3) (.int .i64 e3.name) (mapGet he3) ?_
   refine At.c (spec_l12Letter_spec  e3.name ) Tryz.call20 true [] [] [] trivial ?_
   refine At.cat (t := 9) (u := 9) (d := 107) (x := .tmp 99) (y := .tmp 106) (a := o3 ++ (⟨#[108, 105, 110, 107, 32]⟩ : ByteArray)) (b := strOf (letT e3.name)) (by kernel_rfl) (by kernel_rfl) (by kernel_rfl) (by kernel_rfl) (by simp only [cat_size, strOf_size]; omega) ?_
   refine At.cat (t := 9) (u := 9) (d := 108) (x := .tmp 107) (y := .const (.string ⟨#[32]⟩)) (a := (o3 ++ (⟨#[108, 105, 110, 107, 32]⟩ : ByteArray)) ++ (strOf (letT e3.name))) (b := (⟨#[32]⟩ : ByteArray)) (by kernel_rfl) (by kernel_rfl) (by kernel_rfl) (by kernel_rfl) (by simp only [cat_size, strOf_size]; omega) ?_
   refine At.a 3 ?_
   refine At.iSl 26 112 (.tmp 110) (.tmp 111) false 2 (s.links.map encLnk) .i64 (i : Int) 51 (by omega) (by simp only [List.length_map]; omega) ?_
   refine At.a 1 ?_
   refine At.lVp 3 114 (.tmp 113) false 2 (s.links.map encLnk) i 1 false 1 (encLnk e3) (.int .i64 e3.to) (mapGet he3) ?_
   refine At.c (spec_l12Letter_spec  e3.to ) Tryz.call20 true [] [] [] trivial ?_
   refine At.cat (t := 9) (u := 9) (d := 116) (x := .tmp 108) (y := .tmp 115) (a := ((o3 ++ (⟨#[108, 105, 110, 107, 32]⟩ : ByteArray)) ++ (strOf (letT e3.name))) ++ (⟨#[32]⟩ : ByteArray)) (b := strOf (letT e3.to)) (by kernel_rfl) (by kernel_rfl) (by kernel_rfl) (by kernel_rfl) (by simp only [cat_size, strOf_size]; omega) ?_
   refine At.cat (t := 9) (u := 9) (d := 117) (x := .tmp 116) (y := .const (.string ⟨#[10]⟩)) (a := (((o3 ++ (⟨#[108, 105, 110, 107, 32]⟩ : ByteArray)) ++ (strOf (letT e3.name))) ++ (⟨#[32]⟩ : ByteArray)) ++ (strOf (letT e3.to))) (b := (⟨#[10]⟩ : ByteArray)) (by kernel_rfl) (by kernel_rfl) (by kernel_rfl) (by kernel_rfl) (by simp only [cat_size, strOf_size]; omega) ?_
   refine At.zD 1 ?_
   refine AW.g ?_
   refine At.a 2 ?_
   refine At.sI 97 ((i : Int) + 1) (by omega) ?_
   refine At.z 1 ?_
   exact ⟨(i + 1, (((((o3 ++ (⟨#[108, 105, 110, 107, 32]⟩ : ByteArray)) ++ (strOf (letT e3.name))) ++ (⟨#[32]⟩ : ByteArray)) ++ (strOf (letT e3.to))) ++ (⟨#[10]⟩ : ByteArray))), ⟨⟨by omega, by simp only [cat_size, strOf_size]; omega⟩, link_stepS (by assumption) hRi⟩, (by simp only; omega), Sub.o [(101, 101)] [false, true, false, false, true, false, false, false, false, true]⟩
 refine AW.exit ?_
 refine AW.seq ?_
 refine AW.q 3 ?_
 refine AW.cD ((o3.size : Int) > 1000) (fun h5 => ?_) (fun h5 => ?_)
 · refine AW.q 2 ?_
   exact AW.ret (rf (k2 (K_spec_SourcePrint _ s) (show ((⟨#[]⟩ : ByteArray)) = (strOf (srcP s).1) from by rw [srcP_big (by assumption) (base_end hRi (by omega)) (by assumption)]; first | done | rfl) (show (false) = ((srcP s).2) from by rw [srcP_big (by assumption) (base_end hRi (by omega)) (by assumption)]; first | done | rfl) (KF.n [])))
 refine AW.skip ?_
 refine AW.q 3 ?_
 exact AW.ret (rf (k2 (K_spec_SourcePrint _ s) (show (o3) = (strOf (srcP s).1) from by rw [srcP_ok (by assumption) (base_end hRi (by omega)) (by assumption)]; first | done | rfl | exact base_end hRi (by omega)) (show (true) = ((srcP s).2) from by rw [srcP_ok (by assumption) (base_end hRi (by omega)) (by assumption)]; first | done | rfl | exact base_end hRi (by omega)) (KF.n [])))
theorem strings_Split_spec  (s : ByteArray) (p : ByteArray) (hp : p = ⟨#[32]⟩) (hs : s.size ≤ 1048576) : FnSpecO 8 GB Tryz.prog 31 [.str s, .str p] [] (.ref 0) [.arr 9 1 ((pcs 32 s).map encS)] := by subst hp; exact split_q s 32 hs
theorem strings_Split_N_spec  (s : ByteArray) (p : ByteArray) (hp : p = ⟨#[10]⟩) (hs : s.size ≤ 1048576) : FnSpecO 8 GB Tryz.prog 31 [.str s, .str p] [] (.ref 0) [.arr 9 1 ((pcs 10 s).map encS)] := by subst hp; exact split_q s 10 hs
theorem impl_nameOf_spec  (w : ByteArray) : FnSpec Tryz.prog 77 [.str w] [] (.int .i64 (nm w.data.toList)) [] := by
 refine FnSpec.of 9 Tryz.func77 rfl Tryz.ntmps77 (by simp) (AW.weakK ?_)
 refine AW.q 1 ?_
 refine AW.seq ?_
 refine AW.q 3 ?_
 refine AW.cU (w.size : Int) (1 : Int) (fun h1 => ?_) (fun h1 => ?_)
 · refine AW.q 1 ?_
   refine AW.ret ?_
   refine ⟨_, Sub.refl _ _, ?_⟩
   refine KF.conv (fun w => .int .i64 w) (fun w => []) (show (0) = (nm w.data.toList) from by exact (nm_no (by assumption)).symm) ?_
   exact KF.n []
 refine AW.skip ?_
 refine AW.r ?_
 refine At.a 1 ?_
 refine Exists.elim (show ∃ e, w.data[0]? = some e from ⟨_, Array.getElem?_eq_getElem (by show _ < w.size; omega)⟩) fun e1 he1 => ?_
 refine At.idxStr (t := 9) (d := 7) (x := .tmp 6) (y := .const (.int .i64 0)) (s := w) (kd := .i64) (i := 0) e1 (by kernel_rfl) (by kernel_rfl) (by kernel_rfl) (by kernel_rfl) (by omega) he1 ?_
 refine At.conv (s := 5) (t := 3) (d := 8) (x := .tmp 7) (kd := .u8) (kd' := .i64) (a := (e1.toNat : Int)) (.int .i64 (e1.toNat : Int)) (by kernel_rfl) (by kernel_rfl) (by kernel_rfl) (by kernel_rfl) (sayI _ (by have := UInt8.toNat_lt e1; omega)) ?_
 refine At.z 1 ?_
 refine AW.ret ?_
 refine ⟨_, Sub.refl _ _, ?_⟩
 refine KF.conv (fun w => .int .i64 w) (fun w => []) (show ((e1.toNat : Int)) = (nm w.data.toList) from by exact (nm_one (by assumption) (by assumption)).symm) ?_
 exact KF.n []
theorem impl_readNumber_spec  (s : ByteArray) (m : Int) (hs : s.size ≤ 1048576) : FnSpecQ GB Tryz.prog 100 [.str s, .int .i64 m] (.tup [.int .i64 ((rdN s.data.toList m).1), .bool ((rdN s.data.toList m).2)]) := readNumber_q s m hs
def K_impl_fieldReader_number (rs : List ResultVar) (f : FieldR) (w : ByteArray) (w0_ : Int) (w1_ : FieldR) : Exit → Sg → Prop := KF Tryz.prog 1 rs (.int .i64 w0_) [.box 117 [.bool w1_.bad]]
theorem impl_fieldReader_number_spec  (f : FieldR) (w : ByteArray) (hs : w.size ≤ 1048576) : FnSpecO 8 GB Tryz.prog 89 [.ptr 0 0 0, .str w] [.box 117 [.bool f.bad]] (.int .i64 ((rd4 w.data.toList).1)) [.box 117 [.bool (f.bad || !(rd4 w.data.toList).2)]] := by
 refine FnSpecO.of 18 Tryz.func89 rfl Tryz.ntmps89 (by simp) (AW.weakK ?_)
 refine AW.q 1 ?_
 refine AW.r ?_
 refine At.a 1 ?_
 refine At.callO glStay rfl (FnSpecQ.toO (fun _ h => h) (impl_readNumber_spec  w 4 hs)) Tryz.call100 true [] [] [] (by kernel_rfl) (by kernel_rfl) (by kernel_rfl) (by kernel_rfl) (by kernel_rfl) trivial ?_
 refine At.z 5 ?_
 refine AW.seq ?_
 refine AW.q 2 ?_
 refine AW.cNB ((rdN w.data.toList 4).2) (fun h1 => ?_) (fun h1 => ?_)
 · refine AW.gq 4 ?_
   refine AW.q 2 ?_
   exact AW.ret (rf (k2 (K_impl_fieldReader_number _ f w) (show ((rdN w.data.toList 4).1) = ((rd4 w.data.toList).1) from by rw [num_eq]) (show ((⟨true⟩ : FieldR)) = ((⟨f.bad || !(rd4 w.data.toList).2⟩ : FieldR)) from by exact num_b1 (by assumption)) (KF.n [(0, 0)])))
 refine AW.skip ?_
 refine AW.q 2 ?_
 exact AW.ret (rf (k2 (K_impl_fieldReader_number _ f w) (show ((rdN w.data.toList 4).1) = ((rd4 w.data.toList).1) from by rw [num_eq]) (show (f) = ((⟨f.bad || !(rd4 w.data.toList).2⟩ : FieldR)) from by exact num_b2 (by assumption)) (KF.n [(0, 0)])))
theorem strings_CutPrefix_spec  (s : ByteArray) (p : ByteArray) : FnSpecQ GB Tryz.prog 101 [.str s, .str p] (.tup [.str (strOf (Lib.trimPrefix s.data.toList p.data.toList)), .bool (Lib.hasPrefix s.data.toList p.data.toList)]) := cutPrefix_q s p
theorem strings_Cut_spec  (s : ByteArray) (p : ByteArray) (hs : s.size ≤ 1048576) : FnSpecQ GB Tryz.prog 102 [.str s, .str p] (.tup [.str (strOf (Lib.cut s.data.toList p.data.toList).1), .str (strOf (Lib.cut s.data.toList p.data.toList).2.1), .bool ((Lib.cut s.data.toList p.data.toList).2.2)]) := cut_q s p hs
def K_impl_OnRead (rs : List ResultVar) (s : ByteArray) (w0_ : On) (w1_ : Bool) : Exit → Sg → Prop := KF Tryz.prog 0 rs (.tup [.agg [.int .i64 w0_.kind, .int .i64 w0_.day, .int .i64 w0_.week], .bool w1_]) []
theorem impl_OnRead_spec  (s : ByteArray) (hs : s.size ≤ 1048576) : FnSpecQ GB Tryz.prog 90 [.str s] (.tup [.agg [.int .i64 (((onRI s.data.toList).1).kind), .int .i64 (((onRI s.data.toList).1).day), .int .i64 (((onRI s.data.toList).1).week)], .bool ((onRI s.data.toList).2)]) := by
 refine FnSpecQ.of 62 Tryz.func90 rfl Tryz.ntmps90 (by simp) (AW.weakK ?_)
 refine AW.q 2 ?_
 refine AW.q 3 ?_
 refine AW.r ?_
 refine At.a 1 ?_
 refine At.callQ glLasts rfl (strings_CutPrefix_spec  s (⟨#[108, 97, 115, 116]⟩ : ByteArray) ) Tryz.call101 true [] [] [] (by kernel_rfl) (by kernel_rfl) (by kernel_rfl) (by kernel_rfl) (by kernel_rfl) trivial ?_
 refine At.z 5 ?_
 refine AW.r ?_
 refine At.a 1 ?_
 refine At.callQ glLasts rfl (strings_Cut_spec  s (⟨#[62, 61]⟩ : ByteArray) (by assumption)) Tryz.call102 true [] [] [] (by kernel_rfl) (by kernel_rfl) (by kernel_rfl) (by kernel_rfl) (by kernel_rfl) trivial ?_
 refine At.z 7 ?_
 refine AW.seq ?_
 refine AW.block ?_
 refine AW.q 2 ?_
 refine AW.cB (Lib.hasPrefix s.data.toList (⟨#[108, 97, 115, 116]⟩ : ByteArray).data.toList) (fun h1 => ?_) (fun h1 => ?_)
 · refine AW.q 2 ?_
   refine AW.g ?_
   refine At.a 1 ?_
   refine At.callQ glLasts rfl (impl_readNumber_spec  (strOf (Lib.trimPrefix s.data.toList (⟨#[108, 97, 115, 116]⟩ : ByteArray).data.toList)) 2 (by rw [strOf_size]; first | exact Nat.le_trans (trim_le _ _) (by rw [Array.length_toList]; exact hs) | exact Nat.le_trans (cut_le _).1 (by rw [Array.length_toList]; exact hs) | exact Nat.le_trans (cut_le _).2 (by rw [Array.length_toList]; exact hs))) Tryz.call100 true [] [] [] (by kernel_rfl) (by kernel_rfl) (by kernel_rfl) (by kernel_rfl) (by kernel_rfl) trivial ?_
   refine At.z 5 ?_
   refine AW.seq ?_
   refine AW.r ?_
   refine At.a 3 ?_
   by_cases h2 : s.toList = (⟨#[]⟩ : ByteArray).toList
   · refine At.sB 54 _ _ (sayET h2) ?_
     refine At.z 5 ?_
     refine AW.cond true (by kernel_rfl) (fun _ => ?_) (fun h => by cases h)
     refine AW.q 3 ?_
     exact AW.ret (rf (k2 (K_impl_OnRead _ s) (show ((⟨0, 0, 0⟩ : On)) = ((onRI s.data.toList).1) from by rw [ri_1 (by assumption)]; first | done | rfl) (show (false) = ((onRI s.data.toList).2) from by rw [ri_1 (by assumption)]; first | done | rfl) (KF.n [])))
   refine At.sB 54 _ _ (sayEF h2) ?_
   refine At.a 1 ?_
   refine At.callQ glLasts rfl (impl_OnText_spec  (⟨2, 0, (rdN (strOf (Lib.trimPrefix s.data.toList (⟨#[108, 97, 115, 116]⟩ : ByteArray).data.toList)).data.toList 2).1⟩ : On) ⟨by simp; done, by exact rdN_bd _ _⟩) Tryz.call18 true [] [] [] (by kernel_rfl) (by kernel_rfl) (by kernel_rfl) (by kernel_rfl) (by kernel_rfl) trivial ?_
   refine At.z 3 ?_
   refine AW.cNE ((strOf (txO (⟨2, 0, (rdN (strOf (Lib.trimPrefix s.data.toList (⟨#[108, 97, 115, 116]⟩ : ByteArray).data.toList)).data.toList 2).1⟩ : On))).toList) (s.toList) (fun h3 => ?_) (fun h3 => ?_)
   · refine AW.q 3 ?_
     exact AW.ret (rf (k2 (K_impl_OnRead _ s) (show ((⟨0, 0, 0⟩ : On)) = ((onRI s.data.toList).1) from by rw [ri_2 (by assumption) (by first | exact onO_1 (by assumption) | exact onO_2 (by assumption) (by assumption) | exact onO_3 (by assumption) (by assumption)) (by assumption)]; first | done | rfl) (show (false) = ((onRI s.data.toList).2) from by rw [ri_2 (by assumption) (by first | exact onO_1 (by assumption) | exact onO_2 (by assumption) (by assumption) | exact onO_3 (by assumption) (by assumption)) (by assumption)]; first | done | rfl) (KF.n [])))
   refine AW.skip ?_
   refine AW.q 3 ?_
   exact AW.ret (rf (k2 (K_impl_OnRead _ s) (show ((⟨2, 0, (rdN (strOf (Lib.trimPrefix s.data.toList (⟨#[108, 97, 115, 116]⟩ : ByteArray).data.toList)).data.toList 2).1⟩ : On)) = ((onRI s.data.toList).1) from by rw [ri_3 (by assumption) (by first | exact onO_1 (by assumption) | exact onO_2 (by assumption) (by assumption) | exact onO_3 (by assumption) (by assumption)) (by assumption)]; first | done | rfl) (show (true) = ((onRI s.data.toList).2) from by rw [ri_3 (by assumption) (by first | exact onO_1 (by assumption) | exact onO_2 (by assumption) (by assumption) | exact onO_3 (by assumption) (by assumption)) (by assumption)]; first | done | rfl) (KF.n [])))
 refine AW.q 2 ?_
 refine AW.cB ((Lib.cut s.data.toList (⟨#[62, 61]⟩ : ByteArray).data.toList).2.2) (fun h4 => ?_) (fun h4 => ?_)
 · refine AW.q 2 ?_
   refine AW.r ?_
   refine At.a 1 ?_
   refine At.callQ glLasts rfl (impl_readNumber_spec  (strOf (Lib.cut s.data.toList (⟨#[62, 61]⟩ : ByteArray).data.toList).1) 2 (by rw [strOf_size]; first | exact Nat.le_trans (trim_le _ _) (by rw [Array.length_toList]; exact hs) | exact Nat.le_trans (cut_le _).1 (by rw [Array.length_toList]; exact hs) | exact Nat.le_trans (cut_le _).2 (by rw [Array.length_toList]; exact hs))) Tryz.call100 true [] [] [] (by kernel_rfl) (by kernel_rfl) (by kernel_rfl) (by kernel_rfl) (by kernel_rfl) trivial ?_
   refine At.z 5 ?_
   refine AW.g ?_
   refine At.a 1 ?_
   refine At.callQ glLasts rfl (impl_readNumber_spec  (strOf (Lib.cut s.data.toList (⟨#[62, 61]⟩ : ByteArray).data.toList).2.1) 2 (by rw [strOf_size]; first | exact Nat.le_trans (trim_le _ _) (by rw [Array.length_toList]; exact hs) | exact Nat.le_trans (cut_le _).1 (by rw [Array.length_toList]; exact hs) | exact Nat.le_trans (cut_le _).2 (by rw [Array.length_toList]; exact hs))) Tryz.call100 true [] [] [] (by kernel_rfl) (by kernel_rfl) (by kernel_rfl) (by kernel_rfl) (by kernel_rfl) trivial ?_
   refine At.z 5 ?_
   refine AW.seq ?_
   refine AW.r ?_
   refine At.a 3 ?_
   by_cases h5 : s.toList = (⟨#[]⟩ : ByteArray).toList
   · refine At.sB 54 _ _ (sayET h5) ?_
     refine At.z 5 ?_
     refine AW.cond true (by kernel_rfl) (fun _ => ?_) (fun h => by cases h)
     refine AW.q 3 ?_
     exact AW.ret (rf (k2 (K_impl_OnRead _ s) (show ((⟨0, 0, 0⟩ : On)) = ((onRI s.data.toList).1) from by rw [ri_1 (by assumption)]; first | done | rfl) (show (false) = ((onRI s.data.toList).2) from by rw [ri_1 (by assumption)]; first | done | rfl) (KF.n [])))
   refine At.sB 54 _ _ (sayEF h5) ?_
   refine At.a 1 ?_
   refine At.callQ glLasts rfl (impl_OnText_spec  (⟨3, (rdN (strOf (Lib.cut s.data.toList (⟨#[62, 61]⟩ : ByteArray).data.toList).2.1).data.toList 2).1, (rdN (strOf (Lib.cut s.data.toList (⟨#[62, 61]⟩ : ByteArray).data.toList).1).data.toList 2).1⟩ : On) ⟨by exact rdN_bd _ _, by exact rdN_bd _ _⟩) Tryz.call18 true [] [] [] (by kernel_rfl) (by kernel_rfl) (by kernel_rfl) (by kernel_rfl) (by kernel_rfl) trivial ?_
   refine At.z 3 ?_
   refine AW.cNE ((strOf (txO (⟨3, (rdN (strOf (Lib.cut s.data.toList (⟨#[62, 61]⟩ : ByteArray).data.toList).2.1).data.toList 2).1, (rdN (strOf (Lib.cut s.data.toList (⟨#[62, 61]⟩ : ByteArray).data.toList).1).data.toList 2).1⟩ : On))).toList) (s.toList) (fun h6 => ?_) (fun h6 => ?_)
   · refine AW.q 3 ?_
     exact AW.ret (rf (k2 (K_impl_OnRead _ s) (show ((⟨0, 0, 0⟩ : On)) = ((onRI s.data.toList).1) from by rw [ri_2 (by assumption) (by first | exact onO_1 (by assumption) | exact onO_2 (by assumption) (by assumption) | exact onO_3 (by assumption) (by assumption)) (by assumption)]; first | done | rfl) (show (false) = ((onRI s.data.toList).2) from by rw [ri_2 (by assumption) (by first | exact onO_1 (by assumption) | exact onO_2 (by assumption) (by assumption) | exact onO_3 (by assumption) (by assumption)) (by assumption)]; first | done | rfl) (KF.n [])))
   refine AW.skip ?_
   refine AW.q 3 ?_
   exact AW.ret (rf (k2 (K_impl_OnRead _ s) (show ((⟨3, (rdN (strOf (Lib.cut s.data.toList (⟨#[62, 61]⟩ : ByteArray).data.toList).2.1).data.toList 2).1, (rdN (strOf (Lib.cut s.data.toList (⟨#[62, 61]⟩ : ByteArray).data.toList).1).data.toList 2).1⟩ : On)) = ((onRI s.data.toList).1) from by rw [ri_3 (by assumption) (by first | exact onO_1 (by assumption) | exact onO_2 (by assumption) (by assumption) | exact onO_3 (by assumption) (by assumption)) (by assumption)]; first | done | rfl) (show (true) = ((onRI s.data.toList).2) from by rw [ri_3 (by assumption) (by first | exact onO_1 (by assumption) | exact onO_2 (by assumption) (by assumption) | exact onO_3 (by assumption) (by assumption)) (by assumption)]; first | done | rfl) (KF.n [])))
 refine AW.g ?_
 refine At.a 1 ?_
 refine At.callQ glLasts rfl (impl_readNumber_spec  s 2 (by assumption)) Tryz.call100 true [] [] [] (by kernel_rfl) (by kernel_rfl) (by kernel_rfl) (by kernel_rfl) (by kernel_rfl) trivial ?_
 refine At.z 5 ?_
 refine AW.seq ?_
 refine AW.r ?_
 refine At.a 3 ?_
 by_cases h7 : s.toList = (⟨#[]⟩ : ByteArray).toList
 · refine At.sB 54 _ _ (sayET h7) ?_
   refine At.z 5 ?_
   refine AW.cond true (by kernel_rfl) (fun _ => ?_) (fun h => by cases h)
   refine AW.q 3 ?_
   exact AW.ret (rf (k2 (K_impl_OnRead _ s) (show ((⟨0, 0, 0⟩ : On)) = ((onRI s.data.toList).1) from by rw [ri_1 (by assumption)]; first | done | rfl) (show (false) = ((onRI s.data.toList).2) from by rw [ri_1 (by assumption)]; first | done | rfl) (KF.n [])))
 refine At.sB 54 _ _ (sayEF h7) ?_
 refine At.a 1 ?_
 refine At.callQ glLasts rfl (impl_OnText_spec  (⟨1, (rdN s.data.toList 2).1, 0⟩ : On) ⟨by exact rdN_bd _ _, by simp; done⟩) Tryz.call18 true [] [] [] (by kernel_rfl) (by kernel_rfl) (by kernel_rfl) (by kernel_rfl) (by kernel_rfl) trivial ?_
 refine At.z 3 ?_
 refine AW.cNE ((strOf (txO (⟨1, (rdN s.data.toList 2).1, 0⟩ : On))).toList) (s.toList) (fun h8 => ?_) (fun h8 => ?_)
 · refine AW.q 3 ?_
   exact AW.ret (rf (k2 (K_impl_OnRead _ s) (show ((⟨0, 0, 0⟩ : On)) = ((onRI s.data.toList).1) from by rw [ri_2 (by assumption) (by first | exact onO_1 (by assumption) | exact onO_2 (by assumption) (by assumption) | exact onO_3 (by assumption) (by assumption)) (by assumption)]; first | done | rfl) (show (false) = ((onRI s.data.toList).2) from by rw [ri_2 (by assumption) (by first | exact onO_1 (by assumption) | exact onO_2 (by assumption) (by assumption) | exact onO_3 (by assumption) (by assumption)) (by assumption)]; first | done | rfl) (KF.n [])))
 refine AW.skip ?_
 refine AW.q 3 ?_
 exact AW.ret (rf (k2 (K_impl_OnRead _ s) (show ((⟨1, (rdN s.data.toList 2).1, 0⟩ : On)) = ((onRI s.data.toList).1) from by rw [ri_3 (by assumption) (by first | exact onO_1 (by assumption) | exact onO_2 (by assumption) (by assumption) | exact onO_3 (by assumption) (by assumption)) (by assumption)]; first | done | rfl) (show (true) = ((onRI s.data.toList).2) from by rw [ri_3 (by assumption) (by first | exact onO_1 (by assumption) | exact onO_2 (by assumption) (by assumption) | exact onO_3 (by assumption) (by assumption)) (by assumption)]; first | done | rfl) (KF.n [])))
def K_impl_readRule (rs : List ResultVar) (ws : List ByteArray) (w0_ : Rul) (w1_ : Bool) : Exit → Sg → Prop := KF Tryz.prog 0 rs (.tup [.agg [.int .i64 w0_.name, .int .i64 w0_.from_, .int .i64 w0_.to, .int .i64 w0_.month, .int .i64 w0_.on.kind, .int .i64 w0_.on.day, .int .i64 w0_.on.week, .int .i64 w0_.at_, .int .i64 w0_.save], .bool w1_]) []
theorem impl_readRule_spec  (ws : List ByteArray) (hl : ws.length = 8) (hs : ∀ x ∈ ws, x.size ≤ 1048576) : FnSpecO 8 GB Tryz.prog 75 [.sl false 1 (ws.map encS)] [] (.tup [.agg [.int .i64 ((rulW (wb ws)).name), .int .i64 ((rulW (wb ws)).from_), .int .i64 ((rulW (wb ws)).to), .int .i64 ((rulW (wb ws)).month), .int .i64 ((rulW (wb ws)).on.kind), .int .i64 ((rulW (wb ws)).on.day), .int .i64 ((rulW (wb ws)).on.week), .int .i64 ((rulW (wb ws)).at_), .int .i64 ((rulW (wb ws)).save)], .bool (rulOk (wb ws))]) [] := by
 refine FnSpecO.of 67 Tryz.func75 rfl Tryz.ntmps75 (by simp) (AW.weakK ?_)
 refine AW.q 2 ?_
 refine AW.q 3 ?_
 refine AW.r ?_
 refine At.a 1 ?_
 refine At.iSl 46 11 (.tmp 10) (.const (.int .i64 1)) false 1 (ws.map encS) .i64 1 9 (by omega) (by simp only [List.length_map]; omega) ?_
 refine Exists.elim (gE ws 1 (by omega)) fun e1 he1 => ?_
 have hwe1 := wb_at he1
 have hze1 := hs _ (List.mem_of_getElem? he1)
 refine At.lVp 9 12 (.tmp 11) false 1 (ws.map encS) 1 0 false 1 (encS e1) (.str e1) (mapGet he1) ?_
 refine At.c (impl_nameOf_spec  e1 ) Tryz.call77 true [] [] [] trivial ?_
 refine At.z 3 ?_
 refine AW.r ?_
 refine At.a 2 ?_
 refine At.iSl 46 17 (.tmp 16) (.const (.int .i64 2)) false 1 (ws.map encS) .i64 2 9 (by omega) (by simp only [List.length_map]; omega) ?_
 refine Exists.elim (gE ws 2 (by omega)) fun e2 he2 => ?_
 have hwe2 := wb_at he2
 have hze2 := hs _ (List.mem_of_getElem? he2)
 refine At.lVp 9 18 (.tmp 17) false 1 (ws.map encS) 2 0 false 1 (encS e2) (.str e2) (mapGet he2) ?_
 refine At.callO glStay rfl (impl_fieldReader_number_spec  (⟨false⟩ : FieldR) e2 (by assumption)) Tryz.call89 true [(109, 0)] [] [] (by kernel_rfl) (by kernel_rfl) (by kernel_rfl) (by kernel_rfl) (by kernel_rfl) trivial ?_
 refine At.z 2 ?_
 refine AW.r ?_
 refine At.a 2 ?_
 refine At.iSl 46 23 (.tmp 22) (.const (.int .i64 3)) false 1 (ws.map encS) .i64 3 9 (by omega) (by simp only [List.length_map]; omega) ?_
 refine Exists.elim (gE ws 3 (by omega)) fun e3 he3 => ?_
 have hwe3 := wb_at he3
 have hze3 := hs _ (List.mem_of_getElem? he3)
 refine At.lVp 9 24 (.tmp 23) false 1 (ws.map encS) 3 0 false 1 (encS e3) (.str e3) (mapGet he3) ?_
 refine At.callO glStay rfl (impl_fieldReader_number_spec  (⟨false || !(rd4 e2.data.toList).2⟩ : FieldR) e3 (by assumption)) Tryz.call89 true [(109, 0)] [] [] (by kernel_rfl) (by kernel_rfl) (by kernel_rfl) (by kernel_rfl) (by kernel_rfl) trivial ?_
 refine At.z 2 ?_
 refine AW.r ?_
 refine At.a 2 ?_
 refine At.iSl 46 29 (.tmp 28) (.const (.int .i64 4)) false 1 (ws.map encS) .i64 4 9 (by omega) (by simp only [List.length_map]; omega) ?_
 refine Exists.elim (gE ws 4 (by omega)) fun e4 he4 => ?_
 have hwe4 := wb_at he4
 have hze4 := hs _ (List.mem_of_getElem? he4)
 refine At.lVp 9 30 (.tmp 29) false 1 (ws.map encS) 4 0 false 1 (encS e4) (.str e4) (mapGet he4) ?_
 refine At.callO glStay rfl (impl_fieldReader_number_spec  (⟨(false || !(rd4 e2.data.toList).2) || !(rd4 e3.data.toList).2⟩ : FieldR) e4 (by assumption)) Tryz.call89 true [(109, 0)] [] [] (by kernel_rfl) (by kernel_rfl) (by kernel_rfl) (by kernel_rfl) (by kernel_rfl) trivial ?_
 refine At.z 2 ?_
 refine AW.r ?_
 refine At.a 1 ?_
 refine At.iSl 46 35 (.tmp 34) (.const (.int .i64 5)) false 1 (ws.map encS) .i64 5 9 (by omega) (by simp only [List.length_map]; omega) ?_
 refine Exists.elim (gE ws 5 (by omega)) fun e5 he5 => ?_
 have hwe5 := wb_at he5
 have hze5 := hs _ (List.mem_of_getElem? he5)
 refine At.lVp 9 36 (.tmp 35) false 1 (ws.map encS) 5 0 false 1 (encS e5) (.str e5) (mapGet he5) ?_
 refine At.callO glStay rfl (FnSpecQ.toO (fun _ h => h) (impl_OnRead_spec  e5 (by assumption))) Tryz.call90 true [] [] [] (by kernel_rfl) (by kernel_rfl) (by kernel_rfl) (by kernel_rfl) (by kernel_rfl) trivial ?_
 refine At.z 6 ?_
 refine AW.q 3 ?_
 refine AW.r ?_
 refine At.a 2 ?_
 refine At.iSl 46 44 (.tmp 43) (.const (.int .i64 6)) false 1 (ws.map encS) .i64 6 9 (by omega) (by simp only [List.length_map]; omega) ?_
 refine Exists.elim (gE ws 6 (by omega)) fun e6 he6 => ?_
 have hwe6 := wb_at he6
 have hze6 := hs _ (List.mem_of_getElem? he6)
 refine At.lVp 9 45 (.tmp 44) false 1 (ws.map encS) 6 0 false 1 (encS e6) (.str e6) (mapGet he6) ?_
 refine At.callO glStay rfl (impl_fieldReader_number_spec  (⟨((false || !(rd4 e2.data.toList).2) || !(rd4 e3.data.toList).2) || !(rd4 e4.data.toList).2⟩ : FieldR) e6 (by assumption)) Tryz.call89 true [(109, 0)] [] [] (by kernel_rfl) (by kernel_rfl) (by kernel_rfl) (by kernel_rfl) (by kernel_rfl) trivial ?_
 refine At.z 2 ?_
 refine AW.r ?_
 refine At.a 2 ?_
 refine At.iSl 46 50 (.tmp 49) (.const (.int .i64 7)) false 1 (ws.map encS) .i64 7 9 (by omega) (by simp only [List.length_map]; omega) ?_
 refine Exists.elim (gE ws 7 (by omega)) fun e7 he7 => ?_
 have hwe7 := wb_at he7
 have hze7 := hs _ (List.mem_of_getElem? he7)
 refine At.lVp 9 51 (.tmp 50) false 1 (ws.map encS) 7 0 false 1 (encS e7) (.str e7) (mapGet he7) ?_
 refine At.callO glStay rfl (impl_fieldReader_number_spec  (⟨(((false || !(rd4 e2.data.toList).2) || !(rd4 e3.data.toList).2) || !(rd4 e4.data.toList).2) || !(rd4 e6.data.toList).2⟩ : FieldR) e7 (by assumption)) Tryz.call89 true [(109, 0)] [] [] (by kernel_rfl) (by kernel_rfl) (by kernel_rfl) (by kernel_rfl) (by kernel_rfl) trivial ?_
 refine At.z 2 ?_
 refine AW.seq ?_
 refine AW.gD Tryz_mix ?_
 refine At.a 3 ?_
 by_cases h1 : ((onRI e5.data.toList).2) = true
 · refine At.sB 56 ((onRI e5.data.toList).2) true (sayB h1) ?_
   refine At.a 7 ?_
   by_cases h2 : (((((false || !(rd4 e2.data.toList).2) || !(rd4 e3.data.toList).2) || !(rd4 e4.data.toList).2) || !(rd4 e6.data.toList).2) || !(rd4 e7.data.toList).2) = true
   · refine At.sB 63 (!(((((false || !(rd4 e2.data.toList).2) || !(rd4 e3.data.toList).2) || !(rd4 e4.data.toList).2) || !(rd4 e6.data.toList).2) || !(rd4 e7.data.toList).2)) false (sayNF (sayB h2)) ?_
     refine At.zD 5 ?_
     exact AW.ret (rf (k2 (K_impl_readRule _ ws) (show ((⟨nm e1.data.toList, (rd4 e2.data.toList).1, (rd4 e3.data.toList).1, (rd4 e4.data.toList).1, ((onRI e5.data.toList).1), (rd4 e6.data.toList).1, (rd4 e7.data.toList).1⟩ : Rul)) = (rulW (wb ws)) from by unfold rulW; rw [hwe1, hwe2, hwe3, hwe4, hwe5, hwe6, hwe7]) (show (false) = (rulOk (wb ws)) from by exact rulOk_2 (by rw [← rulOk_bad, hwe2, hwe3, hwe4, hwe6, hwe7]) h2) (KF.n [])))
   refine At.sB 63 (!(((((false || !(rd4 e2.data.toList).2) || !(rd4 e3.data.toList).2) || !(rd4 e4.data.toList).2) || !(rd4 e6.data.toList).2) || !(rd4 e7.data.toList).2)) true (sayNT (sayB (Bool.eq_false_iff.2 h2))) ?_
   replace h2 := Bool.eq_false_iff.2 h2
   refine At.a 1 ?_
   refine At.c (impl_ruleOk_spec  (⟨nm e1.data.toList, (rd4 e2.data.toList).1, (rd4 e3.data.toList).1, (rd4 e4.data.toList).1, ((onRI e5.data.toList).1), (rd4 e6.data.toList).1, (rd4 e7.data.toList).1⟩ : Rul) ) Tryz.call23 true [] [] [] trivial ?_
   refine At.zD 3 ?_
   exact AW.ret (rf (k2 (K_impl_readRule _ ws) (show ((⟨nm e1.data.toList, (rd4 e2.data.toList).1, (rd4 e3.data.toList).1, (rd4 e4.data.toList).1, ((onRI e5.data.toList).1), (rd4 e6.data.toList).1, (rd4 e7.data.toList).1⟩ : Rul)) = (rulW (wb ws)) from by unfold rulW; rw [hwe1, hwe2, hwe3, hwe4, hwe5, hwe6, hwe7]) (show (ruleOk (⟨nm e1.data.toList, (rd4 e2.data.toList).1, (rd4 e3.data.toList).1, (rd4 e4.data.toList).1, ((onRI e5.data.toList).1), (rd4 e6.data.toList).1, (rd4 e7.data.toList).1⟩ : Rul)) = (rulOk (wb ws)) from by have q := rulOk_3 (ws := wb ws) (by rw [hwe5]; exact h1) (by rw [← rulOk_bad, hwe2, hwe3, hwe4, hwe6, hwe7]) h2; unfold rulW at q; rw [hwe1, hwe2, hwe3, hwe4, hwe5, hwe6, hwe7] at q; exact q) (KF.n [])))
 refine At.sB 56 ((onRI e5.data.toList).2) false (sayB (Bool.eq_false_iff.2 h1)) ?_
 replace h1 := Bool.eq_false_iff.2 h1
 refine At.zD 12 ?_
 exact AW.ret (rf (k2 (K_impl_readRule _ ws) (show ((⟨nm e1.data.toList, (rd4 e2.data.toList).1, (rd4 e3.data.toList).1, (rd4 e4.data.toList).1, ((onRI e5.data.toList).1), (rd4 e6.data.toList).1, (rd4 e7.data.toList).1⟩ : Rul)) = (rulW (wb ws)) from by unfold rulW; rw [hwe1, hwe2, hwe3, hwe4, hwe5, hwe6, hwe7]) (show (false) = (rulOk (wb ws)) from by exact rulOk_1 (by rw [hwe5]; exact h1)) (KF.n [])))
def K_impl_Source_rule (rs : List ResultVar) (s : Srce) (ws : List ByteArray) (w0_ : Int) (w1_ : Srce) : Exit → Sg → Prop := KF Tryz.prog 4 rs (.int .i64 w0_) [.box 28 [.ref 4, .ref 2, .ref 3], .dead, .arr 49 3 (w1_.zones.map encZon), .arr 51 2 (w1_.links.map encLnk), .arr 43 9 (w1_.rules.map encRul)]
theorem impl_Source_rule_spec  (s : Srce) (ws : List ByteArray) (hl : ws.length = 8) (hs : ∀ x ∈ ws, x.size ≤ 1048576) (hz : (s.rules.length ≤ 1048576 ∧ s.zones.length ≤ 1048576 ∧ s.links.length ≤ 1048576)) : FnSpecO 8 GB Tryz.prog 57 [.ptr 0 0 0, .sl false 1 (ws.map encS)] [.box 28 [.ref 1, .ref 2, .ref 3], .arr 43 9 (s.rules.map encRul), .arr 49 3 (s.zones.map encZon), .arr 51 2 (s.links.map encLnk)] (.int .i64 ((stepR s (wb ws)).2)) [.box 28 [.ref 4, .ref 2, .ref 3], .dead, .arr 49 3 ((((stepR s (wb ws)).1).zones).map encZon), .arr 51 2 ((((stepR s (wb ws)).1).links).map encLnk), .arr 43 9 ((((stepR s (wb ws)).1).rules).map encRul)] := by
 refine FnSpecO.of 46 Tryz.func57 rfl Tryz.ntmps57 (by simp) (AW.weakK ?_)
 refine AW.q 1 ?_
 refine AW.r ?_
 refine At.a 1 ?_
 refine At.callO glStay rfl (impl_readRule_spec  ws hl hs) Tryz.call75 true [] [] [] (by kernel_rfl) (by kernel_rfl) (by kernel_rfl) (by kernel_rfl) (by kernel_rfl) trivial ?_
 refine At.z 6 ?_
 refine AW.seq ?_
 refine AW.block ?_
 refine AW.q 3 ?_
 refine AW.cNB (rulOk (wb ws)) (fun h1 => ?_) (fun h1 => ?_)
 · refine AW.q 1 ?_
   refine AW.ret ?_
   refine ⟨_, (Sub.trans (Sub.refl _ _) (Sub.mv 1 8001 (by kernel_rfl) (by decide))), ?_⟩
   exact k2 (K_impl_Source_rule _ s ws) (show (5) = ((stepR s (wb ws)).2) from by rw [stepR_5 (by assumption)]; first | done | rfl) (show (s) = ((stepR s (wb ws)).1) from by rw [stepR_5 (by assumption)]; first | done | rfl) (KF.n [(0, 0), (1, 1), (2, 2), (3, 3), (8001, 4)])
 refine AW.seq ?_
 refine AW.gD Tryz_mix ?_
 refine At.a 5 ?_
 refine At.sL 20 encZon s.zones ?_
 refine At.a 5 ?_
 refine At.sL 25 encLnk s.links ?_
 refine At.a 1 ?_
 refine At.sI 26 ((s.zones.length : Int) + (s.links.length : Int)) (by omega) ?_
 refine At.a 2 ?_
 by_cases h2 : ((s.zones.length : Int) + (s.links.length : Int)) > 0
 · refine At.sB 28 _ _ (sayT h2) ?_
   refine At.zD 8 ?_
   refine AW.cond true (by kernel_rfl) (fun _ => ?_) (fun h => by cases h)
   refine AW.q 1 ?_
   refine AW.ret ?_
   refine ⟨_, (Sub.trans (Sub.refl _ _) (Sub.mv 1 8001 (by kernel_rfl) (by decide))), ?_⟩
   exact k2 (K_impl_Source_rule _ s ws) (show (6) = ((stepR s (wb ws)).2) from by rw [stepR_6 (by assumption) (.inl (by assumption))]; first | done | rfl) (show (s) = ((stepR s (wb ws)).1) from by rw [stepR_6 (by assumption) (.inl (by assumption))]; first | done | rfl) (KF.n [(0, 0), (1, 1), (2, 2), (3, 3), (8001, 4)])
 refine At.sB 28 _ _ (sayF h2) ?_
 refine At.a 5 ?_
 refine At.sL 33 encRul s.rules ?_
 refine At.zD 3 ?_
 refine AW.cE (s.rules.length : Int) (20 : Int) (fun h3 => ?_) (fun h3 => ?_)
 · refine AW.q 1 ?_
   refine AW.ret ?_
   refine ⟨_, (Sub.trans (Sub.refl _ _) (Sub.mv 1 8001 (by kernel_rfl) (by decide))), ?_⟩
   exact k2 (K_impl_Source_rule _ s ws) (show (6) = ((stepR s (wb ws)).2) from by rw [stepR_6 (by assumption) (.inr (by assumption))]; first | done | rfl) (show (s) = ((stepR s (wb ws)).1) from by rw [stepR_6 (by assumption) (.inr (by assumption))]; first | done | rfl) (KF.n [(0, 0), (1, 1), (2, 2), (3, 3), (8001, 4)])
 refine AW.skip ?_
 refine AW.seq ?_
 refine AW.gD Tryz_mix ?_
 refine At.a 6 ?_
 refine At.ll 42 43 9 142 (0, 6) (([(rulW (wb ws))]).map encRul) ?_
 refine At.apK 43 43 9 72 143 1 142 encRul s.rules ([(rulW (wb ws))]) (by simp only [List.length_map, List.length_append, List.length_take, List.length_drop, List.length_replicate, List.length_set, List.length_cons, List.length_nil]; omega) ?_
 refine At.zD 3 ?_
 refine AW.q 1 ?_
 exact AW.ret (rf (k2 (K_impl_Source_rule _ s ws) (show (0) = ((stepR s (wb ws)).2) from by rw [stepR_0 (by assumption) (by assumption) (by assumption)]; first | done | rfl) (show ((⟨s.rules ++ ([(rulW (wb ws))]), s.zones, s.links⟩ : Srce)) = ((stepR s (wb ws)).1) from by rw [stepR_0 (by assumption) (by assumption) (by assumption)]; first | done | rfl) (KF.n [(0, 0), (1, 1), (2, 2), (3, 3), (143, 4)])))
def K_impl_readZone (rs : List ResultVar) (ws : List ByteArray) (w0_ : Zon) (w1_ : Bool) : Exit → Sg → Prop := KF Tryz.prog 0 rs (.tup [.agg [.int .i64 w0_.name, .int .i64 w0_.off, .int .i64 w0_.rule], .bool w1_]) []
theorem impl_readZone_spec  (ws : List ByteArray) (hl : ws.length = 4) (hs : ∀ x ∈ ws, x.size ≤ 1048576) : FnSpecO 8 GB Tryz.prog 76 [.sl false 1 (ws.map encS)] [] (.tup [.agg [.int .i64 ((zonW (wb ws)).name), .int .i64 ((zonW (wb ws)).off), .int .i64 ((zonW (wb ws)).rule)], .bool (zonOk (wb ws))]) [] := by
 refine FnSpecO.of 45 Tryz.func76 rfl Tryz.ntmps76 (by simp) (AW.weakK ?_)
 refine AW.q 2 ?_
 refine AW.q 3 ?_
 refine AW.seq ?_
 refine AW.gD Tryz_mix ?_
 refine At.a 1 ?_
 refine At.iSl 46 10 (.tmp 9) (.const (.int .i64 1)) false 1 (ws.map encS) .i64 1 9 (by omega) (by simp only [List.length_map]; omega) ?_
 refine Exists.elim (gE ws 1 (by omega)) fun e1 he1 => ?_
 have hwe1 := wb_at he1
 have hze1 := hs _ (List.mem_of_getElem? he1)
 refine At.lVp 9 11 (.tmp 10) false 1 (ws.map encS) 1 0 false 1 (encS e1) (.str e1) (mapGet he1) ?_
 refine At.c (impl_nameOf_spec  e1 ) Tryz.call77 true [] [] [] trivial ?_
 refine At.a 1 ?_
 refine At.iSl 46 14 (.tmp 13) (.const (.int .i64 3)) false 1 (ws.map encS) .i64 3 9 (by omega) (by simp only [List.length_map]; omega) ?_
 refine Exists.elim (gE ws 3 (by omega)) fun e2 he2 => ?_
 have hwe2 := wb_at he2
 have hze2 := hs _ (List.mem_of_getElem? he2)
 refine At.lVp 9 15 (.tmp 14) false 1 (ws.map encS) 3 0 false 1 (encS e2) (.str e2) (mapGet he2) ?_
 refine At.c (impl_nameOf_spec  e2 ) Tryz.call77 true [] [] [] trivial ?_
 refine At.zD 3 ?_
 refine AW.r ?_
 refine At.a 2 ?_
 refine At.iSl 46 20 (.tmp 19) (.const (.int .i64 2)) false 1 (ws.map encS) .i64 2 9 (by omega) (by simp only [List.length_map]; omega) ?_
 refine Exists.elim (gE ws 2 (by omega)) fun e3 he3 => ?_
 have hwe3 := wb_at he3
 have hze3 := hs _ (List.mem_of_getElem? he3)
 refine At.lVp 9 21 (.tmp 20) false 1 (ws.map encS) 2 0 false 1 (encS e3) (.str e3) (mapGet he3) ?_
 refine At.callO glStay rfl (impl_fieldReader_number_spec  (⟨false⟩ : FieldR) e3 (by assumption)) Tryz.call89 true [(108, 0)] [] [] (by kernel_rfl) (by kernel_rfl) (by kernel_rfl) (by kernel_rfl) (by kernel_rfl) trivial ?_
 refine At.z 2 ?_
 refine AW.r ?_
 refine At.a 2 ?_
 refine At.c (impl_isSmall_spec  (nm e2.data.toList) ) Tryz.call44 true [] [] [] trivial ?_
 refine At.z 1 ?_
 refine AW.seq ?_
 refine AW.r ?_
 refine At.a 1 ?_
 refine At.iSl 46 28 (.tmp 27) (.const (.int .i64 3)) false 1 (ws.map encS) .i64 3 9 (by omega) (by simp only [List.length_map]; omega) ?_
 refine At.lVp 9 29 (.tmp 28) false 1 (ws.map encS) 3 0 false 1 (encS e2) (.str e2) (mapGet he2) ?_
 refine At.z 1 ?_
 refine AW.cE (e2.toList) ((⟨#[45]⟩ : ByteArray).toList) (fun h1 => ?_) (fun h1 => ?_)
 · refine AW.gq 3 ?_
   refine AW.seq ?_
   refine AW.gD Tryz_mix ?_
   refine At.a 10 ?_
   by_cases h2 : (false || !(rd4 e3.data.toList).2) = true
   · refine At.sB 41 (!(false || !(rd4 e3.data.toList).2)) false (sayNF (sayB h2)) ?_
     refine At.zD 5 ?_
     exact AW.ret (rf (k2 (K_impl_readZone _ ws) (show ((⟨nm e1.data.toList, (rd4 e3.data.toList).1, 0⟩ : Zon)) = (zonW (wb ws)) from by exact zW_d hwe1 hwe3 hwe2 (by assumption)) (show (false) = (zonOk (wb ws)) from by exact zO_2 hwe3 (by assumption)) (KF.n [])))
   refine At.sB 41 (!(false || !(rd4 e3.data.toList).2)) true (sayNT (sayB (Bool.eq_false_iff.2 h2))) ?_
   replace h2 := Bool.eq_false_iff.2 h2
   refine At.a 1 ?_
   refine At.c (impl_zoneOk_spec  (⟨nm e1.data.toList, (rd4 e3.data.toList).1, 0⟩ : Zon) ) Tryz.call24 true [] [] [] trivial ?_
   refine At.zD 3 ?_
   exact AW.ret (rf (k2 (K_impl_readZone _ ws) (show ((⟨nm e1.data.toList, (rd4 e3.data.toList).1, 0⟩ : Zon)) = (zonW (wb ws)) from by exact zW_d hwe1 hwe3 hwe2 (by assumption)) (show (zoneOk (⟨nm e1.data.toList, (rd4 e3.data.toList).1, 0⟩ : Zon)) = (zonOk (wb ws)) from by exact zO_3 hwe1 hwe3 hwe2 (by assumption) (by assumption)) (KF.n [])))
 refine AW.skip ?_
 refine AW.seq ?_
 refine AW.gD Tryz_mix ?_
 refine At.a 3 ?_
 by_cases h3 : (inR (nm e2.data.toList) 97 122) = true
 · refine At.sB 34 (inR (nm e2.data.toList) 97 122) true (sayB h3) ?_
   have h3i := inR_iff.1 h3
   refine At.a 7 ?_
   by_cases h4 : (false || !(rd4 e3.data.toList).2) = true
   · refine At.sB 41 (!(false || !(rd4 e3.data.toList).2)) false (sayNF (sayB h4)) ?_
     refine At.zD 5 ?_
     exact AW.ret (rf (k2 (K_impl_readZone _ ws) (show ((⟨nm e1.data.toList, (rd4 e3.data.toList).1, nm e2.data.toList⟩ : Zon)) = (zonW (wb ws)) from by exact zW_n hwe1 hwe3 hwe2 (by assumption)) (show (false) = (zonOk (wb ws)) from by exact zO_2 hwe3 (by assumption)) (KF.n [])))
   refine At.sB 41 (!(false || !(rd4 e3.data.toList).2)) true (sayNT (sayB (Bool.eq_false_iff.2 h4))) ?_
   replace h4 := Bool.eq_false_iff.2 h4
   refine At.a 1 ?_
   refine At.c (impl_zoneOk_spec  (⟨nm e1.data.toList, (rd4 e3.data.toList).1, nm e2.data.toList⟩ : Zon) ) Tryz.call24 true [] [] [] trivial ?_
   refine At.zD 3 ?_
   exact AW.ret (rf (k2 (K_impl_readZone _ ws) (show ((⟨nm e1.data.toList, (rd4 e3.data.toList).1, nm e2.data.toList⟩ : Zon)) = (zonW (wb ws)) from by exact zW_n hwe1 hwe3 hwe2 (by assumption)) (show (zoneOk (⟨nm e1.data.toList, (rd4 e3.data.toList).1, nm e2.data.toList⟩ : Zon)) = (zonOk (wb ws)) from by exact zO_4 hwe1 hwe3 hwe2 (by assumption) (by assumption) (by assumption)) (KF.n [])))
 refine At.sB 34 (inR (nm e2.data.toList) 97 122) false (sayB (Bool.eq_false_iff.2 h3)) ?_
 replace h3 := Bool.eq_false_iff.2 h3
 refine At.zD 12 ?_
 exact AW.ret (rf (k2 (K_impl_readZone _ ws) (show ((⟨nm e1.data.toList, (rd4 e3.data.toList).1, nm e2.data.toList⟩ : Zon)) = (zonW (wb ws)) from by exact zW_n hwe1 hwe3 hwe2 (by assumption)) (show (false) = (zonOk (wb ws)) from by exact zO_1 hwe2 (by assumption) (by assumption)) (KF.n [])))
def K_impl_Source_zone (rs : List ResultVar) (s : Srce) (ws : List ByteArray) (w0_ : Int) (w1_ : Srce) : Exit → Sg → Prop := KF Tryz.prog 4 rs (.int .i64 w0_) [.box 28 [.ref 1, .ref 4, .ref 3], .arr 43 9 (w1_.rules.map encRul), .dead, .arr 51 2 (w1_.links.map encLnk), .arr 49 3 (w1_.zones.map encZon)]
theorem impl_Source_zone_spec  (s : Srce) (ws : List ByteArray) (hl : ws.length = 4) (hs : ∀ x ∈ ws, x.size ≤ 1048576) (hz : (s.rules.length ≤ 1048576 ∧ s.zones.length ≤ 1048576 ∧ s.links.length ≤ 1048576)) : FnSpecO 8 GB Tryz.prog 58 [.ptr 0 0 0, .sl false 1 (ws.map encS)] [.box 28 [.ref 1, .ref 2, .ref 3], .arr 43 9 (s.rules.map encRul), .arr 49 3 (s.zones.map encZon), .arr 51 2 (s.links.map encLnk)] (.int .i64 ((stepZ (zonOk (wb ws)) (zonW (wb ws)) s).2)) [.box 28 [.ref 1, .ref 4, .ref 3], .arr 43 9 ((((stepZ (zonOk (wb ws)) (zonW (wb ws)) s).1).rules).map encRul), .dead, .arr 51 2 ((((stepZ (zonOk (wb ws)) (zonW (wb ws)) s).1).links).map encLnk), .arr 49 3 ((((stepZ (zonOk (wb ws)) (zonW (wb ws)) s).1).zones).map encZon)] := by
 refine FnSpecO.of 70 Tryz.func58 rfl Tryz.ntmps58 (by simp) (AW.weakK ?_)
 refine AW.q 1 ?_
 refine AW.r ?_
 refine At.a 1 ?_
 refine At.callO glStay rfl (impl_readZone_spec  ws hl hs) Tryz.call76 true [] [] [] (by kernel_rfl) (by kernel_rfl) (by kernel_rfl) (by kernel_rfl) (by kernel_rfl) trivial ?_
 refine At.z 6 ?_
 refine AW.r ?_
 refine At.a 5 ?_
 refine At.sL 17 encZon s.zones ?_
 refine At.a 1 ?_
 refine At.sI 18 ((s.zones.length : Int) - 1) (by omega) ?_
 refine At.z 1 ?_
 refine AW.seq ?_
 refine AW.block ?_
 refine AW.q 3 ?_
 refine AW.cNB (zonOk (wb ws)) (fun h1 => ?_) (fun h1 => ?_)
 · refine AW.q 1 ?_
   refine AW.ret ?_
   refine ⟨_, (Sub.trans (Sub.refl _ _) (Sub.mv 2 8002 (by kernel_rfl) (by decide))), ?_⟩
   exact k2 (K_impl_Source_zone _ s ws) (show (5) = ((stepZ (zonOk (wb ws)) (zonW (wb ws)) s).2) from by rw [stepZ_5 (by assumption)]; first | done | rfl) (show (s) = ((stepZ (zonOk (wb ws)) (zonW (wb ws)) s).1) from by rw [stepZ_5 (by assumption)]; first | done | rfl) (KF.n [(0, 0), (1, 1), (2, 2), (3, 3), (8002, 4)])
 refine AW.seq ?_
 refine AW.gD Tryz_mix ?_
 refine At.a 5 ?_
 refine At.sL 27 encLnk s.links ?_
 refine At.a 2 ?_
 by_cases h2 : (s.links.length : Int) > 0
 · refine At.sB 29 _ _ (sayT h2) ?_
   refine At.zD 31 ?_
   refine AW.cond true (by kernel_rfl) (fun _ => ?_) (fun h => by cases h)
   refine AW.q 1 ?_
   refine AW.ret ?_
   refine ⟨_, (Sub.trans (Sub.refl _ _) (Sub.mv 2 8002 (by kernel_rfl) (by decide))), ?_⟩
   exact k2 (K_impl_Source_zone _ s ws) (show (6) = ((stepZ (zonOk (wb ws)) (zonW (wb ws)) s).2) from by rw [stepZ_6 (by assumption) (.inl (by assumption))]; first | done | rfl) (show (s) = ((stepZ (zonOk (wb ws)) (zonW (wb ws)) s).1) from by rw [stepZ_6 (by assumption) (.inl (by assumption))]; first | done | rfl) (KF.n [(0, 0), (1, 1), (2, 2), (3, 3), (8002, 4)])
 refine At.sB 29 _ _ (sayF h2) ?_
 refine At.a 3 ?_
 by_cases h3 : ((s.zones.length : Int) - 1) ≥ 0
 · refine At.sB 32 _ _ (sayT h3) ?_
   refine At.a 5 ?_
   refine At.iRf 25 38 (.tmp 36) (.tmp 37) 2 (s.zones.map encZon) .i64 ((s.zones.length : Int) - 1) 49 3 (by omega) (by simp only [List.length_map]; omega) ?_
   refine At.a 1 ?_
   refine Exists.elim (gE s.zones (((s.zones.length : Int) - 1).toNat) (by omega)) fun e1 he1 => ?_
   refine At.lEl 3 40 (.tmp 39) 2 49 3 (s.zones.map encZon) (((s.zones.length : Int) - 1).toNat) 0 false 1 (encZon e1) (.int .i64 e1.name) (mapGet he1) ?_
   refine At.a 6 ?_
   by_cases h4 : e1.name ≥ ((zonW (wb ws)).name)
   · refine At.sB 46 _ _ (sayT h4) ?_
     refine At.zD 14 ?_
     refine AW.cond true (by kernel_rfl) (fun _ => ?_) (fun h => by cases h)
     refine AW.q 1 ?_
     refine AW.ret ?_
     refine ⟨_, (Sub.trans (Sub.refl _ _) (Sub.mv 2 8002 (by kernel_rfl) (by decide))), ?_⟩
     exact k2 (K_impl_Source_zone _ s ws) (show (6) = ((stepZ (zonOk (wb ws)) (zonW (wb ws)) s).2) from by rw [stepZ_6 (by assumption) (.inr (zone1_f2 (by rw [lastZ_len he1]; omega)))]; first | done | rfl) (show (s) = ((stepZ (zonOk (wb ws)) (zonW (wb ws)) s).1) from by rw [stepZ_6 (by assumption) (.inr (zone1_f2 (by rw [lastZ_len he1]; omega)))]; first | done | rfl) (KF.n [(0, 0), (1, 1), (2, 2), (3, 3), (8002, 4)])
   refine At.sB 46 _ _ (sayF h4) ?_
   refine At.a 4 ?_
   by_cases h5 : (zonW (wb ws)).rule = 0
   · refine At.sB 50 _ _ (sayUF h5) ?_
     refine At.zD 10 ?_
     refine AW.cond false (by kernel_rfl) (fun h => by cases h) (fun _ => ?_)
     refine AW.skip ?_
     refine AW.seq ?_
     refine AW.gD Tryz_mix ?_
     refine At.a 6 ?_
     refine At.ll 66 49 3 166 (0, 6) (([(zonW (wb ws))]).map encZon) ?_
     refine At.apK 67 49 3 24 167 2 166 encZon s.zones ([(zonW (wb ws))]) (by simp only [List.length_map, List.length_append, List.length_take, List.length_drop, List.length_replicate, List.length_set, List.length_cons, List.length_nil]; omega) ?_
     refine At.zD 3 ?_
     refine AW.q 1 ?_
     exact AW.ret (rf (k2 (K_impl_Source_zone _ s ws) (show (0) = ((stepZ (zonOk (wb ws)) (zonW (wb ws)) s).2) from by rw [stepZ_0 (by assumption) (by assumption) (zonOk_1t (by assumption) (by first | (rw [lastZ_len he1]; omega) | (rw [lastZ_neg (by assumption)]; exact zonOk_pos (by assumption))) (by first | exact .inl (by assumption) | exact .inr (by assumption)))]; first | done | rfl) (show ((⟨s.rules, s.zones ++ ([(zonW (wb ws))]), s.links⟩ : Srce)) = ((stepZ (zonOk (wb ws)) (zonW (wb ws)) s).1) from by rw [stepZ_0 (by assumption) (by assumption) (zonOk_1t (by assumption) (by first | (rw [lastZ_len he1]; omega) | (rw [lastZ_neg (by assumption)]; exact zonOk_pos (by assumption))) (by first | exact .inl (by assumption) | exact .inr (by assumption)))]; first | done | rfl) (KF.n [(0, 0), (1, 1), (2, 2), (3, 3), (167, 4)])))
   refine At.sB 50 _ _ (sayUT h5) ?_
   refine At.a 5 ?_
   refine At.c (impl_hasRule_spec  s ((zonW (wb ws)).rule) ) Tryz.call25 false [] [] [(1, 9, (s.rules.map encRul)), (2, 3, (s.zones.map encZon)), (3, 2, (s.links.map encLnk))] ⟨rfl, ⟨43, (s.rules.map encRul), by kernel_rfl, FrzIs.same (allP_encRul _)⟩, rfl, ⟨49, (s.zones.map encZon), by kernel_rfl, FrzIs.same (allP_encZon _)⟩, rfl, ⟨51, (s.links.map encLnk), by kernel_rfl, FrzIs.same (allP_encLnk _)⟩, trivial⟩ ?_
   refine At.zD 4 ?_
   refine AW.cNB (hasR ((zonW (wb ws)).rule) s.rules) (fun h6 => ?_) (fun h6 => ?_)
   · refine AW.q 1 ?_
     refine AW.ret ?_
     refine ⟨_, (Sub.trans (Sub.refl _ _) (Sub.mv 2 8002 (by kernel_rfl) (by decide))), ?_⟩
     exact k2 (K_impl_Source_zone _ s ws) (show (6) = ((stepZ (zonOk (wb ws)) (zonW (wb ws)) s).2) from by rw [stepZ_6 (by assumption) (.inr (zone1_f3 (by assumption) (by assumption)))]; first | done | rfl) (show (s) = ((stepZ (zonOk (wb ws)) (zonW (wb ws)) s).1) from by rw [stepZ_6 (by assumption) (.inr (zone1_f3 (by assumption) (by assumption)))]; first | done | rfl) (KF.n [(0, 0), (1, 1), (2, 2), (3, 3), (8002, 4)])
   refine AW.skip ?_
   refine AW.seq ?_
   refine AW.gD Tryz_mix ?_
   refine At.a 6 ?_
   refine At.ll 66 49 3 166 (0, 6) (([(zonW (wb ws))]).map encZon) ?_
   refine At.apK 67 49 3 24 167 2 166 encZon s.zones ([(zonW (wb ws))]) (by simp only [List.length_map, List.length_append, List.length_take, List.length_drop, List.length_replicate, List.length_set, List.length_cons, List.length_nil]; omega) ?_
   refine At.zD 3 ?_
   refine AW.q 1 ?_
   exact AW.ret (rf (k2 (K_impl_Source_zone _ s ws) (show (0) = ((stepZ (zonOk (wb ws)) (zonW (wb ws)) s).2) from by rw [stepZ_0 (by assumption) (by assumption) (zonOk_1t (by assumption) (by first | (rw [lastZ_len he1]; omega) | (rw [lastZ_neg (by assumption)]; exact zonOk_pos (by assumption))) (by first | exact .inl (by assumption) | exact .inr (by assumption)))]; first | done | rfl) (show ((⟨s.rules, s.zones ++ ([(zonW (wb ws))]), s.links⟩ : Srce)) = ((stepZ (zonOk (wb ws)) (zonW (wb ws)) s).1) from by rw [stepZ_0 (by assumption) (by assumption) (zonOk_1t (by assumption) (by first | (rw [lastZ_len he1]; omega) | (rw [lastZ_neg (by assumption)]; exact zonOk_pos (by assumption))) (by first | exact .inl (by assumption) | exact .inr (by assumption)))]; first | done | rfl) (KF.n [(0, 0), (1, 1), (2, 2), (3, 3), (167, 4)])))
 refine At.sB 32 _ _ (sayF h3) ?_
 refine At.a 18 ?_
 by_cases h7 : (zonW (wb ws)).rule = 0
 · refine At.sB 50 _ _ (sayUF h7) ?_
   refine At.zD 10 ?_
   refine AW.cond false (by kernel_rfl) (fun h => by cases h) (fun _ => ?_)
   refine AW.skip ?_
   refine AW.seq ?_
   refine AW.gD Tryz_mix ?_
   refine At.a 6 ?_
   refine At.ll 66 49 3 166 (0, 6) (([(zonW (wb ws))]).map encZon) ?_
   refine At.apK 67 49 3 24 167 2 166 encZon s.zones ([(zonW (wb ws))]) (by simp only [List.length_map, List.length_append, List.length_take, List.length_drop, List.length_replicate, List.length_set, List.length_cons, List.length_nil]; omega) ?_
   refine At.zD 3 ?_
   refine AW.q 1 ?_
   exact AW.ret (rf (k2 (K_impl_Source_zone _ s ws) (show (0) = ((stepZ (zonOk (wb ws)) (zonW (wb ws)) s).2) from by rw [stepZ_0 (by assumption) (by assumption) (zonOk_1t (by assumption) (by first | (rw [lastZ_len he1]; omega) | (rw [lastZ_neg (by assumption)]; exact zonOk_pos (by assumption))) (by first | exact .inl (by assumption) | exact .inr (by assumption)))]; first | done | rfl) (show ((⟨s.rules, s.zones ++ ([(zonW (wb ws))]), s.links⟩ : Srce)) = ((stepZ (zonOk (wb ws)) (zonW (wb ws)) s).1) from by rw [stepZ_0 (by assumption) (by assumption) (zonOk_1t (by assumption) (by first | (rw [lastZ_len he1]; omega) | (rw [lastZ_neg (by assumption)]; exact zonOk_pos (by assumption))) (by first | exact .inl (by assumption) | exact .inr (by assumption)))]; first | done | rfl) (KF.n [(0, 0), (1, 1), (2, 2), (3, 3), (167, 4)])))
 refine At.sB 50 _ _ (sayUT h7) ?_
 refine At.a 5 ?_
 refine At.c (impl_hasRule_spec  s ((zonW (wb ws)).rule) ) Tryz.call25 false [] [] [(1, 9, (s.rules.map encRul)), (2, 3, (s.zones.map encZon)), (3, 2, (s.links.map encLnk))] ⟨rfl, ⟨43, (s.rules.map encRul), by kernel_rfl, FrzIs.same (allP_encRul _)⟩, rfl, ⟨49, (s.zones.map encZon), by kernel_rfl, FrzIs.same (allP_encZon _)⟩, rfl, ⟨51, (s.links.map encLnk), by kernel_rfl, FrzIs.same (allP_encLnk _)⟩, trivial⟩ ?_
 refine At.zD 4 ?_
 refine AW.cNB (hasR ((zonW (wb ws)).rule) s.rules) (fun h8 => ?_) (fun h8 => ?_)
 · refine AW.q 1 ?_
   refine AW.ret ?_
   refine ⟨_, (Sub.trans (Sub.refl _ _) (Sub.mv 2 8002 (by kernel_rfl) (by decide))), ?_⟩
   exact k2 (K_impl_Source_zone _ s ws) (show (6) = ((stepZ (zonOk (wb ws)) (zonW (wb ws)) s).2) from by rw [stepZ_6 (by assumption) (.inr (zone1_f3 (by assumption) (by assumption)))]; first | done | rfl) (show (s) = ((stepZ (zonOk (wb ws)) (zonW (wb ws)) s).1) from by rw [stepZ_6 (by assumption) (.inr (zone1_f3 (by assumption) (by assumption)))]; first | done | rfl) (KF.n [(0, 0), (1, 1), (2, 2), (3, 3), (8002, 4)])
 refine AW.skip ?_
 refine AW.seq ?_
 refine AW.gD Tryz_mix ?_
 refine At.a 6 ?_
 refine At.ll 66 49 3 166 (0, 6) (([(zonW (wb ws))]).map encZon) ?_
 refine At.apK 67 49 3 24 167 2 166 encZon s.zones ([(zonW (wb ws))]) (by simp only [List.length_map, List.length_append, List.length_take, List.length_drop, List.length_replicate, List.length_set, List.length_cons, List.length_nil]; omega) ?_
 refine At.zD 3 ?_
 refine AW.q 1 ?_
 exact AW.ret (rf (k2 (K_impl_Source_zone _ s ws) (show (0) = ((stepZ (zonOk (wb ws)) (zonW (wb ws)) s).2) from by rw [stepZ_0 (by assumption) (by assumption) (zonOk_1t (by assumption) (by first | (rw [lastZ_len he1]; omega) | (rw [lastZ_neg (by assumption)]; exact zonOk_pos (by assumption))) (by first | exact .inl (by assumption) | exact .inr (by assumption)))]; first | done | rfl) (show ((⟨s.rules, s.zones ++ ([(zonW (wb ws))]), s.links⟩ : Srce)) = ((stepZ (zonOk (wb ws)) (zonW (wb ws)) s).1) from by rw [stepZ_0 (by assumption) (by assumption) (zonOk_1t (by assumption) (by first | (rw [lastZ_len he1]; omega) | (rw [lastZ_neg (by assumption)]; exact zonOk_pos (by assumption))) (by first | exact .inl (by assumption) | exact .inr (by assumption)))]; first | done | rfl) (KF.n [(0, 0), (1, 1), (2, 2), (3, 3), (167, 4)])))
def K_impl_Source_link (rs : List ResultVar) (s : Srce) (ws : List ByteArray) (w0_ : Int) (w1_ : Srce) : Exit → Sg → Prop := KF Tryz.prog 4 rs (.int .i64 w0_) [.box 28 [.ref 1, .ref 2, .ref 4], .arr 43 9 (w1_.rules.map encRul), .arr 49 3 (w1_.zones.map encZon), .dead, .arr 51 2 (w1_.links.map encLnk)]
theorem impl_Source_link_spec  (s : Srce) (ws : List ByteArray) (hl : ws.length = 3) (hs : ∀ x ∈ ws, x.size ≤ 1048576) (hz : (s.rules.length ≤ 1048576 ∧ s.zones.length ≤ 1048576 ∧ s.links.length ≤ 1048576)) : FnSpecO 8 GB Tryz.prog 59 [.ptr 0 0 0, .sl false 1 (ws.map encS)] [.box 28 [.ref 1, .ref 2, .ref 3], .arr 43 9 (s.rules.map encRul), .arr 49 3 (s.zones.map encZon), .arr 51 2 (s.links.map encLnk)] (.int .i64 ((stepL s (wb ws)).2)) [.box 28 [.ref 1, .ref 2, .ref 4], .arr 43 9 ((((stepL s (wb ws)).1).rules).map encRul), .arr 49 3 ((((stepL s (wb ws)).1).zones).map encZon), .dead, .arr 51 2 ((((stepL s (wb ws)).1).links).map encLnk)] := by
 refine FnSpecO.of 77 Tryz.func59 rfl Tryz.ntmps59 (by simp) (AW.weakK ?_)
 refine AW.q 1 ?_
 refine AW.seq ?_
 refine AW.gD Tryz_mix ?_
 refine At.a 1 ?_
 refine At.iSl 46 8 (.tmp 7) (.const (.int .i64 1)) false 1 (ws.map encS) .i64 1 9 (by omega) (by simp only [List.length_map]; omega) ?_
 refine Exists.elim (gE ws 1 (by omega)) fun e1 he1 => ?_
 have hwe1 := wb_at he1
 have hze1 := hs _ (List.mem_of_getElem? he1)
 refine At.lVp 9 9 (.tmp 8) false 1 (ws.map encS) 1 0 false 1 (encS e1) (.str e1) (mapGet he1) ?_
 refine At.c (impl_nameOf_spec  e1 ) Tryz.call77 true [] [] [] trivial ?_
 refine At.a 1 ?_
 refine At.iSl 46 12 (.tmp 11) (.const (.int .i64 2)) false 1 (ws.map encS) .i64 2 9 (by omega) (by simp only [List.length_map]; omega) ?_
 refine Exists.elim (gE ws 2 (by omega)) fun e2 he2 => ?_
 have hwe2 := wb_at he2
 have hze2 := hs _ (List.mem_of_getElem? he2)
 refine At.lVp 9 13 (.tmp 12) false 1 (ws.map encS) 2 0 false 1 (encS e2) (.str e2) (mapGet he2) ?_
 refine At.c (impl_nameOf_spec  e2 ) Tryz.call77 true [] [] [] trivial ?_
 have hL := lW hwe1 hwe2
 refine At.zD 3 ?_
 refine AW.r ?_
 refine At.a 5 ?_
 refine At.sL 20 encLnk s.links ?_
 refine At.a 1 ?_
 refine At.sI 21 ((s.links.length : Int) - 1) (by omega) ?_
 refine At.z 1 ?_
 refine AW.seq ?_
 refine AW.block ?_
 refine AW.r ?_
 refine At.a 2 ?_
 refine At.c (impl_isGreat_spec  (nm e1.data.toList) ) Tryz.call26 true [] [] [] trivial ?_
 refine At.a 2 ?_
 by_cases h1 : (inR (nm e1.data.toList) 65 90) = true
 · refine At.sB 27 (!(inR (nm e1.data.toList) 65 90)) false (sayNF (sayB h1)) ?_
   have h1i := inR_iff.1 h1
   refine At.a 2 ?_
   refine At.c (impl_isGreat_spec  (nm e2.data.toList) ) Tryz.call26 true [] [] [] trivial ?_
   refine At.z 3 ?_
   refine AW.cNB (inR (nm e2.data.toList) 65 90) (fun h2 => ?_) (fun h2 => ?_)
   · refine AW.q 1 ?_
     refine AW.ret ?_
     refine ⟨_, (Sub.trans (Sub.refl _ _) (Sub.mv 3 8003 (by kernel_rfl) (by decide))), ?_⟩
     exact k2 (K_impl_Source_link _ s ws) (show (5) = ((stepL s (wb ws)).2) from by rw [stepL_5 (lnkOk_2 (by rw [hwe2]; assumption))]; first | done | rfl) (show (s) = ((stepL s (wb ws)).1) from by rw [stepL_5 (lnkOk_2 (by rw [hwe2]; assumption))]; first | done | rfl) (KF.n [(0, 0), (1, 1), (2, 2), (3, 3), (8003, 4)])
   have h2i := inR_iff.1 h2
   refine AW.seq ?_
   refine AW.gD Tryz_mix ?_
   refine At.a 3 ?_
   by_cases h3 : ((s.links.length : Int) - 1) ≥ 0
   · refine At.sB 36 _ _ (sayT h3) ?_
     refine At.a 5 ?_
     refine At.iRf 26 42 (.tmp 40) (.tmp 41) 3 (s.links.map encLnk) .i64 ((s.links.length : Int) - 1) 51 2 (by omega) (by simp only [List.length_map]; omega) ?_
     refine At.a 1 ?_
     refine Exists.elim (gE s.links (((s.links.length : Int) - 1).toNat) (by omega)) fun e3 he3 => ?_
     refine At.lEl 3 44 (.tmp 43) 3 51 2 (s.links.map encLnk) (((s.links.length : Int) - 1).toNat) 0 false 1 (encLnk e3) (.int .i64 e3.name) (mapGet he3) ?_
     refine At.a 5 ?_
     by_cases h4 : e3.name ≥ (nm e1.data.toList)
     · refine At.sB 49 _ _ (sayT h4) ?_
       refine At.zD 18 ?_
       refine AW.cond true (by kernel_rfl) (fun _ => ?_) (fun h => by cases h)
       refine AW.q 1 ?_
       refine AW.ret ?_
       refine ⟨_, (Sub.trans (Sub.refl _ _) (Sub.mv 3 8003 (by kernel_rfl) (by decide))), ?_⟩
       exact k2 (K_impl_Source_link _ s ws) (show (6) = ((stepL s (wb ws)).2) from by rw [stepL_6 (lnkOk_t (by rw [hwe1]; assumption) (by rw [hwe2]; assumption)) (by rw [hL]; exact link1_f2 (by rw [lastL_len he3]; dsimp only; omega))]; first | done | rfl) (show (s) = ((stepL s (wb ws)).1) from by rw [stepL_6 (lnkOk_t (by rw [hwe1]; assumption) (by rw [hwe2]; assumption)) (by rw [hL]; exact link1_f2 (by rw [lastL_len he3]; dsimp only; omega))]; first | done | rfl) (KF.n [(0, 0), (1, 1), (2, 2), (3, 3), (8003, 4)])
     refine At.sB 49 _ _ (sayF h4) ?_
     refine At.a 5 ?_
     refine At.c (impl_zoneAt_spec  s (nm e2.data.toList) ) Tryz.call27 false [] [] [(1, 9, (s.rules.map encRul)), (2, 3, (s.zones.map encZon)), (3, 2, (s.links.map encLnk))] ⟨rfl, ⟨43, (s.rules.map encRul), by kernel_rfl, FrzIs.same (allP_encRul _)⟩, rfl, ⟨49, (s.zones.map encZon), by kernel_rfl, FrzIs.same (allP_encZon _)⟩, rfl, ⟨51, (s.links.map encLnk), by kernel_rfl, FrzIs.same (allP_encLnk _)⟩, trivial⟩ ?_
     refine At.a 3 ?_
     by_cases h5 : (posZ (nm e2.data.toList) s.zones 0) < 0
     · refine At.sB 58 _ _ (sayT h5) ?_
       refine At.zD 9 ?_
       refine AW.cond true (by kernel_rfl) (fun _ => ?_) (fun h => by cases h)
       refine AW.q 1 ?_
       refine AW.ret ?_
       refine ⟨_, (Sub.trans (Sub.refl _ _) (Sub.mv 3 8003 (by kernel_rfl) (by decide))), ?_⟩
       exact k2 (K_impl_Source_link _ s ws) (show (6) = ((stepL s (wb ws)).2) from by rw [stepL_6 (lnkOk_t (by rw [hwe1]; assumption) (by rw [hwe2]; assumption)) (by rw [hL]; exact link1_f3 (by assumption))]; first | done | rfl) (show (s) = ((stepL s (wb ws)).1) from by rw [stepL_6 (lnkOk_t (by rw [hwe1]; assumption) (by rw [hwe2]; assumption)) (by rw [hL]; exact link1_f3 (by assumption))]; first | done | rfl) (KF.n [(0, 0), (1, 1), (2, 2), (3, 3), (8003, 4)])
     refine At.sB 58 _ _ (sayF h5) ?_
     refine At.a 5 ?_
     refine At.c (impl_zoneAt_spec  s (nm e1.data.toList) ) Tryz.call27 false [] [] [(1, 9, (s.rules.map encRul)), (2, 3, (s.zones.map encZon)), (3, 2, (s.links.map encLnk))] ⟨rfl, ⟨43, (s.rules.map encRul), by kernel_rfl, FrzIs.same (allP_encRul _)⟩, rfl, ⟨49, (s.zones.map encZon), by kernel_rfl, FrzIs.same (allP_encZon _)⟩, rfl, ⟨51, (s.links.map encLnk), by kernel_rfl, FrzIs.same (allP_encLnk _)⟩, trivial⟩ ?_
     refine At.zD 3 ?_
     refine AW.cD ((posZ (nm e1.data.toList) s.zones 0) ≥ 0) (fun h6 => ?_) (fun h6 => ?_)
     · refine AW.q 1 ?_
       refine AW.ret ?_
       refine ⟨_, (Sub.trans (Sub.refl _ _) (Sub.mv 3 8003 (by kernel_rfl) (by decide))), ?_⟩
       exact k2 (K_impl_Source_link _ s ws) (show (6) = ((stepL s (wb ws)).2) from by rw [stepL_6 (lnkOk_t (by rw [hwe1]; assumption) (by rw [hwe2]; assumption)) (by rw [hL]; exact link1_f4 (by assumption))]; first | done | rfl) (show (s) = ((stepL s (wb ws)).1) from by rw [stepL_6 (lnkOk_t (by rw [hwe1]; assumption) (by rw [hwe2]; assumption)) (by rw [hL]; exact link1_f4 (by assumption))]; first | done | rfl) (KF.n [(0, 0), (1, 1), (2, 2), (3, 3), (8003, 4)])
     refine AW.skip ?_
     refine AW.seq ?_
     refine AW.gD Tryz_mix ?_
     refine At.a 6 ?_
     refine At.ll 73 51 2 173 (0, 6) (([(⟨nm e1.data.toList, nm e2.data.toList⟩ : Lnk)]).map encLnk) ?_
     refine At.apK 74 51 2 16 174 3 173 encLnk s.links ([(⟨nm e1.data.toList, nm e2.data.toList⟩ : Lnk)]) (by simp only [List.length_map, List.length_append, List.length_take, List.length_drop, List.length_replicate, List.length_set, List.length_cons, List.length_nil]; omega) ?_
     refine At.zD 3 ?_
     refine AW.q 1 ?_
     exact AW.ret (rf (k2 (K_impl_Source_link _ s ws) (show (0) = ((stepL s (wb ws)).2) from by rw [stepL_0 (lnkOk_t (by rw [hwe1]; assumption) (by rw [hwe2]; assumption)) (by rw [hL]; exact link1_t (by assumption) (by first | (rw [lastL_len he3]; dsimp only; omega) | (have q := inR_iff.1 (by assumption : inR (nm e1.data.toList) 65 90 = true); rw [lastL_neg (by assumption)]; dsimp only; omega)) (by assumption) (by assumption)), hL]; first | done | rfl) (show ((⟨s.rules, s.zones, s.links ++ ([(⟨nm e1.data.toList, nm e2.data.toList⟩ : Lnk)])⟩ : Srce)) = ((stepL s (wb ws)).1) from by rw [stepL_0 (lnkOk_t (by rw [hwe1]; assumption) (by rw [hwe2]; assumption)) (by rw [hL]; exact link1_t (by assumption) (by first | (rw [lastL_len he3]; dsimp only; omega) | (have q := inR_iff.1 (by assumption : inR (nm e1.data.toList) 65 90 = true); rw [lastL_neg (by assumption)]; dsimp only; omega)) (by assumption) (by assumption)), hL]; first | done | rfl) (KF.n [(0, 0), (1, 1), (2, 2), (3, 3), (174, 4)])))
   refine At.sB 36 _ _ (sayF h3) ?_
   refine At.a 18 ?_
   refine At.c (impl_zoneAt_spec  s (nm e2.data.toList) ) Tryz.call27 false [] [] [(1, 9, (s.rules.map encRul)), (2, 3, (s.zones.map encZon)), (3, 2, (s.links.map encLnk))] ⟨rfl, ⟨43, (s.rules.map encRul), by kernel_rfl, FrzIs.same (allP_encRul _)⟩, rfl, ⟨49, (s.zones.map encZon), by kernel_rfl, FrzIs.same (allP_encZon _)⟩, rfl, ⟨51, (s.links.map encLnk), by kernel_rfl, FrzIs.same (allP_encLnk _)⟩, trivial⟩ ?_
   refine At.a 3 ?_
   by_cases h7 : (posZ (nm e2.data.toList) s.zones 0) < 0
   · refine At.sB 58 _ _ (sayT h7) ?_
     refine At.zD 9 ?_
     refine AW.cond true (by kernel_rfl) (fun _ => ?_) (fun h => by cases h)
     refine AW.q 1 ?_
     refine AW.ret ?_
     refine ⟨_, (Sub.trans (Sub.refl _ _) (Sub.mv 3 8003 (by kernel_rfl) (by decide))), ?_⟩
     exact k2 (K_impl_Source_link _ s ws) (show (6) = ((stepL s (wb ws)).2) from by rw [stepL_6 (lnkOk_t (by rw [hwe1]; assumption) (by rw [hwe2]; assumption)) (by rw [hL]; exact link1_f3 (by assumption))]; first | done | rfl) (show (s) = ((stepL s (wb ws)).1) from by rw [stepL_6 (lnkOk_t (by rw [hwe1]; assumption) (by rw [hwe2]; assumption)) (by rw [hL]; exact link1_f3 (by assumption))]; first | done | rfl) (KF.n [(0, 0), (1, 1), (2, 2), (3, 3), (8003, 4)])
   refine At.sB 58 _ _ (sayF h7) ?_
   refine At.a 5 ?_
   refine At.c (impl_zoneAt_spec  s (nm e1.data.toList) ) Tryz.call27 false [] [] [(1, 9, (s.rules.map encRul)), (2, 3, (s.zones.map encZon)), (3, 2, (s.links.map encLnk))] ⟨rfl, ⟨43, (s.rules.map encRul), by kernel_rfl, FrzIs.same (allP_encRul _)⟩, rfl, ⟨49, (s.zones.map encZon), by kernel_rfl, FrzIs.same (allP_encZon _)⟩, rfl, ⟨51, (s.links.map encLnk), by kernel_rfl, FrzIs.same (allP_encLnk _)⟩, trivial⟩ ?_
   refine At.zD 3 ?_
   refine AW.cD ((posZ (nm e1.data.toList) s.zones 0) ≥ 0) (fun h8 => ?_) (fun h8 => ?_)
   · refine AW.q 1 ?_
     refine AW.ret ?_
     refine ⟨_, (Sub.trans (Sub.refl _ _) (Sub.mv 3 8003 (by kernel_rfl) (by decide))), ?_⟩
     exact k2 (K_impl_Source_link _ s ws) (show (6) = ((stepL s (wb ws)).2) from by rw [stepL_6 (lnkOk_t (by rw [hwe1]; assumption) (by rw [hwe2]; assumption)) (by rw [hL]; exact link1_f4 (by assumption))]; first | done | rfl) (show (s) = ((stepL s (wb ws)).1) from by rw [stepL_6 (lnkOk_t (by rw [hwe1]; assumption) (by rw [hwe2]; assumption)) (by rw [hL]; exact link1_f4 (by assumption))]; first | done | rfl) (KF.n [(0, 0), (1, 1), (2, 2), (3, 3), (8003, 4)])
   refine AW.skip ?_
   refine AW.seq ?_
   refine AW.gD Tryz_mix ?_
   refine At.a 6 ?_
   refine At.ll 73 51 2 173 (0, 6) (([(⟨nm e1.data.toList, nm e2.data.toList⟩ : Lnk)]).map encLnk) ?_
   refine At.apK 74 51 2 16 174 3 173 encLnk s.links ([(⟨nm e1.data.toList, nm e2.data.toList⟩ : Lnk)]) (by simp only [List.length_map, List.length_append, List.length_take, List.length_drop, List.length_replicate, List.length_set, List.length_cons, List.length_nil]; omega) ?_
   refine At.zD 3 ?_
   refine AW.q 1 ?_
   exact AW.ret (rf (k2 (K_impl_Source_link _ s ws) (show (0) = ((stepL s (wb ws)).2) from by rw [stepL_0 (lnkOk_t (by rw [hwe1]; assumption) (by rw [hwe2]; assumption)) (by rw [hL]; exact link1_t (by assumption) (by first | (rw [lastL_len he3]; dsimp only; omega) | (have q := inR_iff.1 (by assumption : inR (nm e1.data.toList) 65 90 = true); rw [lastL_neg (by assumption)]; dsimp only; omega)) (by assumption) (by assumption)), hL]; first | done | rfl) (show ((⟨s.rules, s.zones, s.links ++ ([(⟨nm e1.data.toList, nm e2.data.toList⟩ : Lnk)])⟩ : Srce)) = ((stepL s (wb ws)).1) from by rw [stepL_0 (lnkOk_t (by rw [hwe1]; assumption) (by rw [hwe2]; assumption)) (by rw [hL]; exact link1_t (by assumption) (by first | (rw [lastL_len he3]; dsimp only; omega) | (have q := inR_iff.1 (by assumption : inR (nm e1.data.toList) 65 90 = true); rw [lastL_neg (by assumption)]; dsimp only; omega)) (by assumption) (by assumption)), hL]; first | done | rfl) (KF.n [(0, 0), (1, 1), (2, 2), (3, 3), (174, 4)])))
 refine At.sB 27 (!(inR (nm e1.data.toList) 65 90)) true (sayNT (sayB (Bool.eq_false_iff.2 h1))) ?_
 replace h1 := Bool.eq_false_iff.2 h1
 refine At.z 6 ?_
 refine AW.cond true (by kernel_rfl) (fun _ => ?_) (fun h => by cases h)
 refine AW.q 1 ?_
 refine AW.ret ?_
 refine ⟨_, (Sub.trans (Sub.refl _ _) (Sub.mv 3 8003 (by kernel_rfl) (by decide))), ?_⟩
 exact k2 (K_impl_Source_link _ s ws) (show (5) = ((stepL s (wb ws)).2) from by rw [stepL_5 (lnkOk_1 (by rw [hwe1]; assumption))]; first | done | rfl) (show (s) = ((stepL s (wb ws)).1) from by rw [stepL_5 (lnkOk_1 (by rw [hwe1]; assumption))]; first | done | rfl) (KF.n [(0, 0), (1, 1), (2, 2), (3, 3), (8003, 4)])
def K_impl_Source_line (rs : List ResultVar) (s : Srce) (l : ByteArray) (w0_ : Int) (w1_ : Srce) : Exit → Sg → Prop := KF Tryz.prog 4 rs (.int .i64 w0_) [.box 28 [.ref 4, .ref 5, .ref 6], .dead, .dead, .dead, .arr 43 9 (w1_.rules.map encRul), .arr 49 3 (w1_.zones.map encZon), .arr 51 2 (w1_.links.map encLnk)]
theorem impl_Source_line_spec  (s : Srce) (l : ByteArray) (hz : (s.rules.length ≤ 1048576 ∧ s.zones.length ≤ 1048576 ∧ s.links.length ≤ 1048576)) (hs : l.size ≤ 1048576) : FnSpecO 8 GB Tryz.prog 32 [.ptr 0 0 0, .str l] [.box 28 [.ref 1, .ref 2, .ref 3], .arr 43 9 (s.rules.map encRul), .arr 49 3 (s.zones.map encZon), .arr 51 2 (s.links.map encLnk)] (.int .i64 ((lineI s l.data.toList).2)) [.box 28 [.ref 4, .ref 5, .ref 6], .dead, .dead, .dead, .arr 43 9 ((((lineI s l.data.toList).1).rules).map encRul), .arr 49 3 ((((lineI s l.data.toList).1).zones).map encZon), .arr 51 2 ((((lineI s l.data.toList).1).links).map encLnk)] := by
 have hfw := pcs_few 32 l
 refine FnSpecO.of 35 Tryz.func32 rfl Tryz.ntmps32 (by simp) (AW.weakK ?_)
 refine AW.q 1 ?_
 refine AW.r ?_
 refine At.a 1 ?_
 refine At.callO glStay rfl (strings_Split_spec  l (⟨#[32]⟩ : ByteArray) rfl hs) Tryz.call31 true [] [(1160, 0)] [] (by kernel_rfl) (by kernel_rfl) (by kernel_rfl) (by kernel_rfl) (by kernel_rfl) trivial ?_
 refine At.z 1 ?_
 refine AW.r ?_
 refine At.a 2 ?_
 refine At.sL 10 encS (pcs 32 l) ?_
 refine At.z 1 ?_
 refine AW.seq ?_
 refine AW.r ?_
 refine At.a 1 ?_
 refine At.iRf 46 12 (.tmp 11) (.const (.int .i64 0)) 1160 ((pcs 32 l).map encS) .i64 0 9 1 (by omega) (by simp only [List.length_map]; omega) ?_
 refine Exists.elim (gE (pcs 32 l) 0 (by omega)) fun e1 he1 => ?_
 refine At.lEl 9 13 (.tmp 12) 1160 9 1 ((pcs 32 l).map encS) 0 0 false 1 (encS e1) (.str e1) (mapGet he1) ?_
 refine At.done rfl ?_
 refine AW.block ?_
 refine AW.q 2 ?_
 refine AW.cE (e1.toList) ((⟨#[114, 117, 108, 101]⟩ : ByteArray).toList) (fun h1 => ?_) (fun h1 => ?_)
 · refine AW.seq ?_
   refine AW.q 2 ?_
   refine AW.cU ((pcs 32 l).length : Int) (8 : Int) (fun h2 => ?_) (fun h2 => ?_)
   · refine AW.q 1 ?_
     refine AW.ret ?_
     refine ⟨_, (Sub.trans (Sub.trans (Sub.trans (Sub.refl _ _) (Sub.mv 1 8001 (by kernel_rfl) (by decide))) (Sub.mv 2 8002 (by kernel_rfl) (by decide))) (Sub.mv 3 8003 (by kernel_rfl) (by decide))), ?_⟩
     exact k2 (K_impl_Source_line _ s l) (show (4) = ((lineI s l.data.toList).2) from by rw [line_is, stepW_r4 ((wb_at he1).trans (seq_is (by assumption))) (by rw [wb_len]; omega)]; first | done | rfl) (show (s) = ((lineI s l.data.toList).1) from by rw [line_is, stepW_r4 ((wb_at he1).trans (seq_is (by assumption))) (by rw [wb_len]; omega)]; first | done | rfl) (KF.n [(0, 0), (1, 1), (2, 2), (3, 3), (8001, 4), (8002, 5), (8003, 6)])
   refine AW.skip ?_
   refine AW.r ?_
   refine At.a 2 ?_
   refine At.callO glStay rfl (impl_Source_rule_spec  s (pcs 32 l) (by omega) (fun x hx => Nat.le_trans (pcs_small 32 l x hx) hs) hz) Tryz.call57 false [(0, 0), (1, 1), (2, 2), (3, 3)] [(1400, 4)] [(1160, 1, ((pcs 32 l).map encS))] (by kernel_rfl) (by kernel_rfl) (by kernel_rfl) (by kernel_rfl) (by kernel_rfl) ⟨rfl, ⟨9, ((pcs 32 l).map encS), by kernel_rfl, FrzIs.same (allP_encS _)⟩, trivial⟩ ?_
   refine At.z 1 ?_
   refine AW.ret ?_
   refine ⟨_, (Sub.trans (Sub.trans (Sub.refl _ _) (Sub.mv 2 8002 (by kernel_rfl) (by decide))) (Sub.mv 3 8003 (by kernel_rfl) (by decide))), ?_⟩
   exact k2 (K_impl_Source_line _ s l) (show ((stepR s (wb (pcs 32 l))).2) = ((lineI s l.data.toList).2) from by rw [line_is, stepW_rule ((wb_at he1).trans (seq_is (by assumption))) (by rw [wb_len]; omega)]; first | done | rfl) (show (((stepR s (wb (pcs 32 l))).1)) = ((lineI s l.data.toList).1) from by rw [line_is, stepW_rule ((wb_at he1).trans (seq_is (by assumption))) (by rw [wb_len]; omega)]; first | done | rfl) (KF.n [(0, 0), (1, 1), (2, 2), (3, 3), (1400, 4), (8002, 5), (8003, 6)])
 refine AW.q 2 ?_
 refine AW.cE (e1.toList) ((⟨#[122, 111, 110, 101]⟩ : ByteArray).toList) (fun h3 => ?_) (fun h3 => ?_)
 · refine AW.seq ?_
   refine AW.q 2 ?_
   refine AW.cU ((pcs 32 l).length : Int) (4 : Int) (fun h4 => ?_) (fun h4 => ?_)
   · refine AW.q 1 ?_
     refine AW.ret ?_
     refine ⟨_, (Sub.trans (Sub.trans (Sub.trans (Sub.refl _ _) (Sub.mv 1 8001 (by kernel_rfl) (by decide))) (Sub.mv 2 8002 (by kernel_rfl) (by decide))) (Sub.mv 3 8003 (by kernel_rfl) (by decide))), ?_⟩
     exact k2 (K_impl_Source_line _ s l) (show (4) = ((lineI s l.data.toList).2) from by rw [line_is, stepW_z4 ((wb_at he1).trans (seq_is (by assumption))) (by rw [wb_len]; omega)]; first | done | rfl) (show (s) = ((lineI s l.data.toList).1) from by rw [line_is, stepW_z4 ((wb_at he1).trans (seq_is (by assumption))) (by rw [wb_len]; omega)]; first | done | rfl) (KF.n [(0, 0), (1, 1), (2, 2), (3, 3), (8001, 4), (8002, 5), (8003, 6)])
   refine AW.skip ?_
   refine AW.r ?_
   refine At.a 2 ?_
   refine At.callO glStay rfl (impl_Source_zone_spec  s (pcs 32 l) (by omega) (fun x hx => Nat.le_trans (pcs_small 32 l x hx) hs) hz) Tryz.call58 false [(0, 0), (1, 1), (2, 2), (3, 3)] [(1540, 4)] [(1160, 1, ((pcs 32 l).map encS))] (by kernel_rfl) (by kernel_rfl) (by kernel_rfl) (by kernel_rfl) (by kernel_rfl) ⟨rfl, ⟨9, ((pcs 32 l).map encS), by kernel_rfl, FrzIs.same (allP_encS _)⟩, trivial⟩ ?_
   refine At.z 1 ?_
   refine AW.ret ?_
   refine ⟨_, (Sub.trans (Sub.trans (Sub.refl _ _) (Sub.mv 1 8001 (by kernel_rfl) (by decide))) (Sub.mv 3 8003 (by kernel_rfl) (by decide))), ?_⟩
   exact k2 (K_impl_Source_line _ s l) (show ((stepZ (zonOk (wb (pcs 32 l))) (zonW (wb (pcs 32 l))) s).2) = ((lineI s l.data.toList).2) from by rw [line_is, stepW_zone ((wb_at he1).trans (seq_is (by assumption))) (by rw [wb_len]; omega)]; first | done | rfl) (show (((stepZ (zonOk (wb (pcs 32 l))) (zonW (wb (pcs 32 l))) s).1)) = ((lineI s l.data.toList).1) from by rw [line_is, stepW_zone ((wb_at he1).trans (seq_is (by assumption))) (by rw [wb_len]; omega)]; first | done | rfl) (KF.n [(0, 0), (1, 1), (2, 2), (3, 3), (8001, 4), (1540, 5), (8003, 6)])
 refine AW.q 2 ?_
 refine AW.cE (e1.toList) ((⟨#[108, 105, 110, 107]⟩ : ByteArray).toList) (fun h5 => ?_) (fun h5 => ?_)
 · refine AW.seq ?_
   refine AW.q 2 ?_
   refine AW.cU ((pcs 32 l).length : Int) (3 : Int) (fun h6 => ?_) (fun h6 => ?_)
   · refine AW.q 1 ?_
     refine AW.ret ?_
     refine ⟨_, (Sub.trans (Sub.trans (Sub.trans (Sub.refl _ _) (Sub.mv 1 8001 (by kernel_rfl) (by decide))) (Sub.mv 2 8002 (by kernel_rfl) (by decide))) (Sub.mv 3 8003 (by kernel_rfl) (by decide))), ?_⟩
     exact k2 (K_impl_Source_line _ s l) (show (4) = ((lineI s l.data.toList).2) from by rw [line_is, stepW_l4 ((wb_at he1).trans (seq_is (by assumption))) (by rw [wb_len]; omega)]; first | done | rfl) (show (s) = ((lineI s l.data.toList).1) from by rw [line_is, stepW_l4 ((wb_at he1).trans (seq_is (by assumption))) (by rw [wb_len]; omega)]; first | done | rfl) (KF.n [(0, 0), (1, 1), (2, 2), (3, 3), (8001, 4), (8002, 5), (8003, 6)])
   refine AW.skip ?_
   refine AW.r ?_
   refine At.a 2 ?_
   refine At.callO glStay rfl (impl_Source_link_spec  s (pcs 32 l) (by omega) (fun x hx => Nat.le_trans (pcs_small 32 l x hx) hs) hz) Tryz.call59 false [(0, 0), (1, 1), (2, 2), (3, 3)] [(1680, 4)] [(1160, 1, ((pcs 32 l).map encS))] (by kernel_rfl) (by kernel_rfl) (by kernel_rfl) (by kernel_rfl) (by kernel_rfl) ⟨rfl, ⟨9, ((pcs 32 l).map encS), by kernel_rfl, FrzIs.same (allP_encS _)⟩, trivial⟩ ?_
   refine At.z 1 ?_
   refine AW.ret ?_
   refine ⟨_, (Sub.trans (Sub.trans (Sub.refl _ _) (Sub.mv 1 8001 (by kernel_rfl) (by decide))) (Sub.mv 2 8002 (by kernel_rfl) (by decide))), ?_⟩
   exact k2 (K_impl_Source_line _ s l) (show ((stepL s (wb (pcs 32 l))).2) = ((lineI s l.data.toList).2) from by rw [line_is, stepW_link ((wb_at he1).trans (seq_is (by assumption))) (by rw [wb_len]; omega)]; first | done | rfl) (show (((stepL s (wb (pcs 32 l))).1)) = ((lineI s l.data.toList).1) from by rw [line_is, stepW_link ((wb_at he1).trans (seq_is (by assumption))) (by rw [wb_len]; omega)]; first | done | rfl) (KF.n [(0, 0), (1, 1), (2, 2), (3, 3), (8001, 4), (8002, 5), (1680, 6)])
 refine AW.skip ?_
 refine AW.q 1 ?_
 refine AW.ret ?_
 refine ⟨_, (Sub.trans (Sub.trans (Sub.trans (Sub.refl _ _) (Sub.mv 1 8001 (by kernel_rfl) (by decide))) (Sub.mv 2 8002 (by kernel_rfl) (by decide))) (Sub.mv 3 8003 (by kernel_rfl) (by decide))), ?_⟩
 exact k2 (K_impl_Source_line _ s l) (show (3) = ((lineI s l.data.toList).2) from by rw [line_is, stepW_3 (fun q => seq_not (s := e1) (a := #[114, 117, 108, 101]) (by assumption) ((wb_at he1).symm.trans q)) (fun q => seq_not (s := e1) (a := #[122, 111, 110, 101]) (by assumption) ((wb_at he1).symm.trans q)) (fun q => seq_not (s := e1) (a := #[108, 105, 110, 107]) (by assumption) ((wb_at he1).symm.trans q))]; first | done | rfl) (show (s) = ((lineI s l.data.toList).1) from by rw [line_is, stepW_3 (fun q => seq_not (s := e1) (a := #[114, 117, 108, 101]) (by assumption) ((wb_at he1).symm.trans q)) (fun q => seq_not (s := e1) (a := #[122, 111, 110, 101]) (by assumption) ((wb_at he1).symm.trans q)) (fun q => seq_not (s := e1) (a := #[108, 105, 110, 107]) (by assumption) ((wb_at he1).symm.trans q))]; first | done | rfl) (KF.n [(0, 0), (1, 1), (2, 2), (3, 3), (8001, 4), (8002, 5), (8003, 6)])
def K_impl_SourceParse (rs : List ResultVar) (t : ByteArray) (w0_ : Srce) (w1_ : Int) (w2_ : Int) : Exit → Sg → Prop := KF Tryz.prog 0 rs (.tup [.agg [.ref 0, .ref 1, .ref 2], .int .i64 w1_, .int .i64 w2_]) [.arr 43 9 (w0_.rules.map encRul), .arr 49 3 (w0_.zones.map encZon), .arr 51 2 (w0_.links.map encLnk)]
theorem impl_SourceParse_spec  (t : ByteArray) (hs : t.size ≤ 1048576) : FnSpecO 8 GB Tryz.prog 10 [.str t] [] (.tup [.agg [.ref 0, .ref 1, .ref 2], .int .i64 ((parP lineI t.data.toList).2.1), .int .i64 ((parP lineI t.data.toList).2.2)]) [.arr 43 9 ((((parP lineI t.data.toList).1).rules).map encRul), .arr 49 3 ((((parP lineI t.data.toList).1).zones).map encZon), .arr 51 2 ((((parP lineI t.data.toList).1).links).map encLnk)] := by
 have hfw := pcs_few 10 t
 refine FnSpecO.of 61 Tryz.func10 rfl Tryz.ntmps10 (by simp) (AW.weakK ?_)
 refine AW.q 3 ?_
 refine AW.seq ?_
 refine AW.seq ?_
 refine AW.weak (Sub.nils [⟨true, 102, some 0, 5001, 43, 9⟩, ⟨true, 102, some 1, 5002, 49, 3⟩, ⟨true, 102, some 2, 5003, 51, 2⟩] (by kernel_rfl)) ?_
 refine AW.gq 3 ?_
 refine AW.cD ((t.size : Int) > 1000) (fun h1 => ?_) (fun h1 => ?_)
 · refine AW.q 4 ?_
   refine AW.ret ?_
   refine ⟨_, Sub.nils [⟨true, 102, some 0, 5004, 43, 9⟩, ⟨true, 102, some 1, 5005, 49, 3⟩, ⟨true, 102, some 2, 5006, 51, 2⟩] (by kernel_rfl), ?_⟩
   exact k3 (K_impl_SourceParse _ t) (show ((⟨[], [], []⟩ : Srce)) = ((parP lineI t.data.toList).1) from by rw [par_long (by assumption)]; first | done | rfl) (show (0) = ((parP lineI t.data.toList).2.1) from by rw [par_long (by assumption)]; first | done | rfl) (show (1) = ((parP lineI t.data.toList).2.2) from by rw [par_long (by assumption)]; first | done | rfl) (KF.n [(5004, 0), (5005, 1), (5006, 2)])
 refine AW.skip ?_
 refine AW.r ?_
 refine At.a 1 ?_
 refine At.callO glStay rfl (strings_Split_N_spec  t (⟨#[10]⟩ : ByteArray) rfl hs) Tryz.call31 true [] [(1320, 0)] [] (by kernel_rfl) (by kernel_rfl) (by kernel_rfl) (by kernel_rfl) (by kernel_rfl) trivial ?_
 refine At.z 1 ?_
 refine AW.r ?_
 refine At.a 2 ?_
 refine At.sL 18 encS (pcs 10 t) ?_
 refine At.a 1 ?_
 refine At.sI 19 (((pcs 10 t).length : Int) - 1) (by omega) ?_
 refine At.z 1 ?_
 refine AW.q 3 ?_
 refine AW.seq ?_
 refine AW.seq ?_
 refine AW.weak (Sub.nils [⟨true, 121, some 0, 5007, 43, 9⟩, ⟨true, 121, some 1, 5008, 49, 3⟩, ⟨true, 121, some 2, 5009, 51, 2⟩] (by kernel_rfl)) ?_
 refine AW.g ?_
 refine At.a 2 ?_
 refine At.sL 23 encS (pcs 10 t) ?_
 refine At.z 1 ?_
 refine AW.block ?_
 refine AW.loopW (fun (x : Nat × Srce) => match x with | (k, s) => Go.Sy.mk [.un, .un, .ptr 102 0 0, .un, .un, .un, .int .i64 (((pcs 10 t).length : Int) - 1), .ptr 121 0 0, .un, .un, .un, .un, .un, .un, .un, .un, .un, .un, .un, .un, .un, .un, .ref 1320, .int .i64 ((pcs 10 t).length : Int), .int .i64 (k : Int)] [(102, .box 28 [.ref 5001, .ref 5002, .ref 5003]), (121, .box 28 [.ref 5007, .ref 5008, .ref 5009]), (1320, .arr 9 1 ((pcs 10 t).map encS)), (5001, .arr 43 9 []), (5002, .arr 49 3 []), (5003, .arr 51 2 []), (5007, .arr 43 9 (s.rules.map encRul)), (5008, .arr 49 3 (s.zones.map encZon)), (5009, .arr 51 2 (s.links.map encLnk))]) (fun (x : Nat × Srce) => match x with | (k, s) => IInv t k s) (fun (x : Nat × Srce) => match x with | (k, s) => (pcs 10 t).length - k) (0, zSrc) (IInv.start t) (Sub.o [(102, 102), (121, 121), (1320, 1320), (5001, 5001), (5002, 5002), (5003, 5003), (5007, 5007), (5008, 5008), (5009, 5009)] [false, false, true, false, false, false, true, true, false, false, false, false, false, false, false, false, false, false, false, false, false, false, true, true, true]) ?_
 rintro ⟨k, s⟩ hI
 have hil := hI.lt
 have hiz := hI.sz
 refine AW.q 1 ?_
 refine AW.seq ?_
 refine AW.cD ((k : Int) < ((pcs 10 t).length : Int)) (fun h2 => ?_) (fun h2 => ?_)
 · refine AW.skip ?_
   refine AW.seq ?_
   refine AW.block ?_
   refine AW.r ?_
   refine At.a 1 ?_
   refine At.iRf 46 27 (.tmp 22) (.tmp 24) 1320 ((pcs 10 t).map encS) .i64 (k : Int) 9 1 (by omega) (by simp only [List.length_map]; omega) ?_
   refine Exists.elim (gE (pcs 10 t) k (by omega)) fun e1 he1 => ?_
   have hze1 := pcs_small 10 t _ (List.mem_of_getElem? he1)
   refine At.lEl 9 28 (.tmp 27) 1320 9 1 ((pcs 10 t).map encS) k 0 false 1 (encS e1) (.str e1) (mapGet he1) ?_
   refine At.z 2 ?_
   refine AW.seq ?_
   refine AW.r ?_
   refine At.a 4 ?_
   by_cases h3 : (k : Int) = ((pcs 10 t).length : Int) - 1
   · refine At.sB 32 _ _ (sayET h3) ?_
     refine At.z 3 ?_
     refine AW.cE (e1.toList) ((⟨#[]⟩ : ByteArray).toList) (fun h4 => ?_) (fun h4 => ?_)
     · refine AW.exit ?_
       refine AW.q 7 ?_
       exact AW.ret (rf (k3 (K_impl_SourceParse _ t) (show (s) = ((parP lineI t.data.toList).1) from by rw [hI.end0 he1 (by assumption) (nil_is (by assumption)) (by assumption)]; first | done | rfl) (show (((pcs 10 t).length : Int) - 1) = ((parP lineI t.data.toList).2.1) from by rw [hI.end0 he1 (by assumption) (nil_is (by assumption)) (by assumption)]; first | done | rfl) (show (0) = ((parP lineI t.data.toList).2.2) from by rw [hI.end0 he1 (by assumption) (nil_is (by assumption)) (by assumption)]; first | done | rfl) (KF.n [(5007, 0), (5008, 1), (5009, 2)])))
     have hne := nil_size h4
     refine AW.skip ?_
     refine AW.seq ?_
     refine AW.q 3 ?_
     refine AW.condT ((k : Int) == (((pcs 10 t).length : Int) - 1)) (by kernel_rfl) (beq_iff_eq.2 h3) ?_
     refine AW.q 5 ?_
     refine AW.ret ?_
     refine ⟨_, Sub.nils [⟨true, 102, some 0, 5010, 43, 9⟩, ⟨true, 102, some 1, 5011, 49, 3⟩, ⟨true, 102, some 2, 5012, 51, 2⟩] (by kernel_rfl), ?_⟩
     exact k3 (K_impl_SourceParse _ t) (show ((⟨[], [], []⟩ : Srce)) = ((parP lineI t.data.toList).1) from by rw [hI.end2 he1 (by assumption) (nil_size (by assumption)).2 (by assumption)]; first | done | rfl) (show ((k : Int)) = ((parP lineI t.data.toList).2.1) from by rw [hI.end2 he1 (by assumption) (nil_size (by assumption)).2 (by assumption)]; first | done | rfl) (show (2) = ((parP lineI t.data.toList).2.2) from by rw [hI.end2 he1 (by assumption) (nil_size (by assumption)).2 (by assumption)]; first | done | rfl) (KF.n [(5010, 0), (5011, 1), (5012, 2)])
   refine At.sB 32 _ _ (sayEF h3) ?_
   refine At.z 3 ?_
   refine AW.cond false (by kernel_rfl) (fun h => by cases h) (fun _ => ?_)
   refine AW.skip ?_
   refine AW.seq ?_
   refine AW.q 3 ?_
   refine AW.condF ((k : Int) == (((pcs 10 t).length : Int) - 1)) (by kernel_rfl) (beq_eq_false_iff_ne.2 h3) ?_
   refine AW.skip ?_
   refine AW.seq ?_
   refine AW.r ?_
   refine At.a 3 ?_
   by_cases h5 : e1.toList = (⟨#[]⟩ : ByteArray).toList
   · refine At.sB 43 _ _ (sayET h5) ?_
     refine At.z 4 ?_
     refine AW.cond true (by kernel_rfl) (fun _ => ?_) (fun h => by cases h)
     refine AW.exit ?_
     refine AW.g ?_
     refine At.a 1 ?_
     refine At.sI 56 ((k : Int) + 1) (by omega) ?_
     refine At.z 1 ?_
     exact ⟨(k + 1, s), (by exact hI.skip he1 (by assumption) (.inl (nil_is (by assumption)))), (by simp only; omega), Sub.o [(102, 102), (121, 121), (1320, 1320), (5001, 5001), (5002, 5002), (5003, 5003), (5007, 5007), (5008, 5008), (5009, 5009)] [false, false, true, false, false, false, true, true, false, false, false, false, false, false, false, false, false, false, false, false, false, false, true, true, true]⟩
   refine At.sB 43 _ _ (sayEF h5) ?_
   have hne := nil_size h5
   refine At.a 1 ?_
   refine Exists.elim (show ∃ e, e1.data[0]? = some e from ⟨_, Array.getElem?_eq_getElem (by show _ < e1.size; omega)⟩) fun e2 he2 => ?_
   refine At.idxStr (t := 9) (d := 45) (x := .tmp 44) (y := .const (.int .i64 0)) (s := e1) (kd := .i64) (i := 0) e2 (by kernel_rfl) (by kernel_rfl) (by kernel_rfl) (by kernel_rfl) (by omega) he2 ?_
   refine At.z 2 ?_
   refine AW.cE (e2.toNat : Int) (35 : Int) (fun h6 => ?_) (fun h6 => ?_)
   · refine AW.exit ?_
     refine AW.g ?_
     refine At.a 1 ?_
     refine At.sI 56 ((k : Int) + 1) (by omega) ?_
     refine At.z 1 ?_
     exact ⟨(k + 1, s), (by exact hI.skip he1 (by assumption) (.inr (hash_is (by assumption) (by assumption)))), (by simp only; omega), Sub.o [(102, 102), (121, 121), (1320, 1320), (5001, 5001), (5002, 5002), (5003, 5003), (5007, 5007), (5008, 5008), (5009, 5009)] [false, false, true, false, false, false, true, true, false, false, false, false, false, false, false, false, false, false, false, false, false, false, true, true, true]⟩
   refine AW.skip ?_
   refine AW.r ?_
   refine At.a 2 ?_
   refine At.callO glStay rfl (impl_Source_line_spec  s e1 (by omega) (by omega)) Tryz.call32 true [(121, 0), (5007, 1), (5008, 2), (5009, 3)] [(2000, 4), (2001, 5), (2002, 6)] [] (by kernel_rfl) (by kernel_rfl) (by kernel_rfl) (by kernel_rfl) (by kernel_rfl) trivial ?_
   refine At.z 1 ?_
   refine AW.q 2 ?_
   refine AW.cU ((lineI s e1.data.toList).2) (0 : Int) (fun h7 => ?_) (fun h7 => ?_)
   · refine AW.q 6 ?_
     refine AW.ret ?_
     refine ⟨_, Sub.nils [⟨true, 102, some 0, 5013, 43, 9⟩, ⟨true, 102, some 1, 5014, 49, 3⟩, ⟨true, 102, some 2, 5015, 51, 2⟩] (by kernel_rfl), ?_⟩
     exact k3 (K_impl_SourceParse _ t) (show ((⟨[], [], []⟩ : Srce)) = ((parP lineI t.data.toList).1) from by rw [hI.bad he1 (by assumption) (nil_size (by assumption)).2 (hash_not (by assumption) (by assumption)) (by assumption) (by assumption)]; first | done | rfl) (show ((k : Int)) = ((parP lineI t.data.toList).2.1) from by rw [hI.bad he1 (by assumption) (nil_size (by assumption)).2 (hash_not (by assumption) (by assumption)) (by assumption) (by assumption)]; first | done | rfl) (show ((lineI s e1.data.toList).2) = ((parP lineI t.data.toList).2.2) from by rw [hI.bad he1 (by assumption) (nil_size (by assumption)).2 (hash_not (by assumption) (by assumption)) (by assumption) (by assumption)]; first | done | rfl) (KF.n [(5013, 0), (5014, 1), (5015, 2)])
   refine AW.skip ?_
   refine AW.g ?_
   refine At.a 1 ?_
   refine At.sI 56 ((k : Int) + 1) (by omega) ?_
   refine At.z 1 ?_
   exact ⟨(k + 1, ((lineI s e1.data.toList).1)), (by exact hI.go he1 (by assumption) (nil_size (by assumption)).2 (hash_not (by assumption) (by assumption)) (by assumption)), (by simp only; omega), Sub.o [(102, 102), (121, 121), (1320, 1320), (5001, 5001), (5002, 5002), (5003, 5003), (2000, 5007), (2001, 5008), (2002, 5009)] [false, false, true, false, false, false, true, true, false, false, false, false, false, false, false, false, false, false, false, false, false, false, true, true, true]⟩
 refine AW.exit ?_
 refine AW.q 7 ?_
 exact AW.ret (rf (k3 (K_impl_SourceParse _ t) (show (s) = ((parP lineI t.data.toList).1) from by exfalso; omega) (show (((pcs 10 t).length : Int) - 1) = ((parP lineI t.data.toList).2.1) from by exfalso; omega) (show (0) = ((parP lineI t.data.toList).2.2) from by exfalso; omega) (KF.n [(5007, 0), (5008, 1), (5009, 2)])))
theorem laws_sameSource_spec  (a : Srce) (b : Srce) (ha : (a.rules.length ≤ 1048576 ∧ a.zones.length ≤ 1048576 ∧ a.links.length ≤ 1048576)) (hb : (b.rules.length ≤ 1048576 ∧ b.zones.length ≤ 1048576 ∧ b.links.length ≤ 1048576)) (hab : a = b) : FnSpec Tryz.prog 11 [.agg [.sl false 9 (a.rules.map encRul), .sl false 3 (a.zones.map encZon), .sl false 2 (a.links.map encLnk)], .agg [.sl false 9 (b.rules.map encRul), .sl false 3 (b.zones.map encZon), .sl false 2 (b.links.map encLnk)]] [] (.bool true) [] := by
 refine FnSpec.of 87 Tryz.func11 rfl Tryz.ntmps11 (by simp) (AW.weakK ?_)
 refine AW.q 3 ?_
 refine AW.seq ?_
 refine AW.r ?_
 refine At.a 3 ?_
 refine At.sL 10 encRul a.rules ?_
 refine At.a 3 ?_
 refine At.sL 13 encRul b.rules ?_
 refine At.a 2 ?_
 by_cases h1 : (a.rules.length : Int) = (b.rules.length : Int)
 · refine At.sB 15 _ _ (sayUF h1) ?_
   refine At.a 3 ?_
   refine At.sL 18 encZon a.zones ?_
   refine At.a 3 ?_
   refine At.sL 21 encZon b.zones ?_
   refine At.a 3 ?_
   by_cases h2 : (a.zones.length : Int) = (b.zones.length : Int)
   · refine At.sB 24 _ _ (sayUF h2) ?_
     refine At.a 3 ?_
     refine At.sL 27 encLnk a.links ?_
     refine At.a 3 ?_
     refine At.sL 30 encLnk b.links ?_
     refine At.z 2 ?_
     refine AW.cU (a.links.length : Int) (b.links.length : Int) (fun h3 => ?_) (fun h3 => ?_)
     · refine AW.q 1 ?_
       refine AW.ret ?_
       refine ⟨_, Sub.refl _ _, ?_⟩
       refine KF.conv (fun w => .bool w) (fun w => []) (show (false) = (true) from by exfalso; rw [hab] at *; omega) ?_
       exact KF.n []
     refine AW.skip ?_
     refine AW.seq ?_
     refine AW.q 1 ?_
     refine AW.block ?_
     refine AW.loopW (fun (k : Nat) => Go.Sy.mk [.un, .un, .ptr 102 0 0, .ptr 103 0 0, .un, .int .i64 (k : Int)] [(102, .box 28 [.sl false 9 (a.rules.map encRul), .sl false 3 (a.zones.map encZon), .sl false 2 (a.links.map encLnk)]), (103, .box 28 [.sl false 9 (b.rules.map encRul), .sl false 3 (b.zones.map encZon), .sl false 2 (b.links.map encLnk)])]) (fun (k : Nat) => k ≤ a.rules.length) (fun (k : Nat) => a.rules.length - k) 0 (by omega) (Sub.o [(102, 102), (103, 103)] [false, false, true, true, false, true]) ?_
     rintro k hk
     refine AW.seq ?_
     refine AW.r ?_
     refine At.a 4 ?_
     refine At.sL 36 encRul a.rules ?_
     refine At.z 1 ?_
     refine AW.cD ((k : Int) < (a.rules.length : Int)) (fun h4 => ?_) (fun h4 => ?_)
     · refine AW.skip ?_
       refine AW.seq ?_
       refine AW.block ?_
       refine AW.seq ?_
       refine AW.gD Tryz_mix ?_
       refine At.a 3 ?_
       refine At.iSl 24 43 (.tmp 41) (.tmp 42) false 9 (a.rules.map encRul) .i64 (k : Int) 43 (by omega) (by simp only [List.length_map]; omega) ?_
       refine Exists.elim (gE a.rules k (by omega)) fun e1 he1 => ?_
       refine At.lVp 43 44 (.tmp 43) false 9 (a.rules.map encRul) k 0 true 9 (encRul e1) (.agg [.int .i64 e1.name, .int .i64 e1.from_, .int .i64 e1.to, .int .i64 e1.month, .int .i64 e1.on.kind, .int .i64 e1.on.day, .int .i64 e1.on.week, .int .i64 e1.at_, .int .i64 e1.save]) (mapGet he1) ?_
       refine At.a 3 ?_
       refine At.iSl 24 48 (.tmp 46) (.tmp 47) false 9 (b.rules.map encRul) .i64 (k : Int) 43 (by omega) (by simp only [List.length_map]; omega) ?_
       refine Exists.elim (gE b.rules k (by omega)) fun e2 he2 => ?_
       refine At.lVp 43 49 (.tmp 48) false 9 (b.rules.map encRul) k 0 true 9 (encRul e2) (.agg [.int .i64 e2.name, .int .i64 e2.from_, .int .i64 e2.to, .int .i64 e2.month, .int .i64 e2.on.kind, .int .i64 e2.on.day, .int .i64 e2.on.week, .int .i64 e2.at_, .int .i64 e2.save]) (mapGet he2) ?_
       refine At.eqA (t := 43) (u := 43) (d := 50) (op := .neq) (x := .tmp 44) (y := .tmp 49) (X := [.int .i64 e1.name, .int .i64 e1.from_, .int .i64 e1.to, .int .i64 e1.month, .int .i64 e1.on.kind, .int .i64 e1.on.day, .int .i64 e1.on.week, .int .i64 e1.at_, .int .i64 e1.save]) (Y := [.int .i64 e2.name, .int .i64 e2.from_, .int .i64 e2.to, .int .i64 e2.month, .int .i64 e2.on.kind, .int .i64 e2.on.day, .int .i64 e2.on.week, .int .i64 e2.at_, .int .i64 e2.save]) (rulEqA e1 e2) (by kernel_rfl) (by kernel_rfl) (by kernel_rfl) (by kernel_rfl) (by kernel_rfl) (.bool (!(rulEqA e1 e2))) (.inr ⟨rfl, rfl⟩) ?_
       refine At.done rfl ⟨by kernel_rfl, ?_⟩
       refine AW.cNB (rulEqA e1 e2) (fun h5 => ?_) (fun h5 => ?_)
       · refine AW.q 1 ?_
         refine AW.ret ?_
         refine ⟨_, Sub.refl _ _, ?_⟩
         refine KF.conv (fun w => .bool w) (fun w => []) (show (false) = (true) from by exact (rul_ne (same_el (congrArg Srce.rules hab) (by assumption) (by assumption)) (by assumption)).elim) ?_
         exact KF.n []
       refine AW.skip ?_
       refine AW.g ?_
       refine At.a 2 ?_
       refine At.sI 39 ((k : Int) + 1) (by omega) ?_
       refine At.z 1 ?_
       exact ⟨k + 1, (by omega), (by omega), Sub.o [(102, 102), (103, 103)] [false, false, true, true, false, true]⟩
     refine AW.exit ?_
     refine AW.seq ?_
     refine AW.q 1 ?_
     refine AW.block ?_
     refine AW.loopW (fun (j : Nat) => Go.Sy.mk [.un, .un, .ptr 102 0 0, .ptr 103 0 0, .un, .un, .int .i64 (j : Int)] [(102, .box 28 [.sl false 9 (a.rules.map encRul), .sl false 3 (a.zones.map encZon), .sl false 2 (a.links.map encLnk)]), (103, .box 28 [.sl false 9 (b.rules.map encRul), .sl false 3 (b.zones.map encZon), .sl false 2 (b.links.map encLnk)])]) (fun (j : Nat) => j ≤ a.zones.length) (fun (j : Nat) => a.zones.length - j) 0 (by omega) (Sub.o [(102, 102), (103, 103)] [false, false, true, true, false, false, true]) ?_
     rintro j hj
     refine AW.seq ?_
     refine AW.r ?_
     refine At.a 4 ?_
     refine At.sL 54 encZon a.zones ?_
     refine At.z 1 ?_
     refine AW.cD ((j : Int) < (a.zones.length : Int)) (fun h6 => ?_) (fun h6 => ?_)
     · refine AW.skip ?_
       refine AW.seq ?_
       refine AW.block ?_
       refine AW.seq ?_
       refine AW.gD Tryz_mix ?_
       refine At.a 3 ?_
       refine At.iSl 25 61 (.tmp 59) (.tmp 60) false 3 (a.zones.map encZon) .i64 (j : Int) 49 (by omega) (by simp only [List.length_map]; omega) ?_
       refine Exists.elim (gE a.zones j (by omega)) fun e3 he3 => ?_
       refine At.lVp 49 62 (.tmp 61) false 3 (a.zones.map encZon) j 0 true 3 (encZon e3) (.agg [.int .i64 e3.name, .int .i64 e3.off, .int .i64 e3.rule]) (mapGet he3) ?_
       refine At.a 3 ?_
       refine At.iSl 25 66 (.tmp 64) (.tmp 65) false 3 (b.zones.map encZon) .i64 (j : Int) 49 (by omega) (by simp only [List.length_map]; omega) ?_
       refine Exists.elim (gE b.zones j (by omega)) fun e4 he4 => ?_
       refine At.lVp 49 67 (.tmp 66) false 3 (b.zones.map encZon) j 0 true 3 (encZon e4) (.agg [.int .i64 e4.name, .int .i64 e4.off, .int .i64 e4.rule]) (mapGet he4) ?_
       refine At.eqA (t := 49) (u := 49) (d := 68) (op := .neq) (x := .tmp 62) (y := .tmp 67) (X := [.int .i64 e3.name, .int .i64 e3.off, .int .i64 e3.rule]) (Y := [.int .i64 e4.name, .int .i64 e4.off, .int .i64 e4.rule]) (zonEqA e3 e4) (by kernel_rfl) (by kernel_rfl) (by kernel_rfl) (by kernel_rfl) (by kernel_rfl) (.bool (!(zonEqA e3 e4))) (.inr ⟨rfl, rfl⟩) ?_
       refine At.done rfl ⟨by kernel_rfl, ?_⟩
       refine AW.cNB (zonEqA e3 e4) (fun h7 => ?_) (fun h7 => ?_)
       · refine AW.q 1 ?_
         refine AW.ret ?_
         refine ⟨_, Sub.refl _ _, ?_⟩
         refine KF.conv (fun w => .bool w) (fun w => []) (show (false) = (true) from by exact (zon_ne (same_el (congrArg Srce.zones hab) (by assumption) (by assumption)) (by assumption)).elim) ?_
         exact KF.n []
       refine AW.skip ?_
       refine AW.g ?_
       refine At.a 2 ?_
       refine At.sI 57 ((j : Int) + 1) (by omega) ?_
       refine At.z 1 ?_
       exact ⟨j + 1, (by omega), (by omega), Sub.o [(102, 102), (103, 103)] [false, false, true, true, false, false, true]⟩
     refine AW.exit ?_
     refine AW.seq ?_
     refine AW.q 1 ?_
     refine AW.block ?_
     refine AW.loopW (fun (i : Nat) => Go.Sy.mk [.un, .un, .ptr 102 0 0, .ptr 103 0 0, .un, .un, .un, .int .i64 (i : Int)] [(102, .box 28 [.sl false 9 (a.rules.map encRul), .sl false 3 (a.zones.map encZon), .sl false 2 (a.links.map encLnk)]), (103, .box 28 [.sl false 9 (b.rules.map encRul), .sl false 3 (b.zones.map encZon), .sl false 2 (b.links.map encLnk)])]) (fun (i : Nat) => i ≤ a.links.length) (fun (i : Nat) => a.links.length - i) 0 (by omega) (Sub.o [(102, 102), (103, 103)] [false, false, true, true, false, false, false, true]) ?_
     rintro i hi
     refine AW.seq ?_
     refine AW.r ?_
     refine At.a 4 ?_
     refine At.sL 72 encLnk a.links ?_
     refine At.z 1 ?_
     refine AW.cD ((i : Int) < (a.links.length : Int)) (fun h8 => ?_) (fun h8 => ?_)
     · refine AW.skip ?_
       refine AW.seq ?_
       refine AW.block ?_
       refine AW.seq ?_
       refine AW.gD Tryz_mix ?_
       refine At.a 3 ?_
       refine At.iSl 26 79 (.tmp 77) (.tmp 78) false 2 (a.links.map encLnk) .i64 (i : Int) 51 (by omega) (by simp only [List.length_map]; omega) ?_
       refine Exists.elim (gE a.links i (by omega)) fun e5 he5 => ?_
       refine At.lVp 51 80 (.tmp 79) false 2 (a.links.map encLnk) i 0 true 2 (encLnk e5) (.agg [.int .i64 e5.name, .int .i64 e5.to]) (mapGet he5) ?_
       refine At.a 3 ?_
       refine At.iSl 26 84 (.tmp 82) (.tmp 83) false 2 (b.links.map encLnk) .i64 (i : Int) 51 (by omega) (by simp only [List.length_map]; omega) ?_
       refine Exists.elim (gE b.links i (by omega)) fun e6 he6 => ?_
       refine At.lVp 51 85 (.tmp 84) false 2 (b.links.map encLnk) i 0 true 2 (encLnk e6) (.agg [.int .i64 e6.name, .int .i64 e6.to]) (mapGet he6) ?_
       refine At.eqA (t := 51) (u := 51) (d := 86) (op := .neq) (x := .tmp 80) (y := .tmp 85) (X := [.int .i64 e5.name, .int .i64 e5.to]) (Y := [.int .i64 e6.name, .int .i64 e6.to]) (lnkEqA e5 e6) (by kernel_rfl) (by kernel_rfl) (by kernel_rfl) (by kernel_rfl) (by kernel_rfl) (.bool (!(lnkEqA e5 e6))) (.inr ⟨rfl, rfl⟩) ?_
       refine At.done rfl ⟨by kernel_rfl, ?_⟩
       refine AW.cNB (lnkEqA e5 e6) (fun h9 => ?_) (fun h9 => ?_)
       · refine AW.q 1 ?_
         refine AW.ret ?_
         refine ⟨_, Sub.refl _ _, ?_⟩
         refine KF.conv (fun w => .bool w) (fun w => []) (show (false) = (true) from by exact (lnk_ne (same_el (congrArg Srce.links hab) (by assumption) (by assumption)) (by assumption)).elim) ?_
         exact KF.n []
       refine AW.skip ?_
       refine AW.g ?_
       refine At.a 2 ?_
       refine At.sI 75 ((i : Int) + 1) (by omega) ?_
       refine At.z 1 ?_
       exact ⟨i + 1, (by omega), (by omega), Sub.o [(102, 102), (103, 103)] [false, false, true, true, false, false, false, true]⟩
     refine AW.exit ?_
     refine AW.q 1 ?_
     exact AW.ret (rf (KF.n []))
   refine At.sB 24 _ _ (sayUT h2) ?_
   refine At.z 8 ?_
   refine AW.cond true (by kernel_rfl) (fun _ => ?_) (fun h => by cases h)
   refine AW.q 1 ?_
   refine AW.ret ?_
   refine ⟨_, Sub.refl _ _, ?_⟩
   refine KF.conv (fun w => .bool w) (fun w => []) (show (false) = (true) from by exfalso; rw [hab] at *; omega) ?_
   exact KF.n []
 refine At.sB 15 _ _ (sayUT h1) ?_
 refine At.z 17 ?_
 refine AW.cond true (by kernel_rfl) (fun _ => ?_) (fun h => by cases h)
 refine AW.q 1 ?_
 refine AW.ret ?_
 refine ⟨_, Sub.refl _ _, ?_⟩
 refine KF.conv (fun w => .bool w) (fun w => []) (show (false) = (true) from by exfalso; rw [hab] at *; omega) ?_
 exact KF.n []
theorem spec_l1Pick_spec  (c : Cur) (list : List ByteArray) (hp : 0 ≤ c.pos ∧ c.pos ≤ c.data.length ∧ c.data.length ≤ 1048576) (hl : 0 < list.length ∧ list.length ≤ 1000) : ∃ rho_ : Int × Int × ByteArray, (0 ≤ rho_.1 ∧ rho_.1 ≤ c.data.length ∧ rho_.2.2 ∈ list) ∧ FnSpec Tryz.prog 78 [.ptr 0 0 0, .ref 1] [.box 67 [.sl false 1 (c.data.map encU8), .int .i64 c.pos, .int .i64 c.seed], .arr 9 1 (list.map encS)] (.str rho_.2.2) [.box 67 [.sl false 1 (c.data.map encU8), .int .i64 rho_.1, .int .i64 rho_.2.1], .arr 9 1 (list.map encS)] := by
 refine dv (fun h_ => FnSpec.of 12 Tryz.func78 rfl Tryz.ntmps78 (by simp) (AW.weakK h_)) ?_
 refine dv (AW.q 1 ·) ?_
 refine dv (AW.r ·) ?_
 refine dv (At.a 4 ·) ?_
 refine dv (At.sL 8 encS list ·) ?_
 refine Exists.elim (spec_l1Below_spec  c (list.length : Int) (by omega)) fun r1_ hr1_ => ?_
 obtain ⟨qr1_, hr1_⟩ := hr1_
 try dsimp only at qr1_
 try simp only [Int.reduceLT, Int.reduceLE, true_implies, false_implies, and_true] at qr1_
 refine dv (At.c (hr1_) Tryz.call36 true [(0, 0)] [] [] trivial ·) ?_
 refine dv (At.iRf 46 10 (.tmp 5) (.tmp 9) 1 (list.map encS) .i64 r1_.2.2 9 1 (by omega) (by simp only [List.length_map]; omega) ·) ?_
 refine Exists.elim (gE list ((r1_.2.2).toNat) (by omega)) fun e1 he1 => ?_
 refine dv (At.lEl 9 11 (.tmp 10) 1 9 1 (list.map encS) ((r1_.2.2).toNat) 0 false 1 (encS e1) (.str e1) (mapGet he1) ·) ?_
 refine dv (At.z 1 ·) ?_
 refine dv (AW.ret ·) ?_
 refine dv (⟨_, Sub.refl _ _, ·⟩) ?_
 exact ⟨(r1_.1, r1_.2.1, e1), ⟨by dsimp only; omega, by dsimp only; omega, List.mem_of_getElem? he1⟩, KF.mk (.inr rfl) [(0, 0), (1, 1)] [.str e1] (by kernel_rfl) (by kernel_rfl) (by kernel_rfl) (by kernel_rfl) (by kernel_rfl)⟩
theorem spec_l1Min_spec  (a : Int) (b : Int) : FnSpec Tryz.prog 79 [.int .i64 a, .int .i64 b] [] (.int .i64 (min a b)) [] := by
 refine FnSpec.of 10 Tryz.func79 rfl Tryz.ntmps79 (by simp) (AW.weakK ?_)
 refine AW.q 1 ?_
 refine AW.seq ?_
 refine AW.q 3 ?_
 refine AW.cD (a < b) (fun h1 => ?_) (fun h1 => ?_)
 · refine AW.q 2 ?_
   refine AW.ret ?_
   refine ⟨_, Sub.refl _ _, ?_⟩
   refine KF.conv (fun w => .int .i64 w) (fun w => []) (show (a) = (min a b) from by omega) ?_
   exact KF.n []
 refine AW.skip ?_
 refine AW.q 2 ?_
 refine AW.ret ?_
 refine ⟨_, Sub.refl _ _, ?_⟩
 refine KF.conv (fun w => .int .i64 w) (fun w => []) (show (b) = (min a b) from by omega) ?_
 exact KF.n []
theorem spec_l12Dent_spec  (c : Cur) (s : ByteArray) (bits : List ByteArray) (hp : 0 ≤ c.pos ∧ c.pos ≤ c.data.length ∧ c.data.length ≤ 1048576) (hs : s.size ≤ 1000) (hz : Nz s) (hl : 0 < bits.length ∧ bits.length ≤ 1000) (hm : ∀ x ∈ bits, x.size ≤ 1000 ∧ Nz x) : ∃ rho_ : Int × Int × ByteArray, (0 ≤ rho_.1 ∧ rho_.1 ≤ c.data.length ∧ rho_.2.2.size ≤ 3000 ∧ Nz rho_.2.2) ∧ FnSpec Tryz.prog 60 [.ptr 0 0 0, .str s, .ref 1] [.box 67 [.sl false 1 (c.data.map encU8), .int .i64 c.pos, .int .i64 c.seed], .arr 9 1 (bits.map encS)] (.str rho_.2.2) [.box 67 [.sl false 1 (c.data.map encU8), .int .i64 rho_.1, .int .i64 rho_.2.1], .arr 9 1 (bits.map encS)] := by
 refine dv (fun h_ => FnSpec.of 48 Tryz.func60 rfl Tryz.ntmps60 (by simp) (AW.weakK h_)) ?_
 refine dv (AW.q 1 ·) ?_
 refine dv (AW.r ·) ?_
 refine dv (At.a 4 ·) ?_
 refine dv (At.sI 11 ((s.size : Int) + 1) (by omega) ·) ?_
 refine Exists.elim (spec_l1Below_spec  c ((s.size : Int) + 1) (by omega)) fun r1_ hr1_ => ?_
 obtain ⟨qr1_, hr1_⟩ := hr1_
 try dsimp only at qr1_
 try simp only [Int.reduceLT, Int.reduceLE, true_implies, false_implies, and_true] at qr1_
 refine dv (At.c (hr1_) Tryz.call36 true [(0, 0)] [] [] trivial ·) ?_
 refine dv (At.z 1 ·) ?_
 refine dv (AW.seq ·) ?_
 refine dv (AW.r ·) ?_
 refine dv (At.a 1 ·) ?_
 refine Exists.elim (spec_l1Below_spec  (⟨c.data, r1_.1, r1_.2.1⟩ : Cur) 3 (by dsimp only; omega)) fun r2_ hr2_ => ?_
 obtain ⟨qr2_, hr2_⟩ := hr2_
 try dsimp only at qr2_
 try simp only [Int.reduceLT, Int.reduceLE, true_implies, false_implies, and_true] at qr2_
 refine dv (At.c (hr2_) Tryz.call36 true [(0, 0)] [] [] trivial ·) ?_
 refine dv (At.done rfl ·) ?_
 refine dv (AW.block ·) ?_
 refine dv (AW.q 2 ·) ?_
 by_cases h1 : r2_.2.2 = 0
 · refine dv (AW.condT (r2_.2.2 == 0) (by kernel_rfl) (beq_iff_eq.2 h1) ·) ?_
   refine dv (AW.r ·) ?_
   refine dv (At.a 2 ·) ?_
   refine dv (At.slStr (t := 9) (d := 19) (x := .tmp 17) (lx := none) (hx := some (.tmp 18)) (s := s) (vl := .un) (vh := .int .i64 r1_.2.2) 0 ((r1_.2.2).toNat) (by kernel_rfl) (by kernel_rfl) (by kernel_rfl) (by kernel_rfl) (.inl ⟨rfl, rfl⟩) (.inr ⟨_, _, rfl, sayNat (by omega)⟩) (by omega) (by omega) ·) ?_
   refine dv (At.z 1 ·) ?_
   refine dv (AW.ret ·) ?_
   refine dv (⟨_, Sub.refl _ _, ·⟩) ?_
   exact ⟨(r2_.1, r2_.2.1, (s.extract 0 ((r1_.2.2).toNat))), ⟨by dsimp only; omega, by dsimp only; omega, by dsimp only; simp only [cat_size, ByteArray.size_extract]; omega, by exact hz.ex _ _⟩, KF.mk (.inr rfl) [(0, 0), (1, 1)] [.str (s.extract 0 ((r1_.2.2).toNat))] (by kernel_rfl) (by kernel_rfl) (by kernel_rfl) (by kernel_rfl) (by kernel_rfl)⟩
 refine dv (AW.condF (r2_.2.2 == 0) (by kernel_rfl) (beq_eq_false_iff_ne.2 h1) ·) ?_
 refine dv (AW.q 2 ·) ?_
 by_cases h2 : r2_.2.2 = 1
 · refine dv (AW.condT (r2_.2.2 == 1) (by kernel_rfl) (beq_iff_eq.2 h2) ·) ?_
   refine dv (AW.seq ·) ?_
   refine dv (AW.gD Tryz_mix ·) ?_
   refine dv (At.a 2 ·) ?_
   refine dv (At.slStr (t := 9) (d := 24) (x := .tmp 22) (lx := none) (hx := some (.tmp 23)) (s := s) (vl := .un) (vh := .int .i64 r1_.2.2) 0 ((r1_.2.2).toNat) (by kernel_rfl) (by kernel_rfl) (by kernel_rfl) (by kernel_rfl) (.inl ⟨rfl, rfl⟩) (.inr ⟨_, _, rfl, sayNat (by omega)⟩) (by omega) (by omega) ·) ?_
   refine dv (At.a 2 ·) ?_
   refine Exists.elim (spec_l1Pick_spec  (⟨c.data, r2_.1, r2_.2.1⟩ : Cur) bits (by dsimp only; omega) hl) fun r3_ hr3_ => ?_
   obtain ⟨qr3_, hr3_⟩ := hr3_
   try dsimp only at qr3_
   refine dv (At.c (hr3_) Tryz.call78 true [(0, 0), (1, 1)] [] [] trivial ·) ?_
   have hm3 := hm _ qr3_.2.2
   refine dv (At.cat (t := 9) (u := 9) (d := 28) (x := .tmp 24) (y := .tmp 27) (a := (s.extract 0 ((r1_.2.2).toNat))) (b := r3_.2.2) (by kernel_rfl) (by kernel_rfl) (by kernel_rfl) (by kernel_rfl) (by simp only [cat_size, ByteArray.size_extract]; omega) ·) ?_
   refine dv (At.a 3 ·) ?_
   refine dv (At.sI 31 (r1_.2.2 + 1) (by omega) ·) ?_
   refine dv (At.a 2 ·) ?_
   refine dv (At.c (spec_l1Min_spec  (r1_.2.2 + 1) (s.size : Int) ) Tryz.call79 true [] [] [] trivial ·) ?_
   refine dv (At.slStr (t := 9) (d := 35) (x := .tmp 29) (lx := some (.tmp 34)) (hx := none) (s := s) (vl := .int .i64 (min (r1_.2.2 + 1) (s.size : Int))) (vh := .un) ((min (r1_.2.2 + 1) (s.size : Int)).toNat) s.size (by kernel_rfl) (by kernel_rfl) (by kernel_rfl) (by kernel_rfl) (.inr ⟨_, _, rfl, sayNat (by omega)⟩) (.inl ⟨rfl, rfl⟩) (by omega) (by omega) ·) ?_
   refine dv (At.cat (t := 9) (u := 9) (d := 36) (x := .tmp 28) (y := .tmp 35) (a := (s.extract 0 ((r1_.2.2).toNat)) ++ r3_.2.2) (b := (s.extract ((min (r1_.2.2 + 1) (s.size : Int)).toNat) s.size)) (by kernel_rfl) (by kernel_rfl) (by kernel_rfl) (by kernel_rfl) (by simp only [cat_size, ByteArray.size_extract]; omega) ·) ?_
   refine dv (At.zD 1 ·) ?_
   refine dv (AW.ret ·) ?_
   refine dv (⟨_, Sub.refl _ _, ·⟩) ?_
   exact ⟨(r3_.1, r3_.2.1, ((s.extract 0 ((r1_.2.2).toNat)) ++ r3_.2.2) ++ (s.extract ((min (r1_.2.2 + 1) (s.size : Int)).toNat) s.size)), ⟨by dsimp only; omega, by dsimp only; omega, by dsimp only; simp only [cat_size, ByteArray.size_extract]; omega, by exact ((hz.ex _ _).cat (hm _ (by first | exact qr3_.2.2)).2).cat (hz.ex _ _)⟩, KF.mk (.inr rfl) [(0, 0), (1, 1)] [.str (((s.extract 0 ((r1_.2.2).toNat)) ++ r3_.2.2) ++ (s.extract ((min (r1_.2.2 + 1) (s.size : Int)).toNat) s.size))] (by kernel_rfl) (by kernel_rfl) (by kernel_rfl) (by kernel_rfl) (by kernel_rfl)⟩
 refine dv (AW.condF (r2_.2.2 == 1) (by kernel_rfl) (beq_eq_false_iff_ne.2 h2) ·) ?_
 refine dv (AW.skip ·) ?_
 refine dv (AW.seq ·) ?_
 refine dv (AW.gD Tryz_mix ·) ?_
 refine dv (At.a 2 ·) ?_
 refine dv (At.slStr (t := 9) (d := 39) (x := .tmp 37) (lx := none) (hx := some (.tmp 38)) (s := s) (vl := .un) (vh := .int .i64 r1_.2.2) 0 ((r1_.2.2).toNat) (by kernel_rfl) (by kernel_rfl) (by kernel_rfl) (by kernel_rfl) (.inl ⟨rfl, rfl⟩) (.inr ⟨_, _, rfl, sayNat (by omega)⟩) (by omega) (by omega) ·) ?_
 refine dv (At.a 2 ·) ?_
 refine Exists.elim (spec_l1Pick_spec  (⟨c.data, r2_.1, r2_.2.1⟩ : Cur) bits (by dsimp only; omega) hl) fun r3_ hr3_ => ?_
 obtain ⟨qr3_, hr3_⟩ := hr3_
 try dsimp only at qr3_
 refine dv (At.c (hr3_) Tryz.call78 true [(0, 0), (1, 1)] [] [] trivial ·) ?_
 have hm3 := hm _ qr3_.2.2
 refine dv (At.cat (t := 9) (u := 9) (d := 43) (x := .tmp 39) (y := .tmp 42) (a := (s.extract 0 ((r1_.2.2).toNat))) (b := r3_.2.2) (by kernel_rfl) (by kernel_rfl) (by kernel_rfl) (by kernel_rfl) (by simp only [cat_size, ByteArray.size_extract]; omega) ·) ?_
 refine dv (At.a 2 ·) ?_
 refine dv (At.slStr (t := 9) (d := 46) (x := .tmp 44) (lx := some (.tmp 45)) (hx := none) (s := s) (vl := .int .i64 r1_.2.2) (vh := .un) ((r1_.2.2).toNat) s.size (by kernel_rfl) (by kernel_rfl) (by kernel_rfl) (by kernel_rfl) (.inr ⟨_, _, rfl, sayNat (by omega)⟩) (.inl ⟨rfl, rfl⟩) (by omega) (by omega) ·) ?_
 refine dv (At.cat (t := 9) (u := 9) (d := 47) (x := .tmp 43) (y := .tmp 46) (a := (s.extract 0 ((r1_.2.2).toNat)) ++ r3_.2.2) (b := (s.extract ((r1_.2.2).toNat) s.size)) (by kernel_rfl) (by kernel_rfl) (by kernel_rfl) (by kernel_rfl) (by simp only [cat_size, ByteArray.size_extract]; omega) ·) ?_
 refine dv (At.zD 1 ·) ?_
 refine dv (AW.ret ·) ?_
 refine dv (⟨_, Sub.refl _ _, ·⟩) ?_
 exact ⟨(r3_.1, r3_.2.1, ((s.extract 0 ((r1_.2.2).toNat)) ++ r3_.2.2) ++ (s.extract ((r1_.2.2).toNat) s.size)), ⟨by dsimp only; omega, by dsimp only; omega, by dsimp only; simp only [cat_size, ByteArray.size_extract]; omega, by exact ((hz.ex _ _).cat (hm _ (by first | exact qr3_.2.2)).2).cat (hz.ex _ _)⟩, KF.mk (.inr rfl) [(0, 0), (1, 1)] [.str (((s.extract 0 ((r1_.2.2).toNat)) ++ r3_.2.2) ++ (s.extract ((r1_.2.2).toNat) s.size))] (by kernel_rfl) (by kernel_rfl) (by kernel_rfl) (by kernel_rfl) (by kernel_rfl)⟩
end Go.Proofs.YtahackghhalfeaaGreatDoor
