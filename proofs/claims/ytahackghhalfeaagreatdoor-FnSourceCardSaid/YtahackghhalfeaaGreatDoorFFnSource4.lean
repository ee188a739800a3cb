/- The contracts of the functions that FnSource reaches (each: what it answers, said over values), printed by a program of this session (wip/sy/g/gen.py). -/
import Derived.Test.YtahackghhalfeaaGreatDoorFFnSource3
set_option linter.unusedVariables false
set_option linter.unusedSimpArgs false
set_option maxRecDepth 100000
set_option maxHeartbeats 4000000
namespace Go.Proofs.YtahackghhalfeaaGreatDoor
open Go Go.Sy Go.Proofs Go.Proofs.YtahackghhalfeaaGreatDoor.OnRd
theorem laws_FnSource_spec  (code : List UInt8) (hc : code.length ≤ 9223372036854775807) : FnSpecO 8 GB Tryz.prog 3 [.sl false 1 (code.map encU8)] [] (.bool true) [] := by
 refine FnSpecO.of 117 Tryz.func3 rfl Tryz.ntmps3 (by simp) (AW.weakK ?_)
 refine AW.q 1 ?_
 refine AW.seq ?_
 refine AW.r ?_
 refine At.a 1 ?_
 refine At.c (laws_big_spec  code hc) Tryz.call4 true [] [] [] trivial ?_
 refine At.done rfl ?_
 refine AW.cD ((code.length : Int) > 1048576) (fun h1 => ?_) (fun h1 => ?_)
 · refine AW.q 1 ?_
   exact AW.ret (rf (KF.n []))
 refine AW.skip ?_
 refine AW.r ?_
 refine At.a 1 ?_
 refine Exists.elim (spec_DrawSourcePrint_spec  code (by omega)) fun r1_ hr1_ => ?_
 obtain ⟨qr1_, hr1_⟩ := hr1_
 try dsimp only at qr1_
 refine At.c (hr1_) Tryz.call5 true [] [(1520, 0), (1521, 1), (1522, 2)] [] trivial ?_
 refine At.z 2 ?_
 refine AW.r ?_
 refine At.a 1 ?_
 refine At.callO glStay rfl (FnSpecQ.toO (fun _ h => h) (impl_SourcePrint_spec  r1_ (by omega))) Tryz.call6 false [] [] [(1520, 9, (r1_.rules.map encRul)), (1521, 3, (r1_.zones.map encZon)), (1522, 2, (r1_.links.map encLnk))] (by kernel_rfl) (by kernel_rfl) (by kernel_rfl) (by kernel_rfl) (by kernel_rfl) ⟨rfl, ⟨43, (r1_.rules.map encRul), by kernel_rfl, FrzIs.same (allP_encRul _)⟩, rfl, ⟨49, (r1_.zones.map encZon), by kernel_rfl, FrzIs.same (allP_encZon _)⟩, rfl, ⟨51, (r1_.links.map encLnk), by kernel_rfl, FrzIs.same (allP_encLnk _)⟩, trivial⟩ ?_
 refine At.z 5 ?_
 refine AW.r ?_
 refine At.a 1 ?_
 refine At.c (spec_SourcePrint_spec  r1_ (by omega)) Tryz.call7 false [] [] [(1520, 9, (r1_.rules.map encRul)), (1521, 3, (r1_.zones.map encZon)), (1522, 2, (r1_.links.map encLnk))] ⟨rfl, ⟨43, (r1_.rules.map encRul), by kernel_rfl, FrzIs.same (allP_encRul _)⟩, rfl, ⟨49, (r1_.zones.map encZon), by kernel_rfl, FrzIs.same (allP_encZon _)⟩, rfl, ⟨51, (r1_.links.map encLnk), by kernel_rfl, FrzIs.same (allP_encLnk _)⟩, trivial⟩ ?_
 refine At.z 5 ?_
 refine AW.seq ?_
 refine AW.seq ?_
 refine AW.gD Tryz_mix ?_
 refine At.a 2 ?_
 refine At.eqB (t := 4) (u := 4) (d := 39) (op := .neq) (x := .tmp 37) (y := .tmp 38) (a := ((srcP r1_).2)) (b := ((srcP r1_).2)) (by kernel_rfl) (by kernel_rfl) (by kernel_rfl) (by kernel_rfl) (by kernel_rfl) (.bool (!(((srcP r1_).2) == ((srcP r1_).2)))) (.inr ⟨rfl, rfl⟩) ?_
 refine At.a 1 ?_
 refine At.sB 40 (!(((srcP r1_).2) == ((srcP r1_).2))) false (sayB (by rw [show (((srcP r1_).2) == ((srcP r1_).2)) = true from (beq_self_eq_true _)]; rfl)) ?_
 refine At.a 1 ?_
 refine At.c (impl_SourceOk_spec  r1_ (by omega)) Tryz.call8 false [] [] [(1520, 9, (r1_.rules.map encRul)), (1521, 3, (r1_.zones.map encZon)), (1522, 2, (r1_.links.map encLnk))] ⟨rfl, ⟨43, (r1_.rules.map encRul), by kernel_rfl, FrzIs.same (allP_encRul _)⟩, rfl, ⟨49, (r1_.zones.map encZon), by kernel_rfl, FrzIs.same (allP_encZon _)⟩, rfl, ⟨51, (r1_.links.map encLnk), by kernel_rfl, FrzIs.same (allP_encLnk _)⟩, trivial⟩ ?_
 refine At.a 1 ?_
 refine At.c (spec_SourceOk_spec  r1_ (by omega)) Tryz.call9 false [] [] [(1520, 9, (r1_.rules.map encRul)), (1521, 3, (r1_.zones.map encZon)), (1522, 2, (r1_.links.map encLnk))] ⟨rfl, ⟨43, (r1_.rules.map encRul), by kernel_rfl, FrzIs.same (allP_encRul _)⟩, rfl, ⟨49, (r1_.zones.map encZon), by kernel_rfl, FrzIs.same (allP_encZon _)⟩, rfl, ⟨51, (r1_.links.map encLnk), by kernel_rfl, FrzIs.same (allP_encLnk _)⟩, trivial⟩ ?_
 refine At.eqB (t := 4) (u := 4) (d := 45) (op := .neq) (x := .tmp 42) (y := .tmp 44) (a := (srcOk r1_)) (b := (srcOk r1_)) (by kernel_rfl) (by kernel_rfl) (by kernel_rfl) (by kernel_rfl) (by kernel_rfl) (.bool (!((srcOk r1_) == (srcOk r1_)))) (.inr ⟨rfl, rfl⟩) ?_
 refine At.zD 1 ?_
 refine AW.condF (!((srcOk r1_) == (srcOk r1_))) (by kernel_rfl) (by rw [show ((srcOk r1_) == (srcOk r1_)) = true from (beq_self_eq_true _)]; rfl) ?_
 refine AW.skip ?_
 refine AW.seq ?_
 refine AW.q 1 ?_
 refine AW.cB ((srcP r1_).2) (fun h2 => ?_) (fun h2 => ?_)
 · refine Exists.elim (sp_yes h2) fun m_ hm_ => ?_
   refine AW.r ?_
   refine At.a 1 ?_
   refine At.callO glStay rfl (impl_SourceParse_spec  (strOf (srcP r1_).1) (by exact Nat.le_trans (sp_size _) (by decide))) Tryz.call10 true [] [(2000, 0), (2001, 1), (2002, 2)] [] (by kernel_rfl) (by kernel_rfl) (by kernel_rfl) (by kernel_rfl) (by kernel_rfl) trivial ?_
   refine At.z 8 ?_
   refine AW.r ?_
   refine At.a 3 ?_
   refine At.sB 56 (((parP lineI (strOf (srcP r1_).1).data.toList).2.2) != 0) false (sayB (by rw [hm_]; rfl)) ?_
   refine At.a 2 ?_
   refine At.c (laws_sameSource_spec  ((parP lineI (strOf (srcP r1_).1).data.toList).1) r1_ (by rw [hm_]; dsimp only; omega) (by omega) (by rw [hm_])) Tryz.call11 false [] [] [(2000, 9, ((((parP lineI (strOf (srcP r1_).1).data.toList).1).rules).map encRul)), (2001, 3, ((((parP lineI (strOf (srcP r1_).1).data.toList).1).zones).map encZon)), (2002, 2, ((((parP lineI (strOf (srcP r1_).1).data.toList).1).links).map encLnk)), (1520, 9, (r1_.rules.map encRul)), (1521, 3, (r1_.zones.map encZon)), (1522, 2, (r1_.links.map encLnk))] ⟨rfl, ⟨43, ((((parP lineI (strOf (srcP r1_).1).data.toList).1).rules).map encRul), by kernel_rfl, FrzIs.same (allP_encRul _)⟩, rfl, ⟨49, ((((parP lineI (strOf (srcP r1_).1).data.toList).1).zones).map encZon), by kernel_rfl, FrzIs.same (allP_encZon _)⟩, rfl, ⟨51, ((((parP lineI (strOf (srcP r1_).1).data.toList).1).links).map encLnk), by kernel_rfl, FrzIs.same (allP_encLnk _)⟩, rfl, ⟨43, (r1_.rules.map encRul), by kernel_rfl, FrzIs.same (allP_encRul _)⟩, rfl, ⟨49, (r1_.zones.map encZon), by kernel_rfl, FrzIs.same (allP_encZon _)⟩, rfl, ⟨51, (r1_.links.map encLnk), by kernel_rfl, FrzIs.same (allP_encLnk _)⟩, trivial⟩ ?_
   refine At.z 2 ?_
   refine AW.cond false (by kernel_rfl) (fun h => by cases h) (fun _ => ?_)
   refine AW.skip ?_
   refine AW.r ?_
   refine At.a 1 ?_
   refine Exists.elim (spec_DrawSourceParse_spec  code (by omega)) fun r2_ hr2_ => ?_
   obtain ⟨qr2_, hr2_⟩ := hr2_
   try dsimp only at qr2_
   refine At.c (hr2_) Tryz.call12 true [] [] [] trivial ?_
   refine At.z 1 ?_
   refine AW.r ?_
   refine At.a 1 ?_
   refine At.callO glStay rfl (impl_SourceParse_spec  r2_ (by omega)) Tryz.call10 true [] [(2320, 0), (2321, 1), (2322, 2)] [] (by kernel_rfl) (by kernel_rfl) (by kernel_rfl) (by kernel_rfl) (by kernel_rfl) trivial ?_
   refine At.z 8 ?_
   refine AW.r ?_
   refine At.a 1 ?_
   refine At.c (spec_SourceParse_spec  r2_ (by omega)) Tryz.call13 true [] [(2440, 0), (2441, 1), (2442, 2)] [] trivial ?_
   refine At.z 8 ?_
   refine AW.seq ?_
   refine AW.r ?_
   refine At.a 4 ?_
   refine At.sB 79 (((parP lineI r2_.data.toList).2.2) != ((parP lineS r2_.data.toList).2.2)) false (sayB (by rw [par_both qr2_.2]; exact bne_self_eq_false _)) ?_
   refine At.z 4 ?_
   refine AW.condF (((parP lineI r2_.data.toList).2.1) != ((parP lineS r2_.data.toList).2.1)) (by kernel_rfl) (by rw [par_both qr2_.2]; exact bne_self_eq_false _) ?_
   refine AW.skip ?_
   refine AW.seq ?_
   refine AW.q 2 ?_
   refine AW.cU ((parP lineI r2_.data.toList).2.2) (0 : Int) (fun h3 => ?_) (fun h3 => ?_)
   · refine AW.r ?_
     refine At.a 3 ?_
     refine At.sL 88 encZon (((parP lineI r2_.data.toList).1).zones) ?_
     refine At.a 2 ?_
     refine At.sB 90 (((((parP lineI r2_.data.toList).1).zones).length : Int) == 0) true (sayB (by rw [par_zero (by assumption)]; rfl)) ?_
     refine At.a 3 ?_
     refine At.sL 93 encRul (((parP lineI r2_.data.toList).1).rules) ?_
     refine At.z 3 ?_
     refine AW.ret ?_
     refine ⟨_, Sub.refl _ _, ?_⟩
     refine KF.conv (fun w => .bool w) (fun w => []) (show (((((parP lineI r2_.data.toList).1).rules).length : Int) == 0) = (true) from by rw [par_zero (by assumption)]; rfl) ?_
     exact KF.n []
   refine AW.skip ?_
   refine AW.r ?_
   refine At.a 1 ?_
   refine At.callO glStay rfl (FnSpecQ.toO (fun _ h => h) (impl_SourcePrint_spec  ((parP lineI r2_.data.toList).1) (by exact sz_ok (par_well (by assumption)).1))) Tryz.call6 false [] [] [(2320, 9, ((((parP lineI r2_.data.toList).1).rules).map encRul)), (2321, 3, ((((parP lineI r2_.data.toList).1).zones).map encZon)), (2322, 2, ((((parP lineI r2_.data.toList).1).links).map encLnk))] (by kernel_rfl) (by kernel_rfl) (by kernel_rfl) (by kernel_rfl) (by kernel_rfl) ⟨rfl, ⟨43, ((((parP lineI r2_.data.toList).1).rules).map encRul), by kernel_rfl, FrzIs.same (allP_encRul _)⟩, rfl, ⟨49, ((((parP lineI r2_.data.toList).1).zones).map encZon), by kernel_rfl, FrzIs.same (allP_encZon _)⟩, rfl, ⟨51, ((((parP lineI r2_.data.toList).1).links).map encLnk), by kernel_rfl, FrzIs.same (allP_encLnk _)⟩, trivial⟩ ?_
   have hy2 : (srcP (parP lineI r2_.data.toList).1).2 = true := by rw [srcP_well (by assumption)]
   refine Exists.elim (sp_yes hy2) fun m2_ hm2_ => ?_
   refine At.z 5 ?_
   refine AW.r ?_
   refine At.a 1 ?_
   refine At.callO glStay rfl (impl_SourceParse_spec  (strOf (srcP ((parP lineI r2_.data.toList).1)).1) (by exact Nat.le_trans (sp_size _) (by decide))) Tryz.call10 true [] [(3060, 0), (3061, 1), (3062, 2)] [] (by kernel_rfl) (by kernel_rfl) (by kernel_rfl) (by kernel_rfl) (by kernel_rfl) trivial ?_
   refine At.z 8 ?_
   refine AW.r ?_
   refine At.a 2 ?_
   refine At.sB 108 ((srcP ((parP lineI r2_.data.toList).1)).2) true (sayB hy2) ?_
   refine At.a 4 ?_
   refine At.sB 112 (((parP lineI (strOf (srcP ((parP lineI r2_.data.toList).1)).1).data.toList).2.2) == 0) true (sayB (by rw [hm2_]; rfl)) ?_
   refine At.a 2 ?_
   refine At.c (laws_sameSource_spec  ((parP lineI r2_.data.toList).1) ((parP lineI (strOf (srcP ((parP lineI r2_.data.toList).1)).1).data.toList).1) (by exact sz_ok (par_well (by assumption)).1) (by rw [hm2_]; exact sz_ok (par_well (by assumption)).1) (by rw [hm2_])) Tryz.call11 false [] [] [(2320, 9, ((((parP lineI r2_.data.toList).1).rules).map encRul)), (2321, 3, ((((parP lineI r2_.data.toList).1).zones).map encZon)), (2322, 2, ((((parP lineI r2_.data.toList).1).links).map encLnk)), (3060, 9, ((((parP lineI (strOf (srcP ((parP lineI r2_.data.toList).1)).1).data.toList).1).rules).map encRul)), (3061, 3, ((((parP lineI (strOf (srcP ((parP lineI r2_.data.toList).1)).1).data.toList).1).zones).map encZon)), (3062, 2, ((((parP lineI (strOf (srcP ((parP lineI r2_.data.toList).1)).1).data.toList).1).links).map encLnk))] ⟨rfl, ⟨43, ((((parP lineI r2_.data.toList).1).rules).map encRul), by kernel_rfl, FrzIs.same (allP_encRul _)⟩, rfl, ⟨49, ((((parP lineI r2_.data.toList).1).zones).map encZon), by kernel_rfl, FrzIs.same (allP_encZon _)⟩, rfl, ⟨51, ((((parP lineI r2_.data.toList).1).links).map encLnk), by kernel_rfl, FrzIs.same (allP_encLnk _)⟩, rfl, ⟨43, ((((parP lineI (strOf (srcP ((parP lineI r2_.data.toList).1)).1).data.toList).1).rules).map encRul), by kernel_rfl, FrzIs.same (allP_encRul _)⟩, rfl, ⟨49, ((((parP lineI (strOf (srcP ((parP lineI r2_.data.toList).1)).1).data.toList).1).zones).map encZon), by kernel_rfl, FrzIs.same (allP_encZon _)⟩, rfl, ⟨51, ((((parP lineI (strOf (srcP ((parP lineI r2_.data.toList).1)).1).data.toList).1).links).map encLnk), by kernel_rfl, FrzIs.same (allP_encLnk _)⟩, trivial⟩ ?_
   refine At.z 2 ?_
   exact AW.ret (rf (KF.n []))
 refine AW.skip ?_
 refine AW.r ?_
 refine At.a 1 ?_
 refine Exists.elim (spec_DrawSourceParse_spec  code (by omega)) fun r2_ hr2_ => ?_
 obtain ⟨qr2_, hr2_⟩ := hr2_
 try dsimp only at qr2_
 refine At.c (hr2_) Tryz.call12 true [] [] [] trivial ?_
 refine At.z 1 ?_
 refine AW.r ?_
 refine At.a 1 ?_
 refine At.callO glStay rfl (impl_SourceParse_spec  r2_ (by omega)) Tryz.call10 true [] [(2320, 0), (2321, 1), (2322, 2)] [] (by kernel_rfl) (by kernel_rfl) (by kernel_rfl) (by kernel_rfl) (by kernel_rfl) trivial ?_
 refine At.z 8 ?_
 refine AW.r ?_
 refine At.a 1 ?_
 refine At.c (spec_SourceParse_spec  r2_ (by omega)) Tryz.call13 true [] [(2440, 0), (2441, 1), (2442, 2)] [] trivial ?_
 refine At.z 8 ?_
 refine AW.seq ?_
 refine AW.r ?_
 refine At.a 4 ?_
 refine At.sB 79 (((parP lineI r2_.data.toList).2.2) != ((parP lineS r2_.data.toList).2.2)) false (sayB (by rw [par_both qr2_.2]; exact bne_self_eq_false _)) ?_
 refine At.z 4 ?_
 refine AW.condF (((parP lineI r2_.data.toList).2.1) != ((parP lineS r2_.data.toList).2.1)) (by kernel_rfl) (by rw [par_both qr2_.2]; exact bne_self_eq_false _) ?_
 refine AW.skip ?_
 refine AW.seq ?_
 refine AW.q 2 ?_
 refine AW.cU ((parP lineI r2_.data.toList).2.2) (0 : Int) (fun h4 => ?_) (fun h4 => ?_)
 · refine AW.r ?_
   refine At.a 3 ?_
   refine At.sL 88 encZon (((parP lineI r2_.data.toList).1).zones) ?_
   refine At.a 2 ?_
   refine At.sB 90 (((((parP lineI r2_.data.toList).1).zones).length : Int) == 0) true (sayB (by rw [par_zero (by assumption)]; rfl)) ?_
   refine At.a 3 ?_
   refine At.sL 93 encRul (((parP lineI r2_.data.toList).1).rules) ?_
   refine At.z 3 ?_
   refine AW.ret ?_
   refine ⟨_, Sub.refl _ _, ?_⟩
   refine KF.conv (fun w => .bool w) (fun w => []) (show (((((parP lineI r2_.data.toList).1).rules).length : Int) == 0) = (true) from by rw [par_zero (by assumption)]; rfl) ?_
   exact KF.n []
 refine AW.skip ?_
 refine AW.r ?_
 refine At.a 1 ?_
 refine At.callO glStay rfl (FnSpecQ.toO (fun _ h => h) (impl_SourcePrint_spec  ((parP lineI r2_.data.toList).1) (by exact sz_ok (par_well (by assumption)).1))) Tryz.call6 false [] [] [(2320, 9, ((((parP lineI r2_.data.toList).1).rules).map encRul)), (2321, 3, ((((parP lineI r2_.data.toList).1).zones).map encZon)), (2322, 2, ((((parP lineI r2_.data.toList).1).links).map encLnk))] (by kernel_rfl) (by kernel_rfl) (by kernel_rfl) (by kernel_rfl) (by kernel_rfl) ⟨rfl, ⟨43, ((((parP lineI r2_.data.toList).1).rules).map encRul), by kernel_rfl, FrzIs.same (allP_encRul _)⟩, rfl, ⟨49, ((((parP lineI r2_.data.toList).1).zones).map encZon), by kernel_rfl, FrzIs.same (allP_encZon _)⟩, rfl, ⟨51, ((((parP lineI r2_.data.toList).1).links).map encLnk), by kernel_rfl, FrzIs.same (allP_encLnk _)⟩, trivial⟩ ?_
 have hy2 : (srcP (parP lineI r2_.data.toList).1).2 = true := by rw [srcP_well (by assumption)]
 refine Exists.elim (sp_yes hy2) fun m2_ hm2_ => ?_
 refine At.z 5 ?_
 refine AW.r ?_
 refine At.a 1 ?_
 refine At.callO glStay rfl (impl_SourceParse_spec  (strOf (srcP ((parP lineI r2_.data.toList).1)).1) (by exact Nat.le_trans (sp_size _) (by decide))) Tryz.call10 true [] [(3060, 0), (3061, 1), (3062, 2)] [] (by kernel_rfl) (by kernel_rfl) (by kernel_rfl) (by kernel_rfl) (by kernel_rfl) trivial ?_
 refine At.z 8 ?_
 refine AW.r ?_
 refine At.a 2 ?_
 refine At.sB 108 ((srcP ((parP lineI r2_.data.toList).1)).2) true (sayB hy2) ?_
 refine At.a 4 ?_
 refine At.sB 112 (((parP lineI (strOf (srcP ((parP lineI r2_.data.toList).1)).1).data.toList).2.2) == 0) true (sayB (by rw [hm2_]; rfl)) ?_
 refine At.a 2 ?_
 refine At.c (laws_sameSource_spec  ((parP lineI r2_.data.toList).1) ((parP lineI (strOf (srcP ((parP lineI r2_.data.toList).1)).1).data.toList).1) (by exact sz_ok (par_well (by assumption)).1) (by rw [hm2_]; exact sz_ok (par_well (by assumption)).1) (by rw [hm2_])) Tryz.call11 false [] [] [(2320, 9, ((((parP lineI r2_.data.toList).1).rules).map encRul)), (2321, 3, ((((parP lineI r2_.data.toList).1).zones).map encZon)), (2322, 2, ((((parP lineI r2_.data.toList).1).links).map encLnk)), (3060, 9, ((((parP lineI (strOf (srcP ((parP lineI r2_.data.toList).1)).1).data.toList).1).rules).map encRul)), (3061, 3, ((((parP lineI (strOf (srcP ((parP lineI r2_.data.toList).1)).1).data.toList).1).zones).map encZon)), (3062, 2, ((((parP lineI (strOf (srcP ((parP lineI r2_.data.toList).1)).1).data.toList).1).links).map encLnk))] ⟨rfl, ⟨43, ((((parP lineI r2_.data.toList).1).rules).map encRul), by kernel_rfl, FrzIs.same (allP_encRul _)⟩, rfl, ⟨49, ((((parP lineI r2_.data.toList).1).zones).map encZon), by kernel_rfl, FrzIs.same (allP_encZon _)⟩, rfl, ⟨51, ((((parP lineI r2_.data.toList).1).links).map encLnk), by kernel_rfl, FrzIs.same (allP_encLnk _)⟩, rfl, ⟨43, ((((parP lineI (strOf (srcP ((parP lineI r2_.data.toList).1)).1).data.toList).1).rules).map encRul), by kernel_rfl, FrzIs.same (allP_encRul _)⟩, rfl, ⟨49, ((((parP lineI (strOf (srcP ((parP lineI r2_.data.toList).1)).1).data.toList).1).zones).map encZon), by kernel_rfl, FrzIs.same (allP_encZon _)⟩, rfl, ⟨51, ((((parP lineI (strOf (srcP ((parP lineI r2_.data.toList).1)).1).data.toList).1).links).map encLnk), by kernel_rfl, FrzIs.same (allP_encLnk _)⟩, trivial⟩ ?_
 refine At.z 2 ?_
 exact AW.ret (rf (KF.n []))
end Go.Proofs.YtahackghhalfeaaGreatDoor
