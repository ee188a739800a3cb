/- The contracts of the functions that FnOn reaches (each: what it answers, said over values), printed by a program of this session (wip/sy/g/gen.py). -/
import Derived.Test.YthklhfcjglimiaaDoorFFnOn1
set_option linter.unusedVariables false
set_option linter.unusedSimpArgs false
set_option maxRecDepth 100000
set_option maxHeartbeats 4000000
namespace Go.Proofs.YthklhfcjglimiaaDoor
open Go Go.Sy Go.Proofs Go.Proofs.YthklhfcjglimiaaDoor.OnRd
def K_laws_FnOn (rs : List ResultVar) (code : List UInt8) (w0_ : Bool) : Exit → Sg → Prop := KF Tryd.prog 0 rs (.bool w0_) []
theorem laws_FnOn_spec  (code : List UInt8) (hc : code.length ≤ 9223372036854775807) : FnSpecQ GB Tryd.prog 4 [.sl false 1 (code.map encU8)] (.bool true) := by
 refine FnSpecQ.of 63 Tryd.func4 rfl Tryd.ntmps4 (by simp) (AW.weakK ?_)
 refine AW.q 1 ?_
 refine AW.seq ?_
 refine AW.r ?_
 refine At.a 1 ?_
 refine At.c (laws_big_spec  code hc) Tryd.call8 true [] [] [] trivial ?_
 refine At.done rfl ?_
 refine AW.cD ((code.length : Int) > 1048576) (fun h1 => ?_) (fun h1 => ?_)
 · refine AW.q 1 ?_
   exact AW.ret (rf (KF.n []))
 refine AW.skip ?_
 refine AW.r ?_
 refine At.a 1 ?_
 refine Exists.elim (spec_DrawOnText_spec  code (by omega)) fun r1_ hr1_ => ?_
 obtain ⟨qr1_, hr1_⟩ := hr1_
 try dsimp only at qr1_
 refine At.c (hr1_) Tryd.call9 true [] [] [] trivial ?_
 refine At.z 2 ?_
 refine AW.r ?_
 refine At.a 1 ?_
 refine At.callQ glLasts rfl (impl_OnText_spec  r1_ (by omega)) Tryd.call10 true [] [] [] (by kernel_rfl) (by kernel_rfl) (by kernel_rfl) (by kernel_rfl) (by kernel_rfl) trivial ?_
 refine At.z 1 ?_
 refine AW.seq ?_
 refine AW.r ?_
 refine At.a 1 ?_
 refine At.c (spec_OnOk_spec  r1_ ) Tryd.call11 true [] [] [] trivial ?_
 refine At.done rfl ?_
 refine AW.cB (onOk r1_) (fun h2 => ?_) (fun h2 => ?_)
 · refine AW.r ?_
   refine At.a 1 ?_
   refine At.callQ glLasts rfl (impl_OnRead_spec  (strOf (txO r1_)) (by exact Nat.le_trans (tx_size _) (by decide))) Tryd.call6 true [] [] [] (by kernel_rfl) (by kernel_rfl) (by kernel_rfl) (by kernel_rfl) (by kernel_rfl) trivial ?_
   refine At.z 6 ?_
   refine AW.r ?_
   refine At.a 3 ?_
   by_cases h3 : ((onRI (strOf (txO r1_)).data.toList).2) = true
   · refine At.sB 27 (!((onRI (strOf (txO r1_)).data.toList).2)) false (sayNF (sayB h3)) ?_
     refine At.a 2 ?_
     refine At.eqA (t := 23) (u := 23) (d := 30) (op := .neq) (x := .tmp 28) (y := .tmp 29) (X := [.int .i64 (((onRI (strOf (txO r1_)).data.toList).1).kind), .int .i64 (((onRI (strOf (txO r1_)).data.toList).1).day), .int .i64 (((onRI (strOf (txO r1_)).data.toList).1).week)]) (Y := [.int .i64 r1_.kind, .int .i64 r1_.day, .int .i64 r1_.week]) (onEqA ((onRI (strOf (txO r1_)).data.toList).1) r1_) (by kernel_rfl) (by kernel_rfl) (by kernel_rfl) (by kernel_rfl) (by kernel_rfl) (.bool (!(onEqA ((onRI (strOf (txO r1_)).data.toList).1) r1_))) (.inr ⟨rfl, rfl⟩) ?_
     refine At.z 1 ?_
     refine AW.cNB (onEqA ((onRI (strOf (txO r1_)).data.toList).1) r1_) (fun h4 => ?_) (fun h4 => ?_)
     · refine AW.q 1 ?_
       exact AW.ret (rf (k1 (K_laws_FnOn _ code) (show (false) = (true) from by exact (ri_t1 (by assumption) (by assumption)).elim) (KF.n [])))
     refine AW.skip ?_
     refine AW.r ?_
     refine At.a 1 ?_
     refine Exists.elim (spec_DrawOnRead_spec  code (by omega)) fun r2_ hr2_ => ?_
     obtain ⟨qr2_, hr2_⟩ := hr2_
     try dsimp only at qr2_
     refine At.c (hr2_) Tryd.call12 true [] [] [] trivial ?_
     refine At.z 1 ?_
     refine AW.r ?_
     refine At.a 1 ?_
     refine At.callQ glLasts rfl (impl_OnRead_spec  r2_ (by omega)) Tryd.call6 true [] [] [] (by kernel_rfl) (by kernel_rfl) (by kernel_rfl) (by kernel_rfl) (by kernel_rfl) trivial ?_
     refine At.z 6 ?_
     refine AW.r ?_
     refine At.a 1 ?_
     refine At.c (spec_OnRead_spec  r2_ (by omega)) Tryd.call5 true [] [] [] trivial ?_
     refine At.z 6 ?_
     refine AW.r ?_
     refine At.a 2 ?_
     refine At.eqB (t := 4) (u := 4) (d := 48) (op := .eql) (x := .tmp 46) (y := .tmp 47) (a := ((onRI r2_.data.toList).2)) (b := ((onRS r2_.data.toList).2)) (by kernel_rfl) (by kernel_rfl) (by kernel_rfl) (by kernel_rfl) (by kernel_rfl) (.bool (((onRI r2_.data.toList).2) == ((onRS r2_.data.toList).2))) (.inl ⟨rfl, rfl⟩) ?_
     refine At.a 1 ?_
     by_cases h5 : (((onRI r2_.data.toList).2) == ((onRS r2_.data.toList).2)) = true
     · refine At.sB 49 (((onRI r2_.data.toList).2) == ((onRS r2_.data.toList).2)) true (sayB h5) ?_
       refine At.a 3 ?_
       by_cases h6 : ((onRI r2_.data.toList).2) = true
       · refine At.sB 52 (!((onRI r2_.data.toList).2)) false (sayNF (sayB h6)) ?_
         refine At.a 1 ?_
         refine At.callQ glLasts rfl (impl_OnText_spec  ((onRI r2_.data.toList).1) (by exact ri_bd _)) Tryd.call10 true [] [] [] (by kernel_rfl) (by kernel_rfl) (by kernel_rfl) (by kernel_rfl) (by kernel_rfl) trivial ?_
         refine At.a 3 ?_
         by_cases h7 : (strOf (txO ((onRI r2_.data.toList).1))).toList = r2_.toList
         · refine At.sB 57 _ _ (sayET h7) ?_
           refine At.a 1 ?_
           refine At.c (impl_OnOk_spec  ((onRI r2_.data.toList).1) ) Tryd.call13 true [] [] [] trivial ?_
           refine At.z 4 ?_
           exact AW.ret (rf (k1 (K_laws_FnOn _ code) (show (onOk ((onRI r2_.data.toList).1)) = (true) from by exact (read_i (by assumption)).1) (KF.n [])))
         refine At.sB 57 _ _ (sayEF h7) ?_
         refine At.z 6 ?_
         exact AW.ret (rf (k1 (K_laws_FnOn _ code) (show (false) = (true) from by exact absurd (tx_same (by assumption)) (by assumption)) (KF.n [])))
       refine At.sB 52 (!((onRI r2_.data.toList).2)) true (sayNT (sayB (Bool.eq_false_iff.2 h6))) ?_
       replace h6 := Bool.eq_false_iff.2 h6
       refine At.z 11 ?_
       exact AW.ret (rf (KF.n []))
     refine At.sB 49 (((onRI r2_.data.toList).2) == ((onRS r2_.data.toList).2)) false (sayB (Bool.eq_false_iff.2 h5)) ?_
     replace h5 := Bool.eq_false_iff.2 h5
     refine At.z 14 ?_
     exact AW.ret (rf (k1 (K_laws_FnOn _ code) (show (false) = (true) from by exact (ri_eq2 (by assumption)).elim) (KF.n [])))
   refine At.sB 27 (!((onRI (strOf (txO r1_)).data.toList).2)) true (sayNT (sayB (Bool.eq_false_iff.2 h3))) ?_
   replace h3 := Bool.eq_false_iff.2 h3
   refine At.z 4 ?_
   refine AW.cond true (by kernel_rfl) (fun _ => ?_) (fun h => by cases h)
   refine AW.q 1 ?_
   exact AW.ret (rf (k1 (K_laws_FnOn _ code) (show (false) = (true) from by exact (ri_t2 (by assumption) (by assumption)).elim) (KF.n [])))
 refine AW.q 2 ?_
 refine AW.cNE ((strOf (txO r1_)).toList) ((⟨#[]⟩ : ByteArray).toList) (fun h8 => ?_) (fun h8 => ?_)
 · refine AW.q 1 ?_
   exact AW.ret (rf (k1 (K_laws_FnOn _ code) (show (false) = (true) from by exact absurd (tx_nil (by assumption)) (by assumption)) (KF.n [])))
 refine AW.skip ?_
 refine AW.r ?_
 refine At.a 1 ?_
 refine Exists.elim (spec_DrawOnRead_spec  code (by omega)) fun r2_ hr2_ => ?_
 obtain ⟨qr2_, hr2_⟩ := hr2_
 try dsimp only at qr2_
 refine At.c (hr2_) Tryd.call12 true [] [] [] trivial ?_
 refine At.z 1 ?_
 refine AW.r ?_
 refine At.a 1 ?_
 refine At.callQ glLasts rfl (impl_OnRead_spec  r2_ (by omega)) Tryd.call6 true [] [] [] (by kernel_rfl) (by kernel_rfl) (by kernel_rfl) (by kernel_rfl) (by kernel_rfl) trivial ?_
 refine At.z 6 ?_
 refine AW.r ?_
 refine At.a 1 ?_
 refine At.c (spec_OnRead_spec  r2_ (by omega)) Tryd.call5 true [] [] [] trivial ?_
 refine At.z 6 ?_
 refine AW.r ?_
 refine At.a 2 ?_
 refine At.eqB (t := 4) (u := 4) (d := 48) (op := .eql) (x := .tmp 46) (y := .tmp 47) (a := ((onRI r2_.data.toList).2)) (b := ((onRS r2_.data.toList).2)) (by kernel_rfl) (by kernel_rfl) (by kernel_rfl) (by kernel_rfl) (by kernel_rfl) (.bool (((onRI r2_.data.toList).2) == ((onRS r2_.data.toList).2))) (.inl ⟨rfl, rfl⟩) ?_
 refine At.a 1 ?_
 by_cases h9 : (((onRI r2_.data.toList).2) == ((onRS r2_.data.toList).2)) = true
 · refine At.sB 49 (((onRI r2_.data.toList).2) == ((onRS r2_.data.toList).2)) true (sayB h9) ?_
   refine At.a 3 ?_
   by_cases h10 : ((onRI r2_.data.toList).2) = true
   · refine At.sB 52 (!((onRI r2_.data.toList).2)) false (sayNF (sayB h10)) ?_
     refine At.a 1 ?_
     refine At.callQ glLasts rfl (impl_OnText_spec  ((onRI r2_.data.toList).1) (by exact ri_bd _)) Tryd.call10 true [] [] [] (by kernel_rfl) (by kernel_rfl) (by kernel_rfl) (by kernel_rfl) (by kernel_rfl) trivial ?_
     refine At.a 3 ?_
     by_cases h11 : (strOf (txO ((onRI r2_.data.toList).1))).toList = r2_.toList
     · refine At.sB 57 _ _ (sayET h11) ?_
       refine At.a 1 ?_
       refine At.c (impl_OnOk_spec  ((onRI r2_.data.toList).1) ) Tryd.call13 true [] [] [] trivial ?_
       refine At.z 4 ?_
       exact AW.ret (rf (k1 (K_laws_FnOn _ code) (show (onOk ((onRI r2_.data.toList).1)) = (true) from by exact (read_i (by assumption)).1) (KF.n [])))
     refine At.sB 57 _ _ (sayEF h11) ?_
     refine At.z 6 ?_
     exact AW.ret (rf (k1 (K_laws_FnOn _ code) (show (false) = (true) from by exact absurd (tx_same (by assumption)) (by assumption)) (KF.n [])))
   refine At.sB 52 (!((onRI r2_.data.toList).2)) true (sayNT (sayB (Bool.eq_false_iff.2 h10))) ?_
   replace h10 := Bool.eq_false_iff.2 h10
   refine At.z 11 ?_
   exact AW.ret (rf (KF.n []))
 refine At.sB 49 (((onRI r2_.data.toList).2) == ((onRS r2_.data.toList).2)) false (sayB (Bool.eq_false_iff.2 h9)) ?_
 replace h9 := Bool.eq_false_iff.2 h9
 refine At.z 14 ?_
 exact AW.ret (rf (k1 (K_laws_FnOn _ code) (show (false) = (true) from by exact (ri_eq2 (by assumption)).elim) (KF.n [])))
end Go.Proofs.YthklhfcjglimiaaDoor
