/- The contracts of the functions that FnMsg reaches (each: what it answers, said over values), printed by a program of this session (wip/sy/g/gen.py). -/
import Derived.Test.YthjmbojkpkbedaaFFnMsg3
set_option linter.unusedVariables false
set_option linter.unusedSimpArgs false
set_option maxRecDepth 100000
set_option maxHeartbeats 4000000
namespace Go.Proofs.Ythjmbojkpkbedaa
open Go Go.Sy Go.Proofs
theorem spec_DrawMsgRead_spec  (code : List UInt8) (hc : code.length ≤ 1048576) : ∃ rho_ : List UInt8, (rho_.length ≤ 3100) ∧ FnSpec Try.prog 25 [.sl false 1 (code.map encU8)] [] (.ref 0) [.arr 5 1 (rho_.map encU8)] := by
 refine dv (fun h_ => FnSpec.of 88 Try.func25 rfl Try.ntmps25 (by simp) (AW.weakK h_)) ?_
 refine dv (AW.q 1 ·) ?_
 refine dv (AW.r ·) ?_
 refine dv (At.a 1 ·) ?_
 refine Exists.elim (spec_l1New_spec  code hc) fun r1_ hr1_ => ?_
 have qr1_ := hr1_.1
 try dsimp only at qr1_
 refine dv (At.c (hr1_.2) Try.call51 true [] [(1200, 0)] [] trivial ·) ?_
 refine dv (At.z 1 ·) ?_
 refine dv (AW.r ·) ?_
 refine dv (At.a 1 ·) ?_
 refine Exists.elim (spec_l8DrawRight_spec  (⟨code, 0, r1_⟩ : Cur) (by dsimp only; omega)) fun r2_ hr2_ => ?_
 have qr2_ := hr2_.1
 try dsimp only at qr2_
 refine dv (At.c (hr2_.2) Try.call57 true [(1200, 0)] [(1260, 1)] [] trivial ·) ?_
 refine dv (At.c (spec_MsgPack_spec  r2_.2.2 (by omega)) Try.call7 false [] [(1280, 0)] [(1260, 6, (r2_.2.2.entries.map encEnt))] ⟨rfl, ⟨56, (r2_.2.2.entries.map encEnt), by kernel_rfl, FrzIs.same (allP_encEnt _)⟩, trivial⟩ ·) ?_
 have hml := msgP_len r2_.2.2
 refine dv (At.z 5 ·) ?_
 refine dv (AW.seq ·) ?_
 refine dv (AW.q 2 ·) ?_
 by_cases h1 : (msgPok r2_.2.2) = true
 · refine dv (AW.condF (!(msgPok r2_.2.2)) (by kernel_rfl) (by rw [show (msgPok r2_.2.2) = true from h1]; rfl) ·) ?_
   have hmp := msgP_pos h1
   refine dv (AW.skip ·) ?_
   refine dv (AW.seq ·) ?_
   refine dv (AW.r ·) ?_
   refine dv (At.a 1 ·) ?_
   refine Exists.elim (spec_l1Below_spec  (⟨code, r2_.1, r2_.2.1⟩ : Cur) 6 (by dsimp only; omega)) fun r3_ hr3_ => ?_
   have qr3_ := hr3_.1
   try dsimp only at qr3_
   refine dv (At.c (hr3_.2) Try.call58 true [(1200, 0)] [] [] trivial ·) ?_
   refine dv (At.done rfl ·) ?_
   refine dv (AW.block ·) ?_
   refine dv (AW.q 2 ·) ?_
   by_cases h2 : r3_.2.2 = 0
   · refine dv (AW.condT (r3_.2.2 == 0) (by kernel_rfl) (beq_iff_eq.2 h2) ·) ?_
     refine dv (AW.g ·) ?_
     refine dv (At.a 4 ·) ?_
     refine dv (At.sL 31 encU8 (msgP r2_.2.2) ·) ?_
     refine Exists.elim (spec_l1Below_spec  (⟨code, r3_.1, r3_.2.1⟩ : Cur) ((msgP r2_.2.2).length : Int) (by dsimp only; omega)) fun r4_ hr4_ => ?_
     have qr4_ := hr4_.1
     try dsimp only at qr4_
     refine dv (At.c (hr4_.2) Try.call58 true [(1200, 0)] [] [] trivial ·) ?_
     refine dv (At.a 1 ·) ?_
     refine Exists.elim (spec_l1Byte_spec  (⟨code, r4_.1, r4_.2.1⟩ : Cur) (by dsimp only; omega)) fun r5_ hr5_ => ?_
     have qr5_ := hr5_.1
     try dsimp only at qr5_
     refine dv (At.c (hr5_.2) Try.call59 true [(1200, 0)] [] [] trivial ·) ?_
     refine dv (At.conv (s := 3) (t := 5) (d := 35) (x := .tmp 34) (kd := .i64) (kd' := .u8) (a := r5_.2.2) (.int .u8 ((u8Of r5_.2.2).toNat : Int)) (by kernel_rfl) (by kernel_rfl) (by kernel_rfl) (by kernel_rfl) (sayByte _) ·) ?_
     refine dv (At.iRf 28 36 (.tmp 28) (.tmp 32) 1280 ((msgP r2_.2.2).map encU8) .i64 r4_.2.2 5 1 (by omega) (by simp only [List.length_map]; omega) ·) ?_
     refine Exists.elim (gE (msgP r2_.2.2) ((r4_.2.2).toNat) (by omega)) fun e1 he1 => ?_
     refine dv (At.sEl 5 1280 5 1 ((r4_.2.2).toNat) 0 (.tmp 36) (.tmp 35) ((msgP r2_.2.2).map encU8) (((msgP r2_.2.2).set ((r4_.2.2).toNat) (u8Of r5_.2.2)).map encU8) [.int .u8 ((u8Of r5_.2.2).toNat : Int)] (.int .u8 ((u8Of r5_.2.2).toNat : Int)) (encU8 e1) (encU8 (u8Of r5_.2.2)) (mapGet he1) setV ·) ?_
     refine dv (At.done rfl ·) ?_
     refine dv (AW.q 2 ·) ?_
     refine dv (AW.ret ·) ?_
     refine dv (⟨_, Sub.refl _ _, ·⟩) ?_
     exact ⟨((msgP r2_.2.2).set ((r4_.2.2).toNat) (u8Of r5_.2.2)), (by (try dsimp only); (try simp only [List.length_append, List.length_set, List.length_cons, List.length_nil]); omega), KF.mk (.inr rfl) [(1280, 0)] [.ref 1280] (by kernel_rfl) (by kernel_rfl) (by kernel_rfl) (by kernel_rfl) (by kernel_rfl)⟩
   refine dv (AW.condF (r3_.2.2 == 0) (by kernel_rfl) (beq_eq_false_iff_ne.2 h2) ·) ?_
   refine dv (AW.seq ·) ?_
   refine dv (AW.q 2 ·) ?_
   by_cases h3 : r3_.2.2 = 1
   · refine dv (AW.condT (r3_.2.2 == 1) (by kernel_rfl) (beq_iff_eq.2 h3) ·) ?_
     refine dv (AW.skip ·) ?_
     by_cases h4 : r3_.2.2 = 1
     · refine dv (AW.condT (r3_.2.2 == 1) (by kernel_rfl) (beq_iff_eq.2 h4) ·) ?_
       refine dv (AW.r ·) ?_
       refine dv (At.a 1 ·) ?_
       refine dv (At.c (spec_Unseal_spec  (msgP r2_.2.2) 0 (by omega) (by omega)) Try.call43 false [] [(1840, 0)] [(1280, 1, ((msgP r2_.2.2).map encU8))] ⟨rfl, ⟨5, ((msgP r2_.2.2).map encU8), by kernel_rfl, FrzIs.same (allP_encU8 _)⟩, trivial⟩ ·) ?_
       have hul := unsealB_len (msgP r2_.2.2) 0
       refine dv (At.z 7 ·) ?_
       refine dv (AW.r ·) ?_
       refine dv (At.a 3 ·) ?_
       by_cases h5 : (unsealB (msgP r2_.2.2) 0).2.2 = 0
       · refine dv (At.sB 48 _ _ (sayET h5) ·) ?_
         refine dv (At.a 2 ·) ?_
         refine dv (At.sL 50 encU8 ((unsealB (msgP r2_.2.2) 0).1) ·) ?_
         refine dv (At.z 2 ·) ?_
         by_cases h6 : (((unsealB (msgP r2_.2.2) 0).1).length : Int) > 0
         · refine dv (AW.condT (decide ((((unsealB (msgP r2_.2.2) 0).1).length : Int) > 0)) (by kernel_rfl) (decide_eq_true h6) ·) ?_
           refine dv (AW.r ·) ?_
           refine dv (At.a 4 ·) ?_
           refine dv (At.sL 56 encU8 ((unsealB (msgP r2_.2.2) 0).1) ·) ?_
           refine Exists.elim (spec_l1Below_spec  (⟨code, r3_.1, r3_.2.1⟩ : Cur) (((unsealB (msgP r2_.2.2) 0).1).length : Int) (by dsimp only; omega)) fun r4_ hr4_ => ?_
           have qr4_ := hr4_.1
           try dsimp only at qr4_
           refine dv (At.c (hr4_.2) Try.call58 true [(1200, 0)] [] [] trivial ·) ?_
           refine dv (At.a 1 ·) ?_
           refine dv (At.ll 59 3 1 159 (56, 6) (([0, 1, 2, 7, 8, 127, 128, 255]).map encI) ·) ?_
           refine Exists.elim (spec_l1PickInt_spec  (⟨code, r4_.1, r4_.2.1⟩ : Cur) ([0, 1, 2, 7, 8, 127, 128, 255]) (by dsimp only; omega) (by decide)) fun r5_ hr5_ => ?_
           have qr5_ := hr5_.1
           try dsimp only at qr5_
           refine dv (At.c (hr5_.2) Try.call60 true [(1200, 0), (159, 1)] [] [] trivial ·) ?_
           refine dv (At.conv (s := 3) (t := 5) (d := 61) (x := .tmp 60) (kd := .i64) (kd' := .u8) (a := r5_.2.2) (.int .u8 ((u8Of r5_.2.2).toNat : Int)) (by kernel_rfl) (by kernel_rfl) (by kernel_rfl) (by kernel_rfl) (sayByte _) ·) ?_
           refine dv (At.iRf 28 62 (.tmp 53) (.tmp 57) 1840 (((unsealB (msgP r2_.2.2) 0).1).map encU8) .i64 r4_.2.2 5 1 (by omega) (by simp only [List.length_map]; omega) ·) ?_
           refine Exists.elim (gE ((unsealB (msgP r2_.2.2) 0).1) ((r4_.2.2).toNat) (by omega)) fun e2 he2 => ?_
           refine dv (At.sEl 5 1840 5 1 ((r4_.2.2).toNat) 0 (.tmp 62) (.tmp 61) (((unsealB (msgP r2_.2.2) 0).1).map encU8) ((((unsealB (msgP r2_.2.2) 0).1).set ((r4_.2.2).toNat) (u8Of r5_.2.2)).map encU8) [.int .u8 ((u8Of r5_.2.2).toNat : Int)] (.int .u8 ((u8Of r5_.2.2).toNat : Int)) (encU8 e2) (encU8 (u8Of r5_.2.2)) (mapGet he2) setV ·) ?_
           refine dv (At.done rfl ·) ?_
           refine dv (AW.seq ·) ?_
           refine dv (AW.r ·) ?_
           refine dv (At.a 1 ·) ?_
           refine Exists.elim (spec_l1Once_spec  (⟨code, r5_.1, r5_.2.1⟩ : Cur) 4 (by dsimp only; omega)) fun r6_ hr6_ => ?_
           have qr6_ := hr6_.1
           try dsimp only at qr6_
           refine dv (At.c (hr6_.2) Try.call61 true [(1200, 0)] [] [] trivial ·) ?_
           refine dv (At.done rfl ·) ?_
           by_cases h7 : r6_.2.2 = true
           · refine dv (AW.condT (r6_.2.2) (by kernel_rfl) h7 ·) ?_
             refine dv (AW.g ·) ?_
             refine dv (At.a 1 ·) ?_
             refine dv (At.ll 66 5 1 166 (56, 6) (([(0 : UInt8)]).map encU8) ·) ?_
             refine dv (At.apK 67 5 1 1 167 1840 166 encU8 (((unsealB (msgP r2_.2.2) 0).1).set ((r4_.2.2).toNat) (u8Of r5_.2.2)) ([(0 : UInt8)]) (by simp only [List.length_map, List.length_append, List.length_take, List.length_drop, List.length_replicate, List.length_set, List.length_cons, List.length_nil]; omega) ·) ?_
             refine dv (At.z 1 ·) ?_
             refine dv (AW.seq ·) ?_
             refine dv (AW.r ·) ?_
             refine dv (At.a 1 ·) ?_
             refine Exists.elim (spec_l1Once_spec  (⟨code, r6_.1, r6_.2.1⟩ : Cur) 4 (by dsimp only; omega)) fun r7_ hr7_ => ?_
             have qr7_ := hr7_.1
             try dsimp only at qr7_
             refine dv (At.c (hr7_.2) Try.call61 true [(1200, 0)] [] [] trivial ·) ?_
             refine dv (At.done rfl ·) ?_
             by_cases h8 : r7_.2.2 = true
             · refine dv (AW.condT (r7_.2.2) (by kernel_rfl) h8 ·) ?_
               refine dv (AW.g ·) ?_
               refine dv (At.a 4 ·) ?_
               refine dv (At.sL 73 encU8 ((((unsealB (msgP r2_.2.2) 0).1).set ((r4_.2.2).toNat) (u8Of r5_.2.2)) ++ ([(0 : UInt8)])) ·) ?_
               refine dv (At.a 1 ·) ?_
               refine dv (At.sI 74 ((((((unsealB (msgP r2_.2.2) 0).1).set ((r4_.2.2).toNat) (u8Of r5_.2.2)) ++ ([(0 : UInt8)])).length : Int) + 1) (by simp only [List.length_append, List.length_set, List.length_cons, List.length_nil]; omega) ·) ?_
               refine Exists.elim (spec_l1Below_spec  (⟨code, r7_.1, r7_.2.1⟩ : Cur) ((((((unsealB (msgP r2_.2.2) 0).1).set ((r4_.2.2).toNat) (u8Of r5_.2.2)) ++ ([(0 : UInt8)])).length : Int) + 1) (by dsimp only; omega)) fun r8_ hr8_ => ?_
               have qr8_ := hr8_.1
               try dsimp only at qr8_
               refine dv (At.c (hr8_.2) Try.call58 true [(1200, 0)] [] [] trivial ·) ?_
               refine dv (At.cutRef (t := 28) (d := 76) (e := 5) (es := 1) (i := 167) (x := .tmp 70) (lx := none) (hx := some (.tmp 75)) (xs := (((((unsealB (msgP r2_.2.2) 0).1).set ((r4_.2.2).toNat) (u8Of r5_.2.2)) ++ ([(0 : UInt8)])).map encU8)) (vl := .un) (vh := .int .i64 r8_.2.2) 176 ((r8_.2.2).toNat) ((((((unsealB (msgP r2_.2.2) 0).1).set ((r4_.2.2).toNat) (u8Of r5_.2.2)) ++ ([(0 : UInt8)])).take ((r8_.2.2).toNat)).map encU8) (by kernel_rfl) (by kernel_rfl) (by kernel_rfl) (by kernel_rfl) (by kernel_rfl) (by kernel_rfl) (by decide) (.inl ⟨rfl, rfl⟩) (.inr ⟨_, _, rfl, sayNat (by omega)⟩) (by simp only [List.length_map]; omega) (by rw [List.map_take]) ·) ?_
               refine dv (At.z 1 ·) ?_
               refine dv (AW.g ·) ?_
               refine dv (At.a 1 ·) ?_
               refine dv (At.c (spec_Seal_spec  (((((unsealB (msgP r2_.2.2) 0).1).set ((r4_.2.2).toNat) (u8Of r5_.2.2)) ++ ([(0 : UInt8)])).take ((r8_.2.2).toNat)) (by simp only [List.length_append, List.length_set, List.length_take, List.length_cons, List.length_nil]; omega)) Try.call32 false [] [(2580, 0)] [(176, 1, ((((((unsealB (msgP r2_.2.2) 0).1).set ((r4_.2.2).toNat) (u8Of r5_.2.2)) ++ ([(0 : UInt8)])).take ((r8_.2.2).toNat)).map encU8))] ⟨rfl, ⟨5, ((((((unsealB (msgP r2_.2.2) 0).1).set ((r4_.2.2).toNat) (u8Of r5_.2.2)) ++ ([(0 : UInt8)])).take ((r8_.2.2).toNat)).map encU8), by kernel_rfl, FrzIs.same (allP_encU8 _)⟩, trivial⟩ ·) ?_
               refine dv (At.z 4 ·) ?_
               refine dv (AW.q 2 ·) ?_
               refine dv (AW.ret ·) ?_
               refine dv (⟨_, Sub.refl _ _, ·⟩) ?_
               exact ⟨(sealP (((((unsealB (msgP r2_.2.2) 0).1).set ((r4_.2.2).toNat) (u8Of r5_.2.2)) ++ ([(0 : UInt8)])).take ((r8_.2.2).toNat))), (by exact Nat.le_trans (sealP_len _) (by decide)), KF.mk (.inr rfl) [(2580, 0)] [.ref 2580] (by kernel_rfl) (by kernel_rfl) (by kernel_rfl) (by kernel_rfl) (by kernel_rfl)⟩
             replace h8 := Bool.eq_false_iff.2 h8
             refine dv (AW.condF (r7_.2.2) (by kernel_rfl) h8 ·) ?_
             refine dv (AW.skip ·) ?_
             refine dv (AW.g ·) ?_
             refine dv (At.a 1 ·) ?_
             refine dv (At.c (spec_Seal_spec  ((((unsealB (msgP r2_.2.2) 0).1).set ((r4_.2.2).toNat) (u8Of r5_.2.2)) ++ ([(0 : UInt8)])) (by simp only [List.length_append, List.length_set, List.length_take, List.length_cons, List.length_nil]; omega)) Try.call32 false [] [(2580, 0)] [(167, 1, (((((unsealB (msgP r2_.2.2) 0).1).set ((r4_.2.2).toNat) (u8Of r5_.2.2)) ++ ([(0 : UInt8)])).map encU8))] ⟨rfl, ⟨5, (((((unsealB (msgP r2_.2.2) 0).1).set ((r4_.2.2).toNat) (u8Of r5_.2.2)) ++ ([(0 : UInt8)])).map encU8), by kernel_rfl, FrzIs.same (allP_encU8 _)⟩, trivial⟩ ·) ?_
             refine dv (At.z 4 ·) ?_
             refine dv (AW.q 2 ·) ?_
             refine dv (AW.ret ·) ?_
             refine dv (⟨_, Sub.refl _ _, ·⟩) ?_
             exact ⟨(sealP ((((unsealB (msgP r2_.2.2) 0).1).set ((r4_.2.2).toNat) (u8Of r5_.2.2)) ++ ([(0 : UInt8)]))), (by exact Nat.le_trans (sealP_len _) (by decide)), KF.mk (.inr rfl) [(2580, 0)] [.ref 2580] (by kernel_rfl) (by kernel_rfl) (by kernel_rfl) (by kernel_rfl) (by kernel_rfl)⟩
           replace h7 := Bool.eq_false_iff.2 h7
           refine dv (AW.condF (r6_.2.2) (by kernel_rfl) h7 ·) ?_
           refine dv (AW.skip ·) ?_
           refine dv (AW.seq ·) ?_
           refine dv (AW.r ·) ?_
           refine dv (At.a 1 ·) ?_
           refine Exists.elim (spec_l1Once_spec  (⟨code, r6_.1, r6_.2.1⟩ : Cur) 4 (by dsimp only; omega)) fun r7_ hr7_ => ?_
           have qr7_ := hr7_.1
           try dsimp only at qr7_
           refine dv (At.c (hr7_.2) Try.call61 true [(1200, 0)] [] [] trivial ·) ?_
           refine dv (At.done rfl ·) ?_
           by_cases h9 : r7_.2.2 = true
           · refine dv (AW.condT (r7_.2.2) (by kernel_rfl) h9 ·) ?_
             refine dv (AW.g ·) ?_
             refine dv (At.a 4 ·) ?_
             refine dv (At.sL 73 encU8 (((unsealB (msgP r2_.2.2) 0).1).set ((r4_.2.2).toNat) (u8Of r5_.2.2)) ·) ?_
             refine dv (At.a 1 ·) ?_
             refine dv (At.sI 74 (((((unsealB (msgP r2_.2.2) 0).1).set ((r4_.2.2).toNat) (u8Of r5_.2.2)).length : Int) + 1) (by simp only [List.length_append, List.length_set, List.length_cons, List.length_nil]; omega) ·) ?_
             refine Exists.elim (spec_l1Below_spec  (⟨code, r7_.1, r7_.2.1⟩ : Cur) (((((unsealB (msgP r2_.2.2) 0).1).set ((r4_.2.2).toNat) (u8Of r5_.2.2)).length : Int) + 1) (by dsimp only; omega)) fun r8_ hr8_ => ?_
             have qr8_ := hr8_.1
             try dsimp only at qr8_
             refine dv (At.c (hr8_.2) Try.call58 true [(1200, 0)] [] [] trivial ·) ?_
             refine dv (At.cutRef (t := 28) (d := 76) (e := 5) (es := 1) (i := 1840) (x := .tmp 70) (lx := none) (hx := some (.tmp 75)) (xs := ((((unsealB (msgP r2_.2.2) 0).1).set ((r4_.2.2).toNat) (u8Of r5_.2.2)).map encU8)) (vl := .un) (vh := .int .i64 r8_.2.2) 176 ((r8_.2.2).toNat) (((((unsealB (msgP r2_.2.2) 0).1).set ((r4_.2.2).toNat) (u8Of r5_.2.2)).take ((r8_.2.2).toNat)).map encU8) (by kernel_rfl) (by kernel_rfl) (by kernel_rfl) (by kernel_rfl) (by kernel_rfl) (by kernel_rfl) (by decide) (.inl ⟨rfl, rfl⟩) (.inr ⟨_, _, rfl, sayNat (by omega)⟩) (by simp only [List.length_map]; omega) (by rw [List.map_take]) ·) ?_
             refine dv (At.z 1 ·) ?_
             refine dv (AW.g ·) ?_
             refine dv (At.a 1 ·) ?_
             refine dv (At.c (spec_Seal_spec  ((((unsealB (msgP r2_.2.2) 0).1).set ((r4_.2.2).toNat) (u8Of r5_.2.2)).take ((r8_.2.2).toNat)) (by simp only [List.length_append, List.length_set, List.length_take, List.length_cons, List.length_nil]; omega)) Try.call32 false [] [(2580, 0)] [(176, 1, (((((unsealB (msgP r2_.2.2) 0).1).set ((r4_.2.2).toNat) (u8Of r5_.2.2)).take ((r8_.2.2).toNat)).map encU8))] ⟨rfl, ⟨5, (((((unsealB (msgP r2_.2.2) 0).1).set ((r4_.2.2).toNat) (u8Of r5_.2.2)).take ((r8_.2.2).toNat)).map encU8), by kernel_rfl, FrzIs.same (allP_encU8 _)⟩, trivial⟩ ·) ?_
             refine dv (At.z 4 ·) ?_
             refine dv (AW.q 2 ·) ?_
             refine dv (AW.ret ·) ?_
             refine dv (⟨_, Sub.refl _ _, ·⟩) ?_
             exact ⟨(sealP ((((unsealB (msgP r2_.2.2) 0).1).set ((r4_.2.2).toNat) (u8Of r5_.2.2)).take ((r8_.2.2).toNat))), (by exact Nat.le_trans (sealP_len _) (by decide)), KF.mk (.inr rfl) [(2580, 0)] [.ref 2580] (by kernel_rfl) (by kernel_rfl) (by kernel_rfl) (by kernel_rfl) (by kernel_rfl)⟩
           replace h9 := Bool.eq_false_iff.2 h9
           refine dv (AW.condF (r7_.2.2) (by kernel_rfl) h9 ·) ?_
           refine dv (AW.skip ·) ?_
           refine dv (AW.g ·) ?_
           refine dv (At.a 1 ·) ?_
           refine dv (At.c (spec_Seal_spec  (((unsealB (msgP r2_.2.2) 0).1).set ((r4_.2.2).toNat) (u8Of r5_.2.2)) (by simp only [List.length_append, List.length_set, List.length_take, List.length_cons, List.length_nil]; omega)) Try.call32 false [] [(2580, 0)] [(1840, 1, ((((unsealB (msgP r2_.2.2) 0).1).set ((r4_.2.2).toNat) (u8Of r5_.2.2)).map encU8))] ⟨rfl, ⟨5, ((((unsealB (msgP r2_.2.2) 0).1).set ((r4_.2.2).toNat) (u8Of r5_.2.2)).map encU8), by kernel_rfl, FrzIs.same (allP_encU8 _)⟩, trivial⟩ ·) ?_
           refine dv (At.z 4 ·) ?_
           refine dv (AW.q 2 ·) ?_
           refine dv (AW.ret ·) ?_
           refine dv (⟨_, Sub.refl _ _, ·⟩) ?_
           exact ⟨(sealP (((unsealB (msgP r2_.2.2) 0).1).set ((r4_.2.2).toNat) (u8Of r5_.2.2))), (by exact Nat.le_trans (sealP_len _) (by decide)), KF.mk (.inr rfl) [(2580, 0)] [.ref 2580] (by kernel_rfl) (by kernel_rfl) (by kernel_rfl) (by kernel_rfl) (by kernel_rfl)⟩
         refine dv (AW.condF (decide ((((unsealB (msgP r2_.2.2) 0).1).length : Int) > 0)) (by kernel_rfl) (decide_eq_false h6) ·) ?_
         refine dv (AW.skip ·) ?_
         refine dv (AW.q 2 ·) ?_
         refine dv (AW.ret ·) ?_
         refine dv (⟨_, Sub.refl _ _, ·⟩) ?_
         exact ⟨(msgP r2_.2.2), (by (try dsimp only); (try simp only [List.length_append, List.length_set, List.length_cons, List.length_nil]); omega), KF.mk (.inr rfl) [(1280, 0)] [.ref 1280] (by kernel_rfl) (by kernel_rfl) (by kernel_rfl) (by kernel_rfl) (by kernel_rfl)⟩
       refine dv (At.sB 48 _ _ (sayEF h5) ·) ?_
       refine dv (At.z 4 ·) ?_
       refine dv (fun h_ => AW.cond false (by kernel_rfl) (fun h => by cases h) (fun _ => h_)) ?_
       refine dv (AW.skip ·) ?_
       refine dv (AW.q 2 ·) ?_
       refine dv (AW.ret ·) ?_
       refine dv (⟨_, Sub.refl _ _, ·⟩) ?_
       exact ⟨(msgP r2_.2.2), (by (try dsimp only); (try simp only [List.length_append, List.length_set, List.length_cons, List.length_nil]); omega), KF.mk (.inr rfl) [(1280, 0)] [.ref 1280] (by kernel_rfl) (by kernel_rfl) (by kernel_rfl) (by kernel_rfl) (by kernel_rfl)⟩
     refine dv (AW.condF (r3_.2.2 == 1) (by kernel_rfl) (beq_eq_false_iff_ne.2 h4) ·) ?_
     refine dv (AW.q 2 ·) ?_
     by_cases h10 : r3_.2.2 = 3
     · refine dv (AW.condT (r3_.2.2 == 3) (by kernel_rfl) (beq_iff_eq.2 h10) ·) ?_
       refine dv (AW.g ·) ?_
       refine dv (At.a 1 ·) ?_
       refine dv (At.ll 85 5 1 185 (56, 6) (([(0 : UInt8)]).map encU8) ·) ?_
       refine dv (At.apK 86 5 1 1 186 1280 185 encU8 (msgP r2_.2.2) ([(0 : UInt8)]) (by omega) ·) ?_
       refine dv (At.z 1 ·) ?_
       refine dv (AW.q 2 ·) ?_
       refine dv (AW.ret ·) ?_
       refine dv (⟨_, Sub.refl _ _, ·⟩) ?_
       exact ⟨((msgP r2_.2.2) ++ ([(0 : UInt8)])), (by (try dsimp only); (try simp only [List.length_append, List.length_set, List.length_cons, List.length_nil]); omega), KF.mk (.inr rfl) [(186, 0)] [.ref 186] (by kernel_rfl) (by kernel_rfl) (by kernel_rfl) (by kernel_rfl) (by kernel_rfl)⟩
     refine dv (AW.condF (r3_.2.2 == 3) (by kernel_rfl) (beq_eq_false_iff_ne.2 h10) ·) ?_
     refine dv (AW.skip ·) ?_
     refine dv (AW.q 2 ·) ?_
     refine dv (AW.ret ·) ?_
     refine dv (⟨_, Sub.refl _ _, ·⟩) ?_
     exact ⟨(msgP r2_.2.2), (by (try dsimp only); (try simp only [List.length_append, List.length_set, List.length_cons, List.length_nil]); omega), KF.mk (.inr rfl) [(1280, 0)] [.ref 1280] (by kernel_rfl) (by kernel_rfl) (by kernel_rfl) (by kernel_rfl) (by kernel_rfl)⟩
   refine dv (AW.condF (r3_.2.2 == 1) (by kernel_rfl) (beq_eq_false_iff_ne.2 h3) ·) ?_
   refine dv (AW.gq 2 ·) ?_
   by_cases h11 : r3_.2.2 = 2
   · refine dv (AW.condT (r3_.2.2 == 2) (by kernel_rfl) (beq_iff_eq.2 h11) ·) ?_
     refine dv (AW.r ·) ?_
     refine dv (At.a 1 ·) ?_
     refine dv (At.c (spec_Unseal_spec  (msgP r2_.2.2) 0 (by omega) (by omega)) Try.call43 false [] [(1840, 0)] [(1280, 1, ((msgP r2_.2.2).map encU8))] ⟨rfl, ⟨5, ((msgP r2_.2.2).map encU8), by kernel_rfl, FrzIs.same (allP_encU8 _)⟩, trivial⟩ ·) ?_
     have hul := unsealB_len (msgP r2_.2.2) 0
     refine dv (At.z 7 ·) ?_
     refine dv (AW.r ·) ?_
     refine dv (At.a 3 ·) ?_
     by_cases h12 : (unsealB (msgP r2_.2.2) 0).2.2 = 0
     · refine dv (At.sB 48 _ _ (sayET h12) ·) ?_
       refine dv (At.a 2 ·) ?_
       refine dv (At.sL 50 encU8 ((unsealB (msgP r2_.2.2) 0).1) ·) ?_
       refine dv (At.z 2 ·) ?_
       by_cases h13 : (((unsealB (msgP r2_.2.2) 0).1).length : Int) > 0
       · refine dv (AW.condT (decide ((((unsealB (msgP r2_.2.2) 0).1).length : Int) > 0)) (by kernel_rfl) (decide_eq_true h13) ·) ?_
         refine dv (AW.r ·) ?_
         refine dv (At.a 4 ·) ?_
         refine dv (At.sL 56 encU8 ((unsealB (msgP r2_.2.2) 0).1) ·) ?_
         refine Exists.elim (spec_l1Below_spec  (⟨code, r3_.1, r3_.2.1⟩ : Cur) (((unsealB (msgP r2_.2.2) 0).1).length : Int) (by dsimp only; omega)) fun r4_ hr4_ => ?_
         have qr4_ := hr4_.1
         try dsimp only at qr4_
         refine dv (At.c (hr4_.2) Try.call58 true [(1200, 0)] [] [] trivial ·) ?_
         refine dv (At.a 1 ·) ?_
         refine dv (At.ll 59 3 1 159 (56, 6) (([0, 1, 2, 7, 8, 127, 128, 255]).map encI) ·) ?_
         refine Exists.elim (spec_l1PickInt_spec  (⟨code, r4_.1, r4_.2.1⟩ : Cur) ([0, 1, 2, 7, 8, 127, 128, 255]) (by dsimp only; omega) (by decide)) fun r5_ hr5_ => ?_
         have qr5_ := hr5_.1
         try dsimp only at qr5_
         refine dv (At.c (hr5_.2) Try.call60 true [(1200, 0), (159, 1)] [] [] trivial ·) ?_
         refine dv (At.conv (s := 3) (t := 5) (d := 61) (x := .tmp 60) (kd := .i64) (kd' := .u8) (a := r5_.2.2) (.int .u8 ((u8Of r5_.2.2).toNat : Int)) (by kernel_rfl) (by kernel_rfl) (by kernel_rfl) (by kernel_rfl) (sayByte _) ·) ?_
         refine dv (At.iRf 28 62 (.tmp 53) (.tmp 57) 1840 (((unsealB (msgP r2_.2.2) 0).1).map encU8) .i64 r4_.2.2 5 1 (by omega) (by simp only [List.length_map]; omega) ·) ?_
         refine Exists.elim (gE ((unsealB (msgP r2_.2.2) 0).1) ((r4_.2.2).toNat) (by omega)) fun e3 he3 => ?_
         refine dv (At.sEl 5 1840 5 1 ((r4_.2.2).toNat) 0 (.tmp 62) (.tmp 61) (((unsealB (msgP r2_.2.2) 0).1).map encU8) ((((unsealB (msgP r2_.2.2) 0).1).set ((r4_.2.2).toNat) (u8Of r5_.2.2)).map encU8) [.int .u8 ((u8Of r5_.2.2).toNat : Int)] (.int .u8 ((u8Of r5_.2.2).toNat : Int)) (encU8 e3) (encU8 (u8Of r5_.2.2)) (mapGet he3) setV ·) ?_
         refine dv (At.done rfl ·) ?_
         refine dv (AW.seq ·) ?_
         refine dv (AW.r ·) ?_
         refine dv (At.a 1 ·) ?_
         refine Exists.elim (spec_l1Once_spec  (⟨code, r5_.1, r5_.2.1⟩ : Cur) 4 (by dsimp only; omega)) fun r6_ hr6_ => ?_
         have qr6_ := hr6_.1
         try dsimp only at qr6_
         refine dv (At.c (hr6_.2) Try.call61 true [(1200, 0)] [] [] trivial ·) ?_
         refine dv (At.done rfl ·) ?_
         by_cases h14 : r6_.2.2 = true
         · refine dv (AW.condT (r6_.2.2) (by kernel_rfl) h14 ·) ?_
           refine dv (AW.g ·) ?_
           refine dv (At.a 1 ·) ?_
           refine dv (At.ll 66 5 1 166 (56, 6) (([(0 : UInt8)]).map encU8) ·) ?_
           refine dv (At.apK 67 5 1 1 167 1840 166 encU8 (((unsealB (msgP r2_.2.2) 0).1).set ((r4_.2.2).toNat) (u8Of r5_.2.2)) ([(0 : UInt8)]) (by simp only [List.length_map, List.length_append, List.length_take, List.length_drop, List.length_replicate, List.length_set, List.length_cons, List.length_nil]; omega) ·) ?_
           refine dv (At.z 1 ·) ?_
           refine dv (AW.seq ·) ?_
           refine dv (AW.r ·) ?_
           refine dv (At.a 1 ·) ?_
           refine Exists.elim (spec_l1Once_spec  (⟨code, r6_.1, r6_.2.1⟩ : Cur) 4 (by dsimp only; omega)) fun r7_ hr7_ => ?_
           have qr7_ := hr7_.1
           try dsimp only at qr7_
           refine dv (At.c (hr7_.2) Try.call61 true [(1200, 0)] [] [] trivial ·) ?_
           refine dv (At.done rfl ·) ?_
           by_cases h15 : r7_.2.2 = true
           · refine dv (AW.condT (r7_.2.2) (by kernel_rfl) h15 ·) ?_
             refine dv (AW.g ·) ?_
             refine dv (At.a 4 ·) ?_
             refine dv (At.sL 73 encU8 ((((unsealB (msgP r2_.2.2) 0).1).set ((r4_.2.2).toNat) (u8Of r5_.2.2)) ++ ([(0 : UInt8)])) ·) ?_
             refine dv (At.a 1 ·) ?_
             refine dv (At.sI 74 ((((((unsealB (msgP r2_.2.2) 0).1).set ((r4_.2.2).toNat) (u8Of r5_.2.2)) ++ ([(0 : UInt8)])).length : Int) + 1) (by simp only [List.length_append, List.length_set, List.length_cons, List.length_nil]; omega) ·) ?_
             refine Exists.elim (spec_l1Below_spec  (⟨code, r7_.1, r7_.2.1⟩ : Cur) ((((((unsealB (msgP r2_.2.2) 0).1).set ((r4_.2.2).toNat) (u8Of r5_.2.2)) ++ ([(0 : UInt8)])).length : Int) + 1) (by dsimp only; omega)) fun r8_ hr8_ => ?_
             have qr8_ := hr8_.1
             try dsimp only at qr8_
             refine dv (At.c (hr8_.2) Try.call58 true [(1200, 0)] [] [] trivial ·) ?_
             refine dv (At.cutRef (t := 28) (d := 76) (e := 5) (es := 1) (i := 167) (x := .tmp 70) (lx := none) (hx := some (.tmp 75)) (xs := (((((unsealB (msgP r2_.2.2) 0).1).set ((r4_.2.2).toNat) (u8Of r5_.2.2)) ++ ([(0 : UInt8)])).map encU8)) (vl := .un) (vh := .int .i64 r8_.2.2) 176 ((r8_.2.2).toNat) ((((((unsealB (msgP r2_.2.2) 0).1).set ((r4_.2.2).toNat) (u8Of r5_.2.2)) ++ ([(0 : UInt8)])).take ((r8_.2.2).toNat)).map encU8) (by kernel_rfl) (by kernel_rfl) (by kernel_rfl) (by kernel_rfl) (by kernel_rfl) (by kernel_rfl) (by decide) (.inl ⟨rfl, rfl⟩) (.inr ⟨_, _, rfl, sayNat (by omega)⟩) (by simp only [List.length_map]; omega) (by rw [List.map_take]) ·) ?_
             refine dv (At.z 1 ·) ?_
             refine dv (AW.g ·) ?_
             refine dv (At.a 1 ·) ?_
             refine dv (At.c (spec_Seal_spec  (((((unsealB (msgP r2_.2.2) 0).1).set ((r4_.2.2).toNat) (u8Of r5_.2.2)) ++ ([(0 : UInt8)])).take ((r8_.2.2).toNat)) (by simp only [List.length_append, List.length_set, List.length_take, List.length_cons, List.length_nil]; omega)) Try.call32 false [] [(2580, 0)] [(176, 1, ((((((unsealB (msgP r2_.2.2) 0).1).set ((r4_.2.2).toNat) (u8Of r5_.2.2)) ++ ([(0 : UInt8)])).take ((r8_.2.2).toNat)).map encU8))] ⟨rfl, ⟨5, ((((((unsealB (msgP r2_.2.2) 0).1).set ((r4_.2.2).toNat) (u8Of r5_.2.2)) ++ ([(0 : UInt8)])).take ((r8_.2.2).toNat)).map encU8), by kernel_rfl, FrzIs.same (allP_encU8 _)⟩, trivial⟩ ·) ?_
             refine dv (At.z 4 ·) ?_
             refine dv (AW.q 2 ·) ?_
             refine dv (AW.ret ·) ?_
             refine dv (⟨_, Sub.refl _ _, ·⟩) ?_
             exact ⟨(sealP (((((unsealB (msgP r2_.2.2) 0).1).set ((r4_.2.2).toNat) (u8Of r5_.2.2)) ++ ([(0 : UInt8)])).take ((r8_.2.2).toNat))), (by exact Nat.le_trans (sealP_len _) (by decide)), KF.mk (.inr rfl) [(2580, 0)] [.ref 2580] (by kernel_rfl) (by kernel_rfl) (by kernel_rfl) (by kernel_rfl) (by kernel_rfl)⟩
           replace h15 := Bool.eq_false_iff.2 h15
           refine dv (AW.condF (r7_.2.2) (by kernel_rfl) h15 ·) ?_
           refine dv (AW.skip ·) ?_
           refine dv (AW.g ·) ?_
           refine dv (At.a 1 ·) ?_
           refine dv (At.c (spec_Seal_spec  ((((unsealB (msgP r2_.2.2) 0).1).set ((r4_.2.2).toNat) (u8Of r5_.2.2)) ++ ([(0 : UInt8)])) (by simp only [List.length_append, List.length_set, List.length_take, List.length_cons, List.length_nil]; omega)) Try.call32 false [] [(2580, 0)] [(167, 1, (((((unsealB (msgP r2_.2.2) 0).1).set ((r4_.2.2).toNat) (u8Of r5_.2.2)) ++ ([(0 : UInt8)])).map encU8))] ⟨rfl, ⟨5, (((((unsealB (msgP r2_.2.2) 0).1).set ((r4_.2.2).toNat) (u8Of r5_.2.2)) ++ ([(0 : UInt8)])).map encU8), by kernel_rfl, FrzIs.same (allP_encU8 _)⟩, trivial⟩ ·) ?_
           refine dv (At.z 4 ·) ?_
           refine dv (AW.q 2 ·) ?_
           refine dv (AW.ret ·) ?_
           refine dv (⟨_, Sub.refl _ _, ·⟩) ?_
           exact ⟨(sealP ((((unsealB (msgP r2_.2.2) 0).1).set ((r4_.2.2).toNat) (u8Of r5_.2.2)) ++ ([(0 : UInt8)]))), (by exact Nat.le_trans (sealP_len _) (by decide)), KF.mk (.inr rfl) [(2580, 0)] [.ref 2580] (by kernel_rfl) (by kernel_rfl) (by kernel_rfl) (by kernel_rfl) (by kernel_rfl)⟩
         replace h14 := Bool.eq_false_iff.2 h14
         refine dv (AW.condF (r6_.2.2) (by kernel_rfl) h14 ·) ?_
         refine dv (AW.skip ·) ?_
         refine dv (AW.seq ·) ?_
         refine dv (AW.r ·) ?_
         refine dv (At.a 1 ·) ?_
         refine Exists.elim (spec_l1Once_spec  (⟨code, r6_.1, r6_.2.1⟩ : Cur) 4 (by dsimp only; omega)) fun r7_ hr7_ => ?_
         have qr7_ := hr7_.1
         try dsimp only at qr7_
         refine dv (At.c (hr7_.2) Try.call61 true [(1200, 0)] [] [] trivial ·) ?_
         refine dv (At.done rfl ·) ?_
         by_cases h16 : r7_.2.2 = true
         · refine dv (AW.condT (r7_.2.2) (by kernel_rfl) h16 ·) ?_
           refine dv (AW.g ·) ?_
           refine dv (At.a 4 ·) ?_
           refine dv (At.sL 73 encU8 (((unsealB (msgP r2_.2.2) 0).1).set ((r4_.2.2).toNat) (u8Of r5_.2.2)) ·) ?_
           refine dv (At.a 1 ·) ?_
           refine dv (At.sI 74 (((((unsealB (msgP r2_.2.2) 0).1).set ((r4_.2.2).toNat) (u8Of r5_.2.2)).length : Int) + 1) (by simp only [List.length_append, List.length_set, List.length_cons, List.length_nil]; omega) ·) ?_
           refine Exists.elim (spec_l1Below_spec  (⟨code, r7_.1, r7_.2.1⟩ : Cur) (((((unsealB (msgP r2_.2.2) 0).1).set ((r4_.2.2).toNat) (u8Of r5_.2.2)).length : Int) + 1) (by dsimp only; omega)) fun r8_ hr8_ => ?_
           have qr8_ := hr8_.1
           try dsimp only at qr8_
           refine dv (At.c (hr8_.2) Try.call58 true [(1200, 0)] [] [] trivial ·) ?_
           refine dv (At.cutRef (t := 28) (d := 76) (e := 5) (es := 1) (i := 1840) (x := .tmp 70) (lx := none) (hx := some (.tmp 75)) (xs := ((((unsealB (msgP r2_.2.2) 0).1).set ((r4_.2.2).toNat) (u8Of r5_.2.2)).map encU8)) (vl := .un) (vh := .int .i64 r8_.2.2) 176 ((r8_.2.2).toNat) (((((unsealB (msgP r2_.2.2) 0).1).set ((r4_.2.2).toNat) (u8Of r5_.2.2)).take ((r8_.2.2).toNat)).map encU8) (by kernel_rfl) (by kernel_rfl) (by kernel_rfl) (by kernel_rfl) (by kernel_rfl) (by kernel_rfl) (by decide) (.inl ⟨rfl, rfl⟩) (.inr ⟨_, _, rfl, sayNat (by omega)⟩) (by simp only [List.length_map]; omega) (by rw [List.map_take]) ·) ?_
           refine dv (At.z 1 ·) ?_
           refine dv (AW.g ·) ?_
           refine dv (At.a 1 ·) ?_
           refine dv (At.c (spec_Seal_spec  ((((unsealB (msgP r2_.2.2) 0).1).set ((r4_.2.2).toNat) (u8Of r5_.2.2)).take ((r8_.2.2).toNat)) (by simp only [List.length_append, List.length_set, List.length_take, List.length_cons, List.length_nil]; omega)) Try.call32 false [] [(2580, 0)] [(176, 1, (((((unsealB (msgP r2_.2.2) 0).1).set ((r4_.2.2).toNat) (u8Of r5_.2.2)).take ((r8_.2.2).toNat)).map encU8))] ⟨rfl, ⟨5, (((((unsealB (msgP r2_.2.2) 0).1).set ((r4_.2.2).toNat) (u8Of r5_.2.2)).take ((r8_.2.2).toNat)).map encU8), by kernel_rfl, FrzIs.same (allP_encU8 _)⟩, trivial⟩ ·) ?_
           refine dv (At.z 4 ·) ?_
           refine dv (AW.q 2 ·) ?_
           refine dv (AW.ret ·) ?_
           refine dv (⟨_, Sub.refl _ _, ·⟩) ?_
           exact ⟨(sealP ((((unsealB (msgP r2_.2.2) 0).1).set ((r4_.2.2).toNat) (u8Of r5_.2.2)).take ((r8_.2.2).toNat))), (by exact Nat.le_trans (sealP_len _) (by decide)), KF.mk (.inr rfl) [(2580, 0)] [.ref 2580] (by kernel_rfl) (by kernel_rfl) (by kernel_rfl) (by kernel_rfl) (by kernel_rfl)⟩
         replace h16 := Bool.eq_false_iff.2 h16
         refine dv (AW.condF (r7_.2.2) (by kernel_rfl) h16 ·) ?_
         refine dv (AW.skip ·) ?_
         refine dv (AW.g ·) ?_
         refine dv (At.a 1 ·) ?_
         refine dv (At.c (spec_Seal_spec  (((unsealB (msgP r2_.2.2) 0).1).set ((r4_.2.2).toNat) (u8Of r5_.2.2)) (by simp only [List.length_append, List.length_set, List.length_take, List.length_cons, List.length_nil]; omega)) Try.call32 false [] [(2580, 0)] [(1840, 1, ((((unsealB (msgP r2_.2.2) 0).1).set ((r4_.2.2).toNat) (u8Of r5_.2.2)).map encU8))] ⟨rfl, ⟨5, ((((unsealB (msgP r2_.2.2) 0).1).set ((r4_.2.2).toNat) (u8Of r5_.2.2)).map encU8), by kernel_rfl, FrzIs.same (allP_encU8 _)⟩, trivial⟩ ·) ?_
         refine dv (At.z 4 ·) ?_
         refine dv (AW.q 2 ·) ?_
         refine dv (AW.ret ·) ?_
         refine dv (⟨_, Sub.refl _ _, ·⟩) ?_
         exact ⟨(sealP (((unsealB (msgP r2_.2.2) 0).1).set ((r4_.2.2).toNat) (u8Of r5_.2.2))), (by exact Nat.le_trans (sealP_len _) (by decide)), KF.mk (.inr rfl) [(2580, 0)] [.ref 2580] (by kernel_rfl) (by kernel_rfl) (by kernel_rfl) (by kernel_rfl) (by kernel_rfl)⟩
       refine dv (AW.condF (decide ((((unsealB (msgP r2_.2.2) 0).1).length : Int) > 0)) (by kernel_rfl) (decide_eq_false h13) ·) ?_
       refine dv (AW.skip ·) ?_
       refine dv (AW.q 2 ·) ?_
       refine dv (AW.ret ·) ?_
       refine dv (⟨_, Sub.refl _ _, ·⟩) ?_
       exact ⟨(msgP r2_.2.2), (by (try dsimp only); (try simp only [List.length_append, List.length_set, List.length_cons, List.length_nil]); omega), KF.mk (.inr rfl) [(1280, 0)] [.ref 1280] (by kernel_rfl) (by kernel_rfl) (by kernel_rfl) (by kernel_rfl) (by kernel_rfl)⟩
     refine dv (At.sB 48 _ _ (sayEF h12) ·) ?_
     refine dv (At.z 4 ·) ?_
     refine dv (fun h_ => AW.cond false (by kernel_rfl) (fun h => by cases h) (fun _ => h_)) ?_
     refine dv (AW.skip ·) ?_
     refine dv (AW.q 2 ·) ?_
     refine dv (AW.ret ·) ?_
     refine dv (⟨_, Sub.refl _ _, ·⟩) ?_
     exact ⟨(msgP r2_.2.2), (by (try dsimp only); (try simp only [List.length_append, List.length_set, List.length_cons, List.length_nil]); omega), KF.mk (.inr rfl) [(1280, 0)] [.ref 1280] (by kernel_rfl) (by kernel_rfl) (by kernel_rfl) (by kernel_rfl) (by kernel_rfl)⟩
   refine dv (AW.condF (r3_.2.2 == 2) (by kernel_rfl) (beq_eq_false_iff_ne.2 h11) ·) ?_
   refine dv (AW.q 2 ·) ?_
   by_cases h17 : r3_.2.2 = 3
   · refine dv (AW.condT (r3_.2.2 == 3) (by kernel_rfl) (beq_iff_eq.2 h17) ·) ?_
     refine dv (AW.g ·) ?_
     refine dv (At.a 1 ·) ?_
     refine dv (At.ll 85 5 1 185 (56, 6) (([(0 : UInt8)]).map encU8) ·) ?_
     refine dv (At.apK 86 5 1 1 186 1280 185 encU8 (msgP r2_.2.2) ([(0 : UInt8)]) (by simp only [List.length_map, List.length_append, List.length_take, List.length_drop, List.length_replicate, List.length_set, List.length_cons, List.length_nil]; omega) ·) ?_
     refine dv (At.z 1 ·) ?_
     refine dv (AW.q 2 ·) ?_
     refine dv (AW.ret ·) ?_
     refine dv (⟨_, Sub.refl _ _, ·⟩) ?_
     exact ⟨((msgP r2_.2.2) ++ ([(0 : UInt8)])), (by (try dsimp only); (try simp only [List.length_append, List.length_set, List.length_cons, List.length_nil]); omega), KF.mk (.inr rfl) [(186, 0)] [.ref 186] (by kernel_rfl) (by kernel_rfl) (by kernel_rfl) (by kernel_rfl) (by kernel_rfl)⟩
   refine dv (AW.condF (r3_.2.2 == 3) (by kernel_rfl) (beq_eq_false_iff_ne.2 h17) ·) ?_
   refine dv (AW.skip ·) ?_
   refine dv (AW.q 2 ·) ?_
   refine dv (AW.ret ·) ?_
   refine dv (⟨_, Sub.refl _ _, ·⟩) ?_
   exact ⟨(msgP r2_.2.2), (by (try dsimp only); (try simp only [List.length_append, List.length_set, List.length_cons, List.length_nil]); omega), KF.mk (.inr rfl) [(1280, 0)] [.ref 1280] (by kernel_rfl) (by kernel_rfl) (by kernel_rfl) (by kernel_rfl) (by kernel_rfl)⟩
 replace h1 := Bool.eq_false_iff.2 h1
 refine dv (AW.condT (!(msgPok r2_.2.2)) (by kernel_rfl) (by rw [show (msgPok r2_.2.2) = false from h1]; rfl) ·) ?_
 refine dv (AW.g ·) ?_
 refine dv (At.ll 20 5 1 120 (56, 6) (([(1 : UInt8)]).map encU8) ·) ?_
 refine dv (At.c (spec_Seal_spec  ([(1 : UInt8)]) (by simp only [List.length_append, List.length_set, List.length_take, List.length_cons, List.length_nil]; omega)) Try.call32 false [] [(1420, 0)] [(120, 1, (([(1 : UInt8)]).map encU8))] ⟨rfl, ⟨5, (([(1 : UInt8)]).map encU8), by kernel_rfl, FrzIs.same (allP_encU8 _)⟩, trivial⟩ ·) ?_
 have hsl := sealP_len [(1 : UInt8)]
 have hsp := sealP_pos (b := [(1 : UInt8)]) (by decide)
 refine dv (At.z 4 ·) ?_
 refine dv (AW.seq ·) ?_
 refine dv (AW.r ·) ?_
 refine dv (At.a 1 ·) ?_
 refine Exists.elim (spec_l1Below_spec  (⟨code, r2_.1, r2_.2.1⟩ : Cur) 6 (by dsimp only; omega)) fun r3_ hr3_ => ?_
 have qr3_ := hr3_.1
 try dsimp only at qr3_
 refine dv (At.c (hr3_.2) Try.call58 true [(1200, 0)] [] [] trivial ·) ?_
 refine dv (At.done rfl ·) ?_
 refine dv (AW.block ·) ?_
 refine dv (AW.q 2 ·) ?_
 by_cases h18 : r3_.2.2 = 0
 · refine dv (AW.condT (r3_.2.2 == 0) (by kernel_rfl) (beq_iff_eq.2 h18) ·) ?_
   refine dv (AW.g ·) ?_
   refine dv (At.a 4 ·) ?_
   refine dv (At.sL 31 encU8 (sealP ([(1 : UInt8)])) ·) ?_
   refine Exists.elim (spec_l1Below_spec  (⟨code, r3_.1, r3_.2.1⟩ : Cur) ((sealP ([(1 : UInt8)])).length : Int) (by dsimp only; omega)) fun r4_ hr4_ => ?_
   have qr4_ := hr4_.1
   try dsimp only at qr4_
   refine dv (At.c (hr4_.2) Try.call58 true [(1200, 0)] [] [] trivial ·) ?_
   refine dv (At.a 1 ·) ?_
   refine Exists.elim (spec_l1Byte_spec  (⟨code, r4_.1, r4_.2.1⟩ : Cur) (by dsimp only; omega)) fun r5_ hr5_ => ?_
   have qr5_ := hr5_.1
   try dsimp only at qr5_
   refine dv (At.c (hr5_.2) Try.call59 true [(1200, 0)] [] [] trivial ·) ?_
   refine dv (At.conv (s := 3) (t := 5) (d := 35) (x := .tmp 34) (kd := .i64) (kd' := .u8) (a := r5_.2.2) (.int .u8 ((u8Of r5_.2.2).toNat : Int)) (by kernel_rfl) (by kernel_rfl) (by kernel_rfl) (by kernel_rfl) (sayByte _) ·) ?_
   refine dv (At.iRf 28 36 (.tmp 28) (.tmp 32) 1420 ((sealP ([(1 : UInt8)])).map encU8) .i64 r4_.2.2 5 1 (by omega) (by simp only [List.length_map]; omega) ·) ?_
   refine Exists.elim (gE (sealP ([(1 : UInt8)])) ((r4_.2.2).toNat) (by omega)) fun e4 he4 => ?_
   refine dv (At.sEl 5 1420 5 1 ((r4_.2.2).toNat) 0 (.tmp 36) (.tmp 35) ((sealP ([(1 : UInt8)])).map encU8) (((sealP ([(1 : UInt8)])).set ((r4_.2.2).toNat) (u8Of r5_.2.2)).map encU8) [.int .u8 ((u8Of r5_.2.2).toNat : Int)] (.int .u8 ((u8Of r5_.2.2).toNat : Int)) (encU8 e4) (encU8 (u8Of r5_.2.2)) (mapGet he4) setV ·) ?_
   refine dv (At.done rfl ·) ?_
   refine dv (AW.q 2 ·) ?_
   refine dv (AW.ret ·) ?_
   refine dv (⟨_, Sub.refl _ _, ·⟩) ?_
   exact ⟨((sealP ([(1 : UInt8)])).set ((r4_.2.2).toNat) (u8Of r5_.2.2)), (by (try dsimp only); (try simp only [List.length_append, List.length_set, List.length_cons, List.length_nil]); omega), KF.mk (.inr rfl) [(1420, 0)] [.ref 1420] (by kernel_rfl) (by kernel_rfl) (by kernel_rfl) (by kernel_rfl) (by kernel_rfl)⟩
 refine dv (AW.condF (r3_.2.2 == 0) (by kernel_rfl) (beq_eq_false_iff_ne.2 h18) ·) ?_
 refine dv (AW.seq ·) ?_
 refine dv (AW.q 2 ·) ?_
 by_cases h19 : r3_.2.2 = 1
 · refine dv (AW.condT (r3_.2.2 == 1) (by kernel_rfl) (beq_iff_eq.2 h19) ·) ?_
   refine dv (AW.skip ·) ?_
   by_cases h20 : r3_.2.2 = 1
   · refine dv (AW.condT (r3_.2.2 == 1) (by kernel_rfl) (beq_iff_eq.2 h20) ·) ?_
     refine dv (AW.r ·) ?_
     refine dv (At.a 1 ·) ?_
     refine dv (At.c (spec_Unseal_spec  (sealP ([(1 : UInt8)])) 0 (by omega) (by omega)) Try.call43 false [] [(1840, 0)] [(1420, 1, ((sealP ([(1 : UInt8)])).map encU8))] ⟨rfl, ⟨5, ((sealP ([(1 : UInt8)])).map encU8), by kernel_rfl, FrzIs.same (allP_encU8 _)⟩, trivial⟩ ·) ?_
     have hul := unsealB_len (sealP ([(1 : UInt8)])) 0
     refine dv (At.z 7 ·) ?_
     refine dv (AW.r ·) ?_
     refine dv (At.a 3 ·) ?_
     by_cases h21 : (unsealB (sealP ([(1 : UInt8)])) 0).2.2 = 0
     · refine dv (At.sB 48 _ _ (sayET h21) ·) ?_
       refine dv (At.a 2 ·) ?_
       refine dv (At.sL 50 encU8 ((unsealB (sealP ([(1 : UInt8)])) 0).1) ·) ?_
       refine dv (At.z 2 ·) ?_
       by_cases h22 : (((unsealB (sealP ([(1 : UInt8)])) 0).1).length : Int) > 0
       · refine dv (AW.condT (decide ((((unsealB (sealP ([(1 : UInt8)])) 0).1).length : Int) > 0)) (by kernel_rfl) (decide_eq_true h22) ·) ?_
         refine dv (AW.r ·) ?_
         refine dv (At.a 4 ·) ?_
         refine dv (At.sL 56 encU8 ((unsealB (sealP ([(1 : UInt8)])) 0).1) ·) ?_
         refine Exists.elim (spec_l1Below_spec  (⟨code, r3_.1, r3_.2.1⟩ : Cur) (((unsealB (sealP ([(1 : UInt8)])) 0).1).length : Int) (by dsimp only; omega)) fun r4_ hr4_ => ?_
         have qr4_ := hr4_.1
         try dsimp only at qr4_
         refine dv (At.c (hr4_.2) Try.call58 true [(1200, 0)] [] [] trivial ·) ?_
         refine dv (At.a 1 ·) ?_
         refine dv (At.ll 59 3 1 159 (56, 6) (([0, 1, 2, 7, 8, 127, 128, 255]).map encI) ·) ?_
         refine Exists.elim (spec_l1PickInt_spec  (⟨code, r4_.1, r4_.2.1⟩ : Cur) ([0, 1, 2, 7, 8, 127, 128, 255]) (by dsimp only; omega) (by decide)) fun r5_ hr5_ => ?_
         have qr5_ := hr5_.1
         try dsimp only at qr5_
         refine dv (At.c (hr5_.2) Try.call60 true [(1200, 0), (159, 1)] [] [] trivial ·) ?_
         refine dv (At.conv (s := 3) (t := 5) (d := 61) (x := .tmp 60) (kd := .i64) (kd' := .u8) (a := r5_.2.2) (.int .u8 ((u8Of r5_.2.2).toNat : Int)) (by kernel_rfl) (by kernel_rfl) (by kernel_rfl) (by kernel_rfl) (sayByte _) ·) ?_
         refine dv (At.iRf 28 62 (.tmp 53) (.tmp 57) 1840 (((unsealB (sealP ([(1 : UInt8)])) 0).1).map encU8) .i64 r4_.2.2 5 1 (by omega) (by simp only [List.length_map]; omega) ·) ?_
         refine Exists.elim (gE ((unsealB (sealP ([(1 : UInt8)])) 0).1) ((r4_.2.2).toNat) (by omega)) fun e5 he5 => ?_
         refine dv (At.sEl 5 1840 5 1 ((r4_.2.2).toNat) 0 (.tmp 62) (.tmp 61) (((unsealB (sealP ([(1 : UInt8)])) 0).1).map encU8) ((((unsealB (sealP ([(1 : UInt8)])) 0).1).set ((r4_.2.2).toNat) (u8Of r5_.2.2)).map encU8) [.int .u8 ((u8Of r5_.2.2).toNat : Int)] (.int .u8 ((u8Of r5_.2.2).toNat : Int)) (encU8 e5) (encU8 (u8Of r5_.2.2)) (mapGet he5) setV ·) ?_
         refine dv (At.done rfl ·) ?_
         refine dv (AW.seq ·) ?_
         refine dv (AW.r ·) ?_
         refine dv (At.a 1 ·) ?_
         refine Exists.elim (spec_l1Once_spec  (⟨code, r5_.1, r5_.2.1⟩ : Cur) 4 (by dsimp only; omega)) fun r6_ hr6_ => ?_
         have qr6_ := hr6_.1
         try dsimp only at qr6_
         refine dv (At.c (hr6_.2) Try.call61 true [(1200, 0)] [] [] trivial ·) ?_
         refine dv (At.done rfl ·) ?_
         by_cases h23 : r6_.2.2 = true
         · refine dv (AW.condT (r6_.2.2) (by kernel_rfl) h23 ·) ?_
           refine dv (AW.g ·) ?_
           refine dv (At.a 1 ·) ?_
           refine dv (At.ll 66 5 1 166 (56, 6) (([(0 : UInt8)]).map encU8) ·) ?_
           refine dv (At.apK 67 5 1 1 167 1840 166 encU8 (((unsealB (sealP ([(1 : UInt8)])) 0).1).set ((r4_.2.2).toNat) (u8Of r5_.2.2)) ([(0 : UInt8)]) (by simp only [List.length_map, List.length_append, List.length_take, List.length_drop, List.length_replicate, List.length_set, List.length_cons, List.length_nil]; omega) ·) ?_
           refine dv (At.z 1 ·) ?_
           refine dv (AW.seq ·) ?_
           refine dv (AW.r ·) ?_
           refine dv (At.a 1 ·) ?_
           refine Exists.elim (spec_l1Once_spec  (⟨code, r6_.1, r6_.2.1⟩ : Cur) 4 (by dsimp only; omega)) fun r7_ hr7_ => ?_
           have qr7_ := hr7_.1
           try dsimp only at qr7_
           refine dv (At.c (hr7_.2) Try.call61 true [(1200, 0)] [] [] trivial ·) ?_
           refine dv (At.done rfl ·) ?_
           by_cases h24 : r7_.2.2 = true
           · refine dv (AW.condT (r7_.2.2) (by kernel_rfl) h24 ·) ?_
             refine dv (AW.g ·) ?_
             refine dv (At.a 4 ·) ?_
             refine dv (At.sL 73 encU8 ((((unsealB (sealP ([(1 : UInt8)])) 0).1).set ((r4_.2.2).toNat) (u8Of r5_.2.2)) ++ ([(0 : UInt8)])) ·) ?_
             refine dv (At.a 1 ·) ?_
             refine dv (At.sI 74 ((((((unsealB (sealP ([(1 : UInt8)])) 0).1).set ((r4_.2.2).toNat) (u8Of r5_.2.2)) ++ ([(0 : UInt8)])).length : Int) + 1) (by simp only [List.length_append, List.length_set, List.length_cons, List.length_nil]; omega) ·) ?_
             refine Exists.elim (spec_l1Below_spec  (⟨code, r7_.1, r7_.2.1⟩ : Cur) ((((((unsealB (sealP ([(1 : UInt8)])) 0).1).set ((r4_.2.2).toNat) (u8Of r5_.2.2)) ++ ([(0 : UInt8)])).length : Int) + 1) (by dsimp only; omega)) fun r8_ hr8_ => ?_
             have qr8_ := hr8_.1
             try dsimp only at qr8_
             refine dv (At.c (hr8_.2) Try.call58 true [(1200, 0)] [] [] trivial ·) ?_
             refine dv (At.cutRef (t := 28) (d := 76) (e := 5) (es := 1) (i := 167) (x := .tmp 70) (lx := none) (hx := some (.tmp 75)) (xs := (((((unsealB (sealP ([(1 : UInt8)])) 0).1).set ((r4_.2.2).toNat) (u8Of r5_.2.2)) ++ ([(0 : UInt8)])).map encU8)) (vl := .un) (vh := .int .i64 r8_.2.2) 176 ((r8_.2.2).toNat) ((((((unsealB (sealP ([(1 : UInt8)])) 0).1).set ((r4_.2.2).toNat) (u8Of r5_.2.2)) ++ ([(0 : UInt8)])).take ((r8_.2.2).toNat)).map encU8) (by kernel_rfl) (by kernel_rfl) (by kernel_rfl) (by kernel_rfl) (by kernel_rfl) (by kernel_rfl) (by decide) (.inl ⟨rfl, rfl⟩) (.inr ⟨_, _, rfl, sayNat (by omega)⟩) (by simp only [List.length_map]; omega) (by rw [List.map_take]) ·) ?_
             refine dv (At.z 1 ·) ?_
             refine dv (AW.g ·) ?_
             refine dv (At.a 1 ·) ?_
             refine dv (At.c (spec_Seal_spec  (((((unsealB (sealP ([(1 : UInt8)])) 0).1).set ((r4_.2.2).toNat) (u8Of r5_.2.2)) ++ ([(0 : UInt8)])).take ((r8_.2.2).toNat)) (by simp only [List.length_append, List.length_set, List.length_take, List.length_cons, List.length_nil]; omega)) Try.call32 false [] [(2580, 0)] [(176, 1, ((((((unsealB (sealP ([(1 : UInt8)])) 0).1).set ((r4_.2.2).toNat) (u8Of r5_.2.2)) ++ ([(0 : UInt8)])).take ((r8_.2.2).toNat)).map encU8))] ⟨rfl, ⟨5, ((((((unsealB (sealP ([(1 : UInt8)])) 0).1).set ((r4_.2.2).toNat) (u8Of r5_.2.2)) ++ ([(0 : UInt8)])).take ((r8_.2.2).toNat)).map encU8), by kernel_rfl, FrzIs.same (allP_encU8 _)⟩, trivial⟩ ·) ?_
             refine dv (At.z 4 ·) ?_
             refine dv (AW.q 2 ·) ?_
             refine dv (AW.ret ·) ?_
             refine dv (⟨_, Sub.refl _ _, ·⟩) ?_
             exact ⟨(sealP (((((unsealB (sealP ([(1 : UInt8)])) 0).1).set ((r4_.2.2).toNat) (u8Of r5_.2.2)) ++ ([(0 : UInt8)])).take ((r8_.2.2).toNat))), (by exact Nat.le_trans (sealP_len _) (by decide)), KF.mk (.inr rfl) [(2580, 0)] [.ref 2580] (by kernel_rfl) (by kernel_rfl) (by kernel_rfl) (by kernel_rfl) (by kernel_rfl)⟩
           replace h24 := Bool.eq_false_iff.2 h24
           refine dv (AW.condF (r7_.2.2) (by kernel_rfl) h24 ·) ?_
           refine dv (AW.skip ·) ?_
           refine dv (AW.g ·) ?_
           refine dv (At.a 1 ·) ?_
           refine dv (At.c (spec_Seal_spec  ((((unsealB (sealP ([(1 : UInt8)])) 0).1).set ((r4_.2.2).toNat) (u8Of r5_.2.2)) ++ ([(0 : UInt8)])) (by simp only [List.length_append, List.length_set, List.length_take, List.length_cons, List.length_nil]; omega)) Try.call32 false [] [(2580, 0)] [(167, 1, (((((unsealB (sealP ([(1 : UInt8)])) 0).1).set ((r4_.2.2).toNat) (u8Of r5_.2.2)) ++ ([(0 : UInt8)])).map encU8))] ⟨rfl, ⟨5, (((((unsealB (sealP ([(1 : UInt8)])) 0).1).set ((r4_.2.2).toNat) (u8Of r5_.2.2)) ++ ([(0 : UInt8)])).map encU8), by kernel_rfl, FrzIs.same (allP_encU8 _)⟩, trivial⟩ ·) ?_
           refine dv (At.z 4 ·) ?_
           refine dv (AW.q 2 ·) ?_
           refine dv (AW.ret ·) ?_
           refine dv (⟨_, Sub.refl _ _, ·⟩) ?_
           exact ⟨(sealP ((((unsealB (sealP ([(1 : UInt8)])) 0).1).set ((r4_.2.2).toNat) (u8Of r5_.2.2)) ++ ([(0 : UInt8)]))), (by exact Nat.le_trans (sealP_len _) (by decide)), KF.mk (.inr rfl) [(2580, 0)] [.ref 2580] (by kernel_rfl) (by kernel_rfl) (by kernel_rfl) (by kernel_rfl) (by kernel_rfl)⟩
         replace h23 := Bool.eq_false_iff.2 h23
         refine dv (AW.condF (r6_.2.2) (by kernel_rfl) h23 ·) ?_
         refine dv (AW.skip ·) ?_
         refine dv (AW.seq ·) ?_
         refine dv (AW.r ·) ?_
         refine dv (At.a 1 ·) ?_
         refine Exists.elim (spec_l1Once_spec  (⟨code, r6_.1, r6_.2.1⟩ : Cur) 4 (by dsimp only; omega)) fun r7_ hr7_ => ?_
         have qr7_ := hr7_.1
         try dsimp only at qr7_
         refine dv (At.c (hr7_.2) Try.call61 true [(1200, 0)] [] [] trivial ·) ?_
         refine dv (At.done rfl ·) ?_
         by_cases h25 : r7_.2.2 = true
         · refine dv (AW.condT (r7_.2.2) (by kernel_rfl) h25 ·) ?_
           refine dv (AW.g ·) ?_
           refine dv (At.a 4 ·) ?_
           refine dv (At.sL 73 encU8 (((unsealB (sealP ([(1 : UInt8)])) 0).1).set ((r4_.2.2).toNat) (u8Of r5_.2.2)) ·) ?_
           refine dv (At.a 1 ·) ?_
           refine dv (At.sI 74 (((((unsealB (sealP ([(1 : UInt8)])) 0).1).set ((r4_.2.2).toNat) (u8Of r5_.2.2)).length : Int) + 1) (by simp only [List.length_append, List.length_set, List.length_cons, List.length_nil]; omega) ·) ?_
           refine Exists.elim (spec_l1Below_spec  (⟨code, r7_.1, r7_.2.1⟩ : Cur) (((((unsealB (sealP ([(1 : UInt8)])) 0).1).set ((r4_.2.2).toNat) (u8Of r5_.2.2)).length : Int) + 1) (by dsimp only; omega)) fun r8_ hr8_ => ?_
           have qr8_ := hr8_.1
           try dsimp only at qr8_
           refine dv (At.c (hr8_.2) Try.call58 true [(1200, 0)] [] [] trivial ·) ?_
           refine dv (At.cutRef (t := 28) (d := 76) (e := 5) (es := 1) (i := 1840) (x := .tmp 70) (lx := none) (hx := some (.tmp 75)) (xs := ((((unsealB (sealP ([(1 : UInt8)])) 0).1).set ((r4_.2.2).toNat) (u8Of r5_.2.2)).map encU8)) (vl := .un) (vh := .int .i64 r8_.2.2) 176 ((r8_.2.2).toNat) (((((unsealB (sealP ([(1 : UInt8)])) 0).1).set ((r4_.2.2).toNat) (u8Of r5_.2.2)).take ((r8_.2.2).toNat)).map encU8) (by kernel_rfl) (by kernel_rfl) (by kernel_rfl) (by kernel_rfl) (by kernel_rfl) (by kernel_rfl) (by decide) (.inl ⟨rfl, rfl⟩) (.inr ⟨_, _, rfl, sayNat (by omega)⟩) (by simp only [List.length_map]; omega) (by rw [List.map_take]) ·) ?_
           refine dv (At.z 1 ·) ?_
           refine dv (AW.g ·) ?_
           refine dv (At.a 1 ·) ?_
           refine dv (At.c (spec_Seal_spec  ((((unsealB (sealP ([(1 : UInt8)])) 0).1).set ((r4_.2.2).toNat) (u8Of r5_.2.2)).take ((r8_.2.2).toNat)) (by simp only [List.length_append, List.length_set, List.length_take, List.length_cons, List.length_nil]; omega)) Try.call32 false [] [(2580, 0)] [(176, 1, (((((unsealB (sealP ([(1 : UInt8)])) 0).1).set ((r4_.2.2).toNat) (u8Of r5_.2.2)).take ((r8_.2.2).toNat)).map encU8))] ⟨rfl, ⟨5, (((((unsealB (sealP ([(1 : UInt8)])) 0).1).set ((r4_.2.2).toNat) (u8Of r5_.2.2)).take ((r8_.2.2).toNat)).map encU8), by kernel_rfl, FrzIs.same (allP_encU8 _)⟩, trivial⟩ ·) ?_
           refine dv (At.z 4 ·) ?_
           refine dv (AW.q 2 ·) ?_
           refine dv (AW.ret ·) ?_
           refine dv (⟨_, Sub.refl _ _, ·⟩) ?_
           exact ⟨(sealP ((((unsealB (sealP ([(1 : UInt8)])) 0).1).set ((r4_.2.2).toNat) (u8Of r5_.2.2)).take ((r8_.2.2).toNat))), (by exact Nat.le_trans (sealP_len _) (by decide)), KF.mk (.inr rfl) [(2580, 0)] [.ref 2580] (by kernel_rfl) (by kernel_rfl) (by kernel_rfl) (by kernel_rfl) (by kernel_rfl)⟩
         replace h25 := Bool.eq_false_iff.2 h25
         refine dv (AW.condF (r7_.2.2) (by kernel_rfl) h25 ·) ?_
         refine dv (AW.skip ·) ?_
         refine dv (AW.g ·) ?_
         refine dv (At.a 1 ·) ?_
         refine dv (At.c (spec_Seal_spec  (((unsealB (sealP ([(1 : UInt8)])) 0).1).set ((r4_.2.2).toNat) (u8Of r5_.2.2)) (by simp only [List.length_append, List.length_set, List.length_take, List.length_cons, List.length_nil]; omega)) Try.call32 false [] [(2580, 0)] [(1840, 1, ((((unsealB (sealP ([(1 : UInt8)])) 0).1).set ((r4_.2.2).toNat) (u8Of r5_.2.2)).map encU8))] ⟨rfl, ⟨5, ((((unsealB (sealP ([(1 : UInt8)])) 0).1).set ((r4_.2.2).toNat) (u8Of r5_.2.2)).map encU8), by kernel_rfl, FrzIs.same (allP_encU8 _)⟩, trivial⟩ ·) ?_
         refine dv (At.z 4 ·) ?_
         refine dv (AW.q 2 ·) ?_
         refine dv (AW.ret ·) ?_
         refine dv (⟨_, Sub.refl _ _, ·⟩) ?_
         exact ⟨(sealP (((unsealB (sealP ([(1 : UInt8)])) 0).1).set ((r4_.2.2).toNat) (u8Of r5_.2.2))), (by exact Nat.le_trans (sealP_len _) (by decide)), KF.mk (.inr rfl) [(2580, 0)] [.ref 2580] (by kernel_rfl) (by kernel_rfl) (by kernel_rfl) (by kernel_rfl) (by kernel_rfl)⟩
       refine dv (AW.condF (decide ((((unsealB (sealP ([(1 : UInt8)])) 0).1).length : Int) > 0)) (by kernel_rfl) (decide_eq_false h22) ·) ?_
       refine dv (AW.skip ·) ?_
       refine dv (AW.q 2 ·) ?_
       refine dv (AW.ret ·) ?_
       refine dv (⟨_, Sub.refl _ _, ·⟩) ?_
       exact ⟨(sealP ([(1 : UInt8)])), (by exact Nat.le_trans (sealP_len _) (by decide)), KF.mk (.inr rfl) [(1420, 0)] [.ref 1420] (by kernel_rfl) (by kernel_rfl) (by kernel_rfl) (by kernel_rfl) (by kernel_rfl)⟩
     refine dv (At.sB 48 _ _ (sayEF h21) ·) ?_
     refine dv (At.z 4 ·) ?_
     refine dv (fun h_ => AW.cond false (by kernel_rfl) (fun h => by cases h) (fun _ => h_)) ?_
     refine dv (AW.skip ·) ?_
     refine dv (AW.q 2 ·) ?_
     refine dv (AW.ret ·) ?_
     refine dv (⟨_, Sub.refl _ _, ·⟩) ?_
     exact ⟨(sealP ([(1 : UInt8)])), (by exact Nat.le_trans (sealP_len _) (by decide)), KF.mk (.inr rfl) [(1420, 0)] [.ref 1420] (by kernel_rfl) (by kernel_rfl) (by kernel_rfl) (by kernel_rfl) (by kernel_rfl)⟩
   refine dv (AW.condF (r3_.2.2 == 1) (by kernel_rfl) (beq_eq_false_iff_ne.2 h20) ·) ?_
   refine dv (AW.q 2 ·) ?_
   by_cases h26 : r3_.2.2 = 3
   · refine dv (AW.condT (r3_.2.2 == 3) (by kernel_rfl) (beq_iff_eq.2 h26) ·) ?_
     refine dv (AW.g ·) ?_
     refine dv (At.a 1 ·) ?_
     refine dv (At.ll 85 5 1 185 (56, 6) (([(0 : UInt8)]).map encU8) ·) ?_
     refine dv (At.apK 86 5 1 1 186 1420 185 encU8 (sealP ([(1 : UInt8)])) ([(0 : UInt8)]) (by omega) ·) ?_
     refine dv (At.z 1 ·) ?_
     refine dv (AW.q 2 ·) ?_
     refine dv (AW.ret ·) ?_
     refine dv (⟨_, Sub.refl _ _, ·⟩) ?_
     exact ⟨((sealP ([(1 : UInt8)])) ++ ([(0 : UInt8)])), (by (try dsimp only); (try simp only [List.length_append, List.length_set, List.length_cons, List.length_nil]); omega), KF.mk (.inr rfl) [(186, 0)] [.ref 186] (by kernel_rfl) (by kernel_rfl) (by kernel_rfl) (by kernel_rfl) (by kernel_rfl)⟩
   refine dv (AW.condF (r3_.2.2 == 3) (by kernel_rfl) (beq_eq_false_iff_ne.2 h26) ·) ?_
   refine dv (AW.skip ·) ?_
   refine dv (AW.q 2 ·) ?_
   refine dv (AW.ret ·) ?_
   refine dv (⟨_, Sub.refl _ _, ·⟩) ?_
   exact ⟨(sealP ([(1 : UInt8)])), (by exact Nat.le_trans (sealP_len _) (by decide)), KF.mk (.inr rfl) [(1420, 0)] [.ref 1420] (by kernel_rfl) (by kernel_rfl) (by kernel_rfl) (by kernel_rfl) (by kernel_rfl)⟩
 refine dv (AW.condF (r3_.2.2 == 1) (by kernel_rfl) (beq_eq_false_iff_ne.2 h19) ·) ?_
 refine dv (AW.gq 2 ·) ?_
 by_cases h27 : r3_.2.2 = 2
 · refine dv (AW.condT (r3_.2.2 == 2) (by kernel_rfl) (beq_iff_eq.2 h27) ·) ?_
   refine dv (AW.r ·) ?_
   refine dv (At.a 1 ·) ?_
   refine dv (At.c (spec_Unseal_spec  (sealP ([(1 : UInt8)])) 0 (by omega) (by omega)) Try.call43 false [] [(1840, 0)] [(1420, 1, ((sealP ([(1 : UInt8)])).map encU8))] ⟨rfl, ⟨5, ((sealP ([(1 : UInt8)])).map encU8), by kernel_rfl, FrzIs.same (allP_encU8 _)⟩, trivial⟩ ·) ?_
   have hul := unsealB_len (sealP ([(1 : UInt8)])) 0
   refine dv (At.z 7 ·) ?_
   refine dv (AW.r ·) ?_
   refine dv (At.a 3 ·) ?_
   by_cases h28 : (unsealB (sealP ([(1 : UInt8)])) 0).2.2 = 0
   · refine dv (At.sB 48 _ _ (sayET h28) ·) ?_
     refine dv (At.a 2 ·) ?_
     refine dv (At.sL 50 encU8 ((unsealB (sealP ([(1 : UInt8)])) 0).1) ·) ?_
     refine dv (At.z 2 ·) ?_
     by_cases h29 : (((unsealB (sealP ([(1 : UInt8)])) 0).1).length : Int) > 0
     · refine dv (AW.condT (decide ((((unsealB (sealP ([(1 : UInt8)])) 0).1).length : Int) > 0)) (by kernel_rfl) (decide_eq_true h29) ·) ?_
       refine dv (AW.r ·) ?_
       refine dv (At.a 4 ·) ?_
       refine dv (At.sL 56 encU8 ((unsealB (sealP ([(1 : UInt8)])) 0).1) ·) ?_
       refine Exists.elim (spec_l1Below_spec  (⟨code, r3_.1, r3_.2.1⟩ : Cur) (((unsealB (sealP ([(1 : UInt8)])) 0).1).length : Int) (by dsimp only; omega)) fun r4_ hr4_ => ?_
       have qr4_ := hr4_.1
       try dsimp only at qr4_
       refine dv (At.c (hr4_.2) Try.call58 true [(1200, 0)] [] [] trivial ·) ?_
       refine dv (At.a 1 ·) ?_
       refine dv (At.ll 59 3 1 159 (56, 6) (([0, 1, 2, 7, 8, 127, 128, 255]).map encI) ·) ?_
       refine Exists.elim (spec_l1PickInt_spec  (⟨code, r4_.1, r4_.2.1⟩ : Cur) ([0, 1, 2, 7, 8, 127, 128, 255]) (by dsimp only; omega) (by decide)) fun r5_ hr5_ => ?_
       have qr5_ := hr5_.1
       try dsimp only at qr5_
       refine dv (At.c (hr5_.2) Try.call60 true [(1200, 0), (159, 1)] [] [] trivial ·) ?_
       refine dv (At.conv (s := 3) (t := 5) (d := 61) (x := .tmp 60) (kd := .i64) (kd' := .u8) (a := r5_.2.2) (.int .u8 ((u8Of r5_.2.2).toNat : Int)) (by kernel_rfl) (by kernel_rfl) (by kernel_rfl) (by kernel_rfl) (sayByte _) ·) ?_
       refine dv (At.iRf 28 62 (.tmp 53) (.tmp 57) 1840 (((unsealB (sealP ([(1 : UInt8)])) 0).1).map encU8) .i64 r4_.2.2 5 1 (by omega) (by simp only [List.length_map]; omega) ·) ?_
       refine Exists.elim (gE ((unsealB (sealP ([(1 : UInt8)])) 0).1) ((r4_.2.2).toNat) (by omega)) fun e6 he6 => ?_
       refine dv (At.sEl 5 1840 5 1 ((r4_.2.2).toNat) 0 (.tmp 62) (.tmp 61) (((unsealB (sealP ([(1 : UInt8)])) 0).1).map encU8) ((((unsealB (sealP ([(1 : UInt8)])) 0).1).set ((r4_.2.2).toNat) (u8Of r5_.2.2)).map encU8) [.int .u8 ((u8Of r5_.2.2).toNat : Int)] (.int .u8 ((u8Of r5_.2.2).toNat : Int)) (encU8 e6) (encU8 (u8Of r5_.2.2)) (mapGet he6) setV ·) ?_
       refine dv (At.done rfl ·) ?_
       refine dv (AW.seq ·) ?_
       refine dv (AW.r ·) ?_
       refine dv (At.a 1 ·) ?_
       refine Exists.elim (spec_l1Once_spec  (⟨code, r5_.1, r5_.2.1⟩ : Cur) 4 (by dsimp only; omega)) fun r6_ hr6_ => ?_
       have qr6_ := hr6_.1
       try dsimp only at qr6_
       refine dv (At.c (hr6_.2) Try.call61 true [(1200, 0)] [] [] trivial ·) ?_
       refine dv (At.done rfl ·) ?_
       by_cases h30 : r6_.2.2 = true
       · refine dv (AW.condT (r6_.2.2) (by kernel_rfl) h30 ·) ?_
         refine dv (AW.g ·) ?_
         refine dv (At.a 1 ·) ?_
         refine dv (At.ll 66 5 1 166 (56, 6) (([(0 : UInt8)]).map encU8) ·) ?_
         refine dv (At.apK 67 5 1 1 167 1840 166 encU8 (((unsealB (sealP ([(1 : UInt8)])) 0).1).set ((r4_.2.2).toNat) (u8Of r5_.2.2)) ([(0 : UInt8)]) (by simp only [List.length_map, List.length_append, List.length_take, List.length_drop, List.length_replicate, List.length_set, List.length_cons, List.length_nil]; omega) ·) ?_
         refine dv (At.z 1 ·) ?_
         refine dv (AW.seq ·) ?_
         refine dv (AW.r ·) ?_
         refine dv (At.a 1 ·) ?_
         refine Exists.elim (spec_l1Once_spec  (⟨code, r6_.1, r6_.2.1⟩ : Cur) 4 (by dsimp only; omega)) fun r7_ hr7_ => ?_
         have qr7_ := hr7_.1
         try dsimp only at qr7_
         refine dv (At.c (hr7_.2) Try.call61 true [(1200, 0)] [] [] trivial ·) ?_
         refine dv (At.done rfl ·) ?_
         by_cases h31 : r7_.2.2 = true
         · refine dv (AW.condT (r7_.2.2) (by kernel_rfl) h31 ·) ?_
           refine dv (AW.g ·) ?_
           refine dv (At.a 4 ·) ?_
           refine dv (At.sL 73 encU8 ((((unsealB (sealP ([(1 : UInt8)])) 0).1).set ((r4_.2.2).toNat) (u8Of r5_.2.2)) ++ ([(0 : UInt8)])) ·) ?_
           refine dv (At.a 1 ·) ?_
           refine dv (At.sI 74 ((((((unsealB (sealP ([(1 : UInt8)])) 0).1).set ((r4_.2.2).toNat) (u8Of r5_.2.2)) ++ ([(0 : UInt8)])).length : Int) + 1) (by simp only [List.length_append, List.length_set, List.length_cons, List.length_nil]; omega) ·) ?_
           refine Exists.elim (spec_l1Below_spec  (⟨code, r7_.1, r7_.2.1⟩ : Cur) ((((((unsealB (sealP ([(1 : UInt8)])) 0).1).set ((r4_.2.2).toNat) (u8Of r5_.2.2)) ++ ([(0 : UInt8)])).length : Int) + 1) (by dsimp only; omega)) fun r8_ hr8_ => ?_
           have qr8_ := hr8_.1
           try dsimp only at qr8_
           refine dv (At.c (hr8_.2) Try.call58 true [(1200, 0)] [] [] trivial ·) ?_
           refine dv (At.cutRef (t := 28) (d := 76) (e := 5) (es := 1) (i := 167) (x := .tmp 70) (lx := none) (hx := some (.tmp 75)) (xs := (((((unsealB (sealP ([(1 : UInt8)])) 0).1).set ((r4_.2.2).toNat) (u8Of r5_.2.2)) ++ ([(0 : UInt8)])).map encU8)) (vl := .un) (vh := .int .i64 r8_.2.2) 176 ((r8_.2.2).toNat) ((((((unsealB (sealP ([(1 : UInt8)])) 0).1).set ((r4_.2.2).toNat) (u8Of r5_.2.2)) ++ ([(0 : UInt8)])).take ((r8_.2.2).toNat)).map encU8) (by kernel_rfl) (by kernel_rfl) (by kernel_rfl) (by kernel_rfl) (by kernel_rfl) (by kernel_rfl) (by decide) (.inl ⟨rfl, rfl⟩) (.inr ⟨_, _, rfl, sayNat (by omega)⟩) (by simp only [List.length_map]; omega) (by rw [List.map_take]) ·) ?_
           refine dv (At.z 1 ·) ?_
           refine dv (AW.g ·) ?_
           refine dv (At.a 1 ·) ?_
           refine dv (At.c (spec_Seal_spec  (((((unsealB (sealP ([(1 : UInt8)])) 0).1).set ((r4_.2.2).toNat) (u8Of r5_.2.2)) ++ ([(0 : UInt8)])).take ((r8_.2.2).toNat)) (by simp only [List.length_append, List.length_set, List.length_take, List.length_cons, List.length_nil]; omega)) Try.call32 false [] [(2580, 0)] [(176, 1, ((((((unsealB (sealP ([(1 : UInt8)])) 0).1).set ((r4_.2.2).toNat) (u8Of r5_.2.2)) ++ ([(0 : UInt8)])).take ((r8_.2.2).toNat)).map encU8))] ⟨rfl, ⟨5, ((((((unsealB (sealP ([(1 : UInt8)])) 0).1).set ((r4_.2.2).toNat) (u8Of r5_.2.2)) ++ ([(0 : UInt8)])).take ((r8_.2.2).toNat)).map encU8), by kernel_rfl, FrzIs.same (allP_encU8 _)⟩, trivial⟩ ·) ?_
           refine dv (At.z 4 ·) ?_
           refine dv (AW.q 2 ·) ?_
           refine dv (AW.ret ·) ?_
           refine dv (⟨_, Sub.refl _ _, ·⟩) ?_
           exact ⟨(sealP (((((unsealB (sealP ([(1 : UInt8)])) 0).1).set ((r4_.2.2).toNat) (u8Of r5_.2.2)) ++ ([(0 : UInt8)])).take ((r8_.2.2).toNat))), (by exact Nat.le_trans (sealP_len _) (by decide)), KF.mk (.inr rfl) [(2580, 0)] [.ref 2580] (by kernel_rfl) (by kernel_rfl) (by kernel_rfl) (by kernel_rfl) (by kernel_rfl)⟩
         replace h31 := Bool.eq_false_iff.2 h31
         refine dv (AW.condF (r7_.2.2) (by kernel_rfl) h31 ·) ?_
         refine dv (AW.skip ·) ?_
         refine dv (AW.g ·) ?_
         refine dv (At.a 1 ·) ?_
         refine dv (At.c (spec_Seal_spec  ((((unsealB (sealP ([(1 : UInt8)])) 0).1).set ((r4_.2.2).toNat) (u8Of r5_.2.2)) ++ ([(0 : UInt8)])) (by simp only [List.length_append, List.length_set, List.length_take, List.length_cons, List.length_nil]; omega)) Try.call32 false [] [(2580, 0)] [(167, 1, (((((unsealB (sealP ([(1 : UInt8)])) 0).1).set ((r4_.2.2).toNat) (u8Of r5_.2.2)) ++ ([(0 : UInt8)])).map encU8))] ⟨rfl, ⟨5, (((((unsealB (sealP ([(1 : UInt8)])) 0).1).set ((r4_.2.2).toNat) (u8Of r5_.2.2)) ++ ([(0 : UInt8)])).map encU8), by kernel_rfl, FrzIs.same (allP_encU8 _)⟩, trivial⟩ ·) ?_
         refine dv (At.z 4 ·) ?_
         refine dv (AW.q 2 ·) ?_
         refine dv (AW.ret ·) ?_
         refine dv (⟨_, Sub.refl _ _, ·⟩) ?_
         exact ⟨(sealP ((((unsealB (sealP ([(1 : UInt8)])) 0).1).set ((r4_.2.2).toNat) (u8Of r5_.2.2)) ++ ([(0 : UInt8)]))), (by exact Nat.le_trans (sealP_len _) (by decide)), KF.mk (.inr rfl) [(2580, 0)] [.ref 2580] (by kernel_rfl) (by kernel_rfl) (by kernel_rfl) (by kernel_rfl) (by kernel_rfl)⟩
       replace h30 := Bool.eq_false_iff.2 h30
       refine dv (AW.condF (r6_.2.2) (by kernel_rfl) h30 ·) ?_
       refine dv (AW.skip ·) ?_
       refine dv (AW.seq ·) ?_
       refine dv (AW.r ·) ?_
       refine dv (At.a 1 ·) ?_
       refine Exists.elim (spec_l1Once_spec  (⟨code, r6_.1, r6_.2.1⟩ : Cur) 4 (by dsimp only; omega)) fun r7_ hr7_ => ?_
       have qr7_ := hr7_.1
       try dsimp only at qr7_
       refine dv (At.c (hr7_.2) Try.call61 true [(1200, 0)] [] [] trivial ·) ?_
       refine dv (At.done rfl ·) ?_
       by_cases h32 : r7_.2.2 = true
       · refine dv (AW.condT (r7_.2.2) (by kernel_rfl) h32 ·) ?_
         refine dv (AW.g ·) ?_
         refine dv (At.a 4 ·) ?_
         refine dv (At.sL 73 encU8 (((unsealB (sealP ([(1 : UInt8)])) 0).1).set ((r4_.2.2).toNat) (u8Of r5_.2.2)) ·) ?_
         refine dv (At.a 1 ·) ?_
         refine dv (At.sI 74 (((((unsealB (sealP ([(1 : UInt8)])) 0).1).set ((r4_.2.2).toNat) (u8Of r5_.2.2)).length : Int) + 1) (by simp only [List.length_append, List.length_set, List.length_cons, List.length_nil]; omega) ·) ?_
         refine Exists.elim (spec_l1Below_spec  (⟨code, r7_.1, r7_.2.1⟩ : Cur) (((((unsealB (sealP ([(1 : UInt8)])) 0).1).set ((r4_.2.2).toNat) (u8Of r5_.2.2)).length : Int) + 1) (by dsimp only; omega)) fun r8_ hr8_ => ?_
         have qr8_ := hr8_.1
         try dsimp only at qr8_
         refine dv (At.c (hr8_.2) Try.call58 true [(1200, 0)] [] [] trivial ·) ?_
         refine dv (At.cutRef (t := 28) (d := 76) (e := 5) (es := 1) (i := 1840) (x := .tmp 70) (lx := none) (hx := some (.tmp 75)) (xs := ((((unsealB (sealP ([(1 : UInt8)])) 0).1).set ((r4_.2.2).toNat) (u8Of r5_.2.2)).map encU8)) (vl := .un) (vh := .int .i64 r8_.2.2) 176 ((r8_.2.2).toNat) (((((unsealB (sealP ([(1 : UInt8)])) 0).1).set ((r4_.2.2).toNat) (u8Of r5_.2.2)).take ((r8_.2.2).toNat)).map encU8) (by kernel_rfl) (by kernel_rfl) (by kernel_rfl) (by kernel_rfl) (by kernel_rfl) (by kernel_rfl) (by decide) (.inl ⟨rfl, rfl⟩) (.inr ⟨_, _, rfl, sayNat (by omega)⟩) (by simp only [List.length_map]; omega) (by rw [List.map_take]) ·) ?_
         refine dv (At.z 1 ·) ?_
         refine dv (AW.g ·) ?_
         refine dv (At.a 1 ·) ?_
         refine dv (At.c (spec_Seal_spec  ((((unsealB (sealP ([(1 : UInt8)])) 0).1).set ((r4_.2.2).toNat) (u8Of r5_.2.2)).take ((r8_.2.2).toNat)) (by simp only [List.length_append, List.length_set, List.length_take, List.length_cons, List.length_nil]; omega)) Try.call32 false [] [(2580, 0)] [(176, 1, (((((unsealB (sealP ([(1 : UInt8)])) 0).1).set ((r4_.2.2).toNat) (u8Of r5_.2.2)).take ((r8_.2.2).toNat)).map encU8))] ⟨rfl, ⟨5, (((((unsealB (sealP ([(1 : UInt8)])) 0).1).set ((r4_.2.2).toNat) (u8Of r5_.2.2)).take ((r8_.2.2).toNat)).map encU8), by kernel_rfl, FrzIs.same (allP_encU8 _)⟩, trivial⟩ ·) ?_
         refine dv (At.z 4 ·) ?_
         refine dv (AW.q 2 ·) ?_
         refine dv (AW.ret ·) ?_
         refine dv (⟨_, Sub.refl _ _, ·⟩) ?_
         exact ⟨(sealP ((((unsealB (sealP ([(1 : UInt8)])) 0).1).set ((r4_.2.2).toNat) (u8Of r5_.2.2)).take ((r8_.2.2).toNat))), (by exact Nat.le_trans (sealP_len _) (by decide)), KF.mk (.inr rfl) [(2580, 0)] [.ref 2580] (by kernel_rfl) (by kernel_rfl) (by kernel_rfl) (by kernel_rfl) (by kernel_rfl)⟩
       replace h32 := Bool.eq_false_iff.2 h32
       refine dv (AW.condF (r7_.2.2) (by kernel_rfl) h32 ·) ?_
       refine dv (AW.skip ·) ?_
       refine dv (AW.g ·) ?_
       refine dv (At.a 1 ·) ?_
       refine dv (At.c (spec_Seal_spec  (((unsealB (sealP ([(1 : UInt8)])) 0).1).set ((r4_.2.2).toNat) (u8Of r5_.2.2)) (by simp only [List.length_append, List.length_set, List.length_take, List.length_cons, List.length_nil]; omega)) Try.call32 false [] [(2580, 0)] [(1840, 1, ((((unsealB (sealP ([(1 : UInt8)])) 0).1).set ((r4_.2.2).toNat) (u8Of r5_.2.2)).map encU8))] ⟨rfl, ⟨5, ((((unsealB (sealP ([(1 : UInt8)])) 0).1).set ((r4_.2.2).toNat) (u8Of r5_.2.2)).map encU8), by kernel_rfl, FrzIs.same (allP_encU8 _)⟩, trivial⟩ ·) ?_
       refine dv (At.z 4 ·) ?_
       refine dv (AW.q 2 ·) ?_
       refine dv (AW.ret ·) ?_
       refine dv (⟨_, Sub.refl _ _, ·⟩) ?_
       exact ⟨(sealP (((unsealB (sealP ([(1 : UInt8)])) 0).1).set ((r4_.2.2).toNat) (u8Of r5_.2.2))), (by exact Nat.le_trans (sealP_len _) (by decide)), KF.mk (.inr rfl) [(2580, 0)] [.ref 2580] (by kernel_rfl) (by kernel_rfl) (by kernel_rfl) (by kernel_rfl) (by kernel_rfl)⟩
     refine dv (AW.condF (decide ((((unsealB (sealP ([(1 : UInt8)])) 0).1).length : Int) > 0)) (by kernel_rfl) (decide_eq_false h29) ·) ?_
     refine dv (AW.skip ·) ?_
     refine dv (AW.q 2 ·) ?_
     refine dv (AW.ret ·) ?_
     refine dv (⟨_, Sub.refl _ _, ·⟩) ?_
     exact ⟨(sealP ([(1 : UInt8)])), (by exact Nat.le_trans (sealP_len _) (by decide)), KF.mk (.inr rfl) [(1420, 0)] [.ref 1420] (by kernel_rfl) (by kernel_rfl) (by kernel_rfl) (by kernel_rfl) (by kernel_rfl)⟩
   refine dv (At.sB 48 _ _ (sayEF h28) ·) ?_
   refine dv (At.z 4 ·) ?_
   refine dv (fun h_ => AW.cond false (by kernel_rfl) (fun h => by cases h) (fun _ => h_)) ?_
   refine dv (AW.skip ·) ?_
   refine dv (AW.q 2 ·) ?_
   refine dv (AW.ret ·) ?_
   refine dv (⟨_, Sub.refl _ _, ·⟩) ?_
   exact ⟨(sealP ([(1 : UInt8)])), (by exact Nat.le_trans (sealP_len _) (by decide)), KF.mk (.inr rfl) [(1420, 0)] [.ref 1420] (by kernel_rfl) (by kernel_rfl) (by kernel_rfl) (by kernel_rfl) (by kernel_rfl)⟩
 refine dv (AW.condF (r3_.2.2 == 2) (by kernel_rfl) (beq_eq_false_iff_ne.2 h27) ·) ?_
 refine dv (AW.q 2 ·) ?_
 by_cases h33 : r3_.2.2 = 3
 · refine dv (AW.condT (r3_.2.2 == 3) (by kernel_rfl) (beq_iff_eq.2 h33) ·) ?_
   refine dv (AW.g ·) ?_
   refine dv (At.a 1 ·) ?_
   refine dv (At.ll 85 5 1 185 (56, 6) (([(0 : UInt8)]).map encU8) ·) ?_
   refine dv (At.apK 86 5 1 1 186 1420 185 encU8 (sealP ([(1 : UInt8)])) ([(0 : UInt8)]) (by simp only [List.length_map, List.length_append, List.length_take, List.length_drop, List.length_replicate, List.length_set, List.length_cons, List.length_nil]; omega) ·) ?_
   refine dv (At.z 1 ·) ?_
   refine dv (AW.q 2 ·) ?_
   refine dv (AW.ret ·) ?_
   refine dv (⟨_, Sub.refl _ _, ·⟩) ?_
   exact ⟨((sealP ([(1 : UInt8)])) ++ ([(0 : UInt8)])), (by (try dsimp only); (try simp only [List.length_append, List.length_set, List.length_cons, List.length_nil]); omega), KF.mk (.inr rfl) [(186, 0)] [.ref 186] (by kernel_rfl) (by kernel_rfl) (by kernel_rfl) (by kernel_rfl) (by kernel_rfl)⟩
 refine dv (AW.condF (r3_.2.2 == 3) (by kernel_rfl) (beq_eq_false_iff_ne.2 h33) ·) ?_
 refine dv (AW.skip ·) ?_
 refine dv (AW.q 2 ·) ?_
 refine dv (AW.ret ·) ?_
 refine dv (⟨_, Sub.refl _ _, ·⟩) ?_
 exact ⟨(sealP ([(1 : UInt8)])), (by exact Nat.le_trans (sealP_len _) (by decide)), KF.mk (.inr rfl) [(1420, 0)] [.ref 1420] (by kernel_rfl) (by kernel_rfl) (by kernel_rfl) (by kernel_rfl) (by kernel_rfl)⟩
def K_spec_GetText (rs : List ResultVar) (b : List UInt8) (at_ : Int) (w0_ : ByteArray) (w1_ : Int) (w2_ : Bool) : Exit → Sg → Prop := KF Try.prog 0 rs (.tup [.str w0_, .int .i64 w1_, .bool w2_]) []
theorem spec_GetText_spec  (b : List UInt8) (at_ : Int) (hb : b.length ≤ 1048576) (ha : 0 ≤ at_ ∧ at_ ≤ 2097152) : FnSpec Try.prog 73 [.sl false 1 (b.map encU8), .int .i64 at_] [] (.tup [.str ((textS b at_).1), .int .i64 ((textS b at_).2.1), .bool ((textS b at_).2.2)]) [] := by
 have hgn := getN_num b (at_ := at_)
 have hx1 : ((getN b at_).2.1 + (getN b at_).1).toNat - (getN b at_).2.1.toNat = (getN b at_).1.toNat := by omega
 have hx2 : ((getN b at_).2.1 + (getN b at_).1 + 4).toNat - ((getN b at_).2.1 + (getN b at_).1).toNat = 4 := by omega
 refine FnSpec.of 41 Try.func73 rfl Try.ntmps73 (by simp) (AW.weakK ?_)
 refine AW.q 3 ?_
 refine AW.r ?_
 refine At.a 2 ?_
 refine At.c (spec_GetNum_spec  b at_ hb (by omega)) Try.call22 true [] [] [] trivial ?_
 refine At.z 7 ?_
 refine AW.seq ?_
 refine AW.r ?_
 refine At.a 3 ?_
 by_cases h1 : ((getN b at_).2.2) = true
 · refine At.sB 19 (!((getN b at_).2.2)) false (sayNF (sayB h1)) ?_
   refine At.a 4 ?_
   by_cases h2 : ((getN b at_).1) > 3000
   · refine At.sB 23 _ _ (sayT h2) ?_
     refine At.z 7 ?_
     refine AW.cond true (by kernel_rfl) (fun _ => ?_) (fun h => by cases h)
     refine AW.q 3 ?_
     exact AW.ret (rf (k3 (K_spec_GetText _ b at_) (show ((⟨#[]⟩ : ByteArray)) = ((textS b at_).1) from by simp [textS, subB, h1, h2] <;> (rw [hx1])) (show (0) = ((textS b at_).2.1) from by simp [textS, subB, h1, h2] <;> (rw [hx1])) (show (false) = ((textS b at_).2.2) from by simp [textS, subB, h1, h2] <;> (rw [hx1])) (KF.n [])))
   refine At.sB 23 _ _ (sayF h2) ?_
   refine At.a 3 ?_
   refine At.sL 26 encU8 b ?_
   refine At.a 2 ?_
   refine At.sI 28 ((b.length : Int) - ((getN b at_).2.1)) (by omega) ?_
   refine At.z 2 ?_
   refine AW.cD (((getN b at_).1) > ((b.length : Int) - ((getN b at_).2.1))) (fun h3 => ?_) (fun h3 => ?_)
   · refine AW.q 3 ?_
     exact AW.ret (rf (k3 (K_spec_GetText _ b at_) (show ((⟨#[]⟩ : ByteArray)) = ((textS b at_).1) from by simp [textS, subB, h1, h2, h3] <;> (rw [hx1])) (show (0) = ((textS b at_).2.1) from by simp [textS, subB, h1, h2, h3] <;> (rw [hx1])) (show (false) = ((textS b at_).2.2) from by simp [textS, subB, h1, h2, h3] <;> (rw [hx1])) (KF.n [])))
   refine AW.skip ?_
   refine AW.r ?_
   refine At.a 5 ?_
   refine At.sI 35 (((getN b at_).2.1) + ((getN b at_).1)) (by omega) ?_
   refine At.sliceSl (t := 28) (d := 36) (e := 5) (es := 1) (x := .tmp 31) (lx := some (.tmp 32)) (hx := some (.tmp 35)) (p := false) (xs := (b.map encU8)) (vl := .int .i64 ((getN b at_).2.1)) (vh := .int .i64 (((getN b at_).2.1) + ((getN b at_).1))) (((getN b at_).2.1).toNat) ((((getN b at_).2.1) + ((getN b at_).1)).toNat) (((b.drop (((getN b at_).2.1).toNat)).take (((((getN b at_).2.1) + ((getN b at_).1)).toNat) - (((getN b at_).2.1).toNat))).map encU8) (by kernel_rfl) (by kernel_rfl) (by kernel_rfl) (by kernel_rfl) (.inr ⟨_, _, rfl, sayNat (by omega)⟩) (.inr ⟨_, _, rfl, sayNat (by omega)⟩) (by omega) (by simp only [List.length_map]; omega) (by simp [List.map_take, List.map_drop]) ?_
   refine At.b2s (s := 28) (t := 9) (e := 5) (d := 37) (x := .tmp 36) (T := .sl false 1 (((b.drop (((getN b at_).2.1).toNat)).take (((((getN b at_).2.1) + ((getN b at_).1)).toNat) - (((getN b at_).2.1).toNat))).map encU8)) ((b.drop (((getN b at_).2.1).toNat)).take (((((getN b at_).2.1) + ((getN b at_).1)).toNat) - (((getN b at_).2.1).toNat))) [] (by kernel_rfl) (by kernel_rfl) (by kernel_rfl) (by kernel_rfl) ⟨rfl, rfl, (allP_encU8 _), rfl⟩ ?_
   refine At.a 3 ?_
   refine At.sI 40 (((getN b at_).2.1) + ((getN b at_).1)) (by omega) ?_
   refine At.z 3 ?_
   exact AW.ret (rf (k3 (K_spec_GetText _ b at_) (show (strOf ((b.drop (((getN b at_).2.1).toNat)).take (((((getN b at_).2.1) + ((getN b at_).1)).toNat) - (((getN b at_).2.1).toNat)))) = ((textS b at_).1) from by simp [textS, subB, h1, h2, h3] <;> (rw [hx1])) (show (((getN b at_).2.1) + ((getN b at_).1)) = ((textS b at_).2.1) from by simp [textS, subB, h1, h2, h3] <;> (rw [hx1])) (show (true) = ((textS b at_).2.2) from by simp [textS, subB, h1, h2, h3] <;> (rw [hx1])) (KF.n [])))
 refine At.sB 19 (!((getN b at_).2.2)) true (sayNT (sayB (Bool.eq_false_iff.2 h1))) ?_
 replace h1 := Bool.eq_false_iff.2 h1
 refine At.z 11 ?_
 refine AW.cond true (by kernel_rfl) (fun _ => ?_) (fun h => by cases h)
 refine AW.q 3 ?_
 exact AW.ret (rf (k3 (K_spec_GetText _ b at_) (show ((⟨#[]⟩ : ByteArray)) = ((textS b at_).1) from by simp [textS, subB, h1] <;> (rw [hx1])) (show (0) = ((textS b at_).2.1) from by simp [textS, subB, h1] <;> (rw [hx1])) (show (false) = ((textS b at_).2.2) from by simp [textS, subB, h1] <;> (rw [hx1])) (KF.n [])))
def K_spec_CmdRead (rs : List ResultVar) (b : List UInt8) (at_ : Int) (w0_ : Cmd) (w1_ : Int) (w2_ : Bool) : Exit → Sg → Prop := KF Try.prog 0 rs (.tup [.agg [.int .i64 w0_.kind, .int .i64 w0_.release, .int .i64 w0_.node, .int .i64 w0_.size, .str w0_.digest], .int .i64 w1_, .bool w2_]) []
theorem spec_CmdRead_spec  (b : List UInt8) (at_ : Int) (hb : b.length ≤ 1048576) (ha : 0 ≤ at_ ∧ at_ ≤ 2097152) : FnSpec Try.prog 74 [.sl false 1 (b.map encU8), .int .i64 at_] [] (.tup [.agg [.int .i64 (((cmdS b at_).1).kind), .int .i64 (((cmdS b at_).1).release), .int .i64 (((cmdS b at_).1).node), .int .i64 (((cmdS b at_).1).size), .str (((cmdS b at_).1).digest)], .int .i64 ((cmdS b at_).2.1), .bool ((cmdS b at_).2.2)]) [] := by
 have hgn := getN_num b (at_ := at_)
 have hg2 := getN_num b (at_ := (getN b at_).2.1)
 have hg3 := getN_num b (at_ := (getN b (getN b at_).2.1).2.1)
 refine FnSpec.of 92 Try.func74 rfl Try.ntmps74 (by simp) (AW.weakK ?_)
 refine AW.q 3 ?_
 refine AW.q 3 ?_
 refine AW.r ?_
 refine At.a 2 ?_
 refine At.c (spec_GetNum_spec  b at_ hb (by omega)) Try.call22 true [] [] [] trivial ?_
 refine At.z 7 ?_
 refine AW.seq ?_
 refine AW.r ?_
 refine At.a 3 ?_
 by_cases h1 : ((getN b at_).2.2) = true
 · refine At.sB 21 (!((getN b at_).2.2)) false (sayNF (sayB h1)) ?_
   refine At.a 1 ?_
   refine At.c (spec_l1In_spec  ((getN b at_).1) 1 5 ) Try.call63 true [] [] [] trivial ?_
   refine At.z 2 ?_
   refine AW.cNB (inR ((getN b at_).1) 1 5) (fun h2 => ?_) (fun h2 => ?_)
   · refine AW.q 4 ?_
     exact AW.ret (rf (k3 (K_spec_CmdRead _ b at_) (show ((⟨0, 0, 0, 0, (⟨#[]⟩ : ByteArray)⟩ : Cmd)) = ((cmdS b at_).1) from by grind [cmdS, cmdS0, zCmd, subB]) (show (0) = ((cmdS b at_).2.1) from by grind [cmdS, cmdS0, zCmd, subB]) (show (false) = ((cmdS b at_).2.2) from by grind [cmdS, cmdS0, zCmd, subB]) (KF.n [])))
   have h2i := inR_iff.1 h2
   refine AW.skip ?_
   refine AW.q 4 ?_
   refine AW.seq ?_
   refine AW.q 2 ?_
   refine AW.cE ((getN b at_).1) (1 : Int) (fun h3 => ?_) (fun h3 => ?_)
   · refine AW.q 5 ?_
     exact AW.ret (rf (k3 (K_spec_CmdRead _ b at_) (show ((⟨(getN b at_).1, 0, 0, 0, (⟨#[]⟩ : ByteArray)⟩ : Cmd)) = ((cmdS b at_).1) from by grind [cmdS, cmdS0, zCmd, subB]) (show ((getN b at_).2.1) = ((cmdS b at_).2.1) from by grind [cmdS, cmdS0, zCmd, subB]) (show (true) = ((cmdS b at_).2.2) from by grind [cmdS, cmdS0, zCmd, subB]) (KF.n [])))
   refine AW.skip ?_
   refine AW.r ?_
   refine At.a 2 ?_
   refine At.c (spec_GetNum_spec  b ((getN b at_).2.1) hb (by omega)) Try.call22 true [] [] [] trivial ?_
   refine At.z 8 ?_
   refine AW.seq ?_
   refine AW.q 2 ?_
   refine AW.cNB ((getN b ((getN b at_).2.1)).2.2) (fun h4 => ?_) (fun h4 => ?_)
   · refine AW.q 4 ?_
     exact AW.ret (rf (k3 (K_spec_CmdRead _ b at_) (show ((⟨0, 0, 0, 0, (⟨#[]⟩ : ByteArray)⟩ : Cmd)) = ((cmdS b at_).1) from by grind [cmdS, cmdS0, zCmd, subB]) (show (0) = ((cmdS b at_).2.1) from by grind [cmdS, cmdS0, zCmd, subB]) (show (false) = ((cmdS b at_).2.2) from by grind [cmdS, cmdS0, zCmd, subB]) (KF.n [])))
   refine AW.skip ?_
   refine AW.seq ?_
   refine AW.q 1 ?_
   refine AW.block ?_
   refine AW.q 2 ?_
   refine AW.cE ((getN b at_).1) (3 : Int) (fun h5 => ?_) (fun h5 => ?_)
   · refine AW.g ?_
     refine At.a 2 ?_
     refine At.c (spec_GetNum_spec  b ((getN b ((getN b at_).2.1)).2.1) hb (by omega)) Try.call22 true [] [] [] trivial ?_
     refine At.z 8 ?_
     refine AW.seq ?_
     refine AW.r ?_
     refine At.a 3 ?_
     by_cases h6 : ((getN b ((getN b ((getN b at_).2.1)).2.1)).2.2) = true
     · refine At.sB 84 (!((getN b ((getN b ((getN b at_).2.1)).2.1)).2.2)) false (sayNF (sayB h6)) ?_
       refine At.a 1 ?_
       refine At.c (spec_CmdOk_spec  (⟨(getN b at_).1, (getN b ((getN b at_).2.1)).1, (getN b ((getN b ((getN b at_).2.1)).2.1)).1, 0, (⟨#[]⟩ : ByteArray)⟩ : Cmd) ) Try.call54 true [] [] [] trivial ?_
       refine At.z 2 ?_
       refine AW.cNB (cmdOk (⟨(getN b at_).1, (getN b ((getN b at_).2.1)).1, (getN b ((getN b ((getN b at_).2.1)).2.1)).1, 0, (⟨#[]⟩ : ByteArray)⟩ : Cmd)) (fun h7 => ?_) (fun h7 => ?_)
       · refine AW.q 4 ?_
         exact AW.ret (rf (k3 (K_spec_CmdRead _ b at_) (show ((⟨0, 0, 0, 0, (⟨#[]⟩ : ByteArray)⟩ : Cmd)) = ((cmdS b at_).1) from by grind [cmdS, cmdS0, zCmd, subB]) (show (0) = ((cmdS b at_).2.1) from by grind [cmdS, cmdS0, zCmd, subB]) (show (false) = ((cmdS b at_).2.2) from by grind [cmdS, cmdS0, zCmd, subB]) (KF.n [])))
       refine AW.skip ?_
       refine AW.q 5 ?_
       exact AW.ret (rf (k3 (K_spec_CmdRead _ b at_) (show ((⟨(getN b at_).1, (getN b ((getN b at_).2.1)).1, (getN b ((getN b ((getN b at_).2.1)).2.1)).1, 0, (⟨#[]⟩ : ByteArray)⟩ : Cmd)) = ((cmdS b at_).1) from by grind [cmdS, cmdS0, zCmd, subB]) (show ((getN b ((getN b ((getN b at_).2.1)).2.1)).2.1) = ((cmdS b at_).2.1) from by grind [cmdS, cmdS0, zCmd, subB]) (show (true) = ((cmdS b at_).2.2) from by grind [cmdS, cmdS0, zCmd, subB]) (KF.n [])))
     refine At.sB 84 (!((getN b ((getN b ((getN b at_).2.1)).2.1)).2.2)) true (sayNT (sayB (Bool.eq_false_iff.2 h6))) ?_
     replace h6 := Bool.eq_false_iff.2 h6
     refine At.z 4 ?_
     refine AW.cond true (by kernel_rfl) (fun _ => ?_) (fun h => by cases h)
     refine AW.q 4 ?_
     exact AW.ret (rf (k3 (K_spec_CmdRead _ b at_) (show ((⟨0, 0, 0, 0, (⟨#[]⟩ : ByteArray)⟩ : Cmd)) = ((cmdS b at_).1) from by grind [cmdS, cmdS0, zCmd, subB]) (show (0) = ((cmdS b at_).2.1) from by grind [cmdS, cmdS0, zCmd, subB]) (show (false) = ((cmdS b at_).2.2) from by grind [cmdS, cmdS0, zCmd, subB]) (KF.n [])))
   refine AW.q 2 ?_
   refine AW.cE ((getN b at_).1) (2 : Int) (fun h8 => ?_) (fun h8 => ?_)
   · refine AW.r ?_
     refine At.a 2 ?_
     refine At.c (spec_GetNum_spec  b ((getN b ((getN b at_).2.1)).2.1) hb (by omega)) Try.call22 true [] [] [] trivial ?_
     refine At.z 8 ?_
     refine AW.r ?_
     refine At.a 2 ?_
     by_cases h9 : ((getN b ((getN b ((getN b at_).2.1)).2.1)).2.2) = true
     · refine At.sB 66 ((getN b ((getN b ((getN b at_).2.1)).2.1)).2.2) true (sayB h9) ?_
       refine At.a 2 ?_
       refine At.sL 68 encU8 b ?_
       refine At.a 2 ?_
       refine At.sI 70 ((b.length : Int) - ((getN b ((getN b ((getN b at_).2.1)).2.1)).2.1)) (by omega) ?_
       refine At.z 2 ?_
       refine AW.cD (((b.length : Int) - ((getN b ((getN b ((getN b at_).2.1)).2.1)).2.1)) ≥ 32) (fun h10 => ?_) (fun h10 => ?_)
       · refine AW.r ?_
         refine At.a 4 ?_
         refine At.sI 76 (((getN b ((getN b ((getN b at_).2.1)).2.1)).2.1) + 32) (by omega) ?_
         refine At.sliceSl (t := 28) (d := 77) (e := 5) (es := 1) (x := .tmp 73) (lx := some (.tmp 74)) (hx := some (.tmp 76)) (p := false) (xs := (b.map encU8)) (vl := .int .i64 ((getN b ((getN b ((getN b at_).2.1)).2.1)).2.1)) (vh := .int .i64 (((getN b ((getN b ((getN b at_).2.1)).2.1)).2.1) + 32)) (((getN b ((getN b ((getN b at_).2.1)).2.1)).2.1).toNat) ((((getN b ((getN b ((getN b at_).2.1)).2.1)).2.1) + 32).toNat) (((b.drop (((getN b ((getN b ((getN b at_).2.1)).2.1)).2.1).toNat)).take (((((getN b ((getN b ((getN b at_).2.1)).2.1)).2.1) + 32).toNat) - (((getN b ((getN b ((getN b at_).2.1)).2.1)).2.1).toNat))).map encU8) (by kernel_rfl) (by kernel_rfl) (by kernel_rfl) (by kernel_rfl) (.inr ⟨_, _, rfl, sayNat (by omega)⟩) (.inr ⟨_, _, rfl, sayNat (by omega)⟩) (by omega) (by simp only [List.length_map]; omega) (by simp [List.map_take, List.map_drop]) ?_
         refine At.b2s (s := 28) (t := 9) (e := 5) (d := 78) (x := .tmp 77) (T := .sl false 1 (((b.drop (((getN b ((getN b ((getN b at_).2.1)).2.1)).2.1).toNat)).take (((((getN b ((getN b ((getN b at_).2.1)).2.1)).2.1) + 32).toNat) - (((getN b ((getN b ((getN b at_).2.1)).2.1)).2.1).toNat))).map encU8)) ((b.drop (((getN b ((getN b ((getN b at_).2.1)).2.1)).2.1).toNat)).take (((((getN b ((getN b ((getN b at_).2.1)).2.1)).2.1) + 32).toNat) - (((getN b ((getN b ((getN b at_).2.1)).2.1)).2.1).toNat))) [] (by kernel_rfl) (by kernel_rfl) (by kernel_rfl) (by kernel_rfl) ⟨rfl, rfl, (allP_encU8 _), rfl⟩ ?_
         refine At.z 2 ?_
         refine AW.g ?_
         refine At.a 2 ?_
         refine At.sI 81 (((getN b ((getN b ((getN b at_).2.1)).2.1)).2.1) + 32) (by omega) ?_
         refine At.z 1 ?_
         refine AW.seq ?_
         refine AW.r ?_
         refine At.a 3 ?_
         refine At.sB 84 (!((getN b ((getN b ((getN b at_).2.1)).2.1)).2.2)) false (sayNF (sayB h9)) ?_
         refine At.a 1 ?_
         refine At.c (spec_CmdOk_spec  (⟨(getN b at_).1, (getN b ((getN b at_).2.1)).1, 0, (getN b ((getN b ((getN b at_).2.1)).2.1)).1, strOf ((b.drop (((getN b ((getN b ((getN b at_).2.1)).2.1)).2.1).toNat)).take (((((getN b ((getN b ((getN b at_).2.1)).2.1)).2.1) + 32).toNat) - (((getN b ((getN b ((getN b at_).2.1)).2.1)).2.1).toNat)))⟩ : Cmd) ) Try.call54 true [] [] [] trivial ?_
         refine At.z 2 ?_
         refine AW.cNB (cmdOk (⟨(getN b at_).1, (getN b ((getN b at_).2.1)).1, 0, (getN b ((getN b ((getN b at_).2.1)).2.1)).1, strOf ((b.drop (((getN b ((getN b ((getN b at_).2.1)).2.1)).2.1).toNat)).take (((((getN b ((getN b ((getN b at_).2.1)).2.1)).2.1) + 32).toNat) - (((getN b ((getN b ((getN b at_).2.1)).2.1)).2.1).toNat)))⟩ : Cmd)) (fun h12 => ?_) (fun h12 => ?_)
         · refine AW.q 4 ?_
           exact AW.ret (rf (k3 (K_spec_CmdRead _ b at_) (show ((⟨0, 0, 0, 0, (⟨#[]⟩ : ByteArray)⟩ : Cmd)) = ((cmdS b at_).1) from by grind [cmdS, cmdS0, zCmd, subB]) (show (0) = ((cmdS b at_).2.1) from by grind [cmdS, cmdS0, zCmd, subB]) (show (false) = ((cmdS b at_).2.2) from by grind [cmdS, cmdS0, zCmd, subB]) (KF.n [])))
         refine AW.skip ?_
         refine AW.q 5 ?_
         exact AW.ret (rf (k3 (K_spec_CmdRead _ b at_) (show ((⟨(getN b at_).1, (getN b ((getN b at_).2.1)).1, 0, (getN b ((getN b ((getN b at_).2.1)).2.1)).1, strOf ((b.drop (((getN b ((getN b ((getN b at_).2.1)).2.1)).2.1).toNat)).take (((((getN b ((getN b ((getN b at_).2.1)).2.1)).2.1) + 32).toNat) - (((getN b ((getN b ((getN b at_).2.1)).2.1)).2.1).toNat)))⟩ : Cmd)) = ((cmdS b at_).1) from by grind [cmdS, cmdS0, zCmd, subB]) (show (((getN b ((getN b ((getN b at_).2.1)).2.1)).2.1) + 32) = ((cmdS b at_).2.1) from by grind [cmdS, cmdS0, zCmd, subB]) (show (true) = ((cmdS b at_).2.2) from by grind [cmdS, cmdS0, zCmd, subB]) (KF.n [])))
       refine AW.skip ?_
       refine AW.seq ?_
       refine AW.r ?_
       refine At.a 3 ?_
       refine At.sB 84 (!((getN b ((getN b ((getN b at_).2.1)).2.1)).2.2)) false (sayNF (sayB h9)) ?_
       refine At.a 1 ?_
       refine At.c (spec_CmdOk_spec  (⟨(getN b at_).1, (getN b ((getN b at_).2.1)).1, 0, (getN b ((getN b ((getN b at_).2.1)).2.1)).1, (⟨#[]⟩ : ByteArray)⟩ : Cmd) ) Try.call54 true [] [] [] trivial ?_
       refine At.z 2 ?_
       refine AW.cNB (cmdOk (⟨(getN b at_).1, (getN b ((getN b at_).2.1)).1, 0, (getN b ((getN b ((getN b at_).2.1)).2.1)).1, (⟨#[]⟩ : ByteArray)⟩ : Cmd)) (fun h14 => ?_) (fun h14 => ?_)
       · refine AW.q 4 ?_
         exact AW.ret (rf (k3 (K_spec_CmdRead _ b at_) (show ((⟨0, 0, 0, 0, (⟨#[]⟩ : ByteArray)⟩ : Cmd)) = ((cmdS b at_).1) from by grind [cmdS, cmdS0, zCmd, subB]) (show (0) = ((cmdS b at_).2.1) from by grind [cmdS, cmdS0, zCmd, subB]) (show (false) = ((cmdS b at_).2.2) from by grind [cmdS, cmdS0, zCmd, subB]) (KF.n [])))
       refine AW.skip ?_
       refine AW.q 5 ?_
       exact AW.ret (rf (k3 (K_spec_CmdRead _ b at_) (show ((⟨(getN b at_).1, (getN b ((getN b at_).2.1)).1, 0, (getN b ((getN b ((getN b at_).2.1)).2.1)).1, (⟨#[]⟩ : ByteArray)⟩ : Cmd)) = ((cmdS b at_).1) from by grind [cmdS, cmdS0, zCmd, subB]) (show ((getN b ((getN b ((getN b at_).2.1)).2.1)).2.1) = ((cmdS b at_).2.1) from by grind [cmdS, cmdS0, zCmd, subB]) (show (true) = ((cmdS b at_).2.2) from by grind [cmdS, cmdS0, zCmd, subB]) (KF.n [])))
     refine At.sB 66 ((getN b ((getN b ((getN b at_).2.1)).2.1)).2.2) false (sayB (Bool.eq_false_iff.2 h9)) ?_
     replace h9 := Bool.eq_false_iff.2 h9
     refine At.z 6 ?_
     refine AW.cond false (by kernel_rfl) (fun h => by cases h) (fun _ => ?_)
     refine AW.skip ?_
     refine AW.seq ?_
     refine AW.r ?_
     refine At.a 3 ?_
     refine At.sB 84 (!((getN b ((getN b ((getN b at_).2.1)).2.1)).2.2)) true (sayNT (sayB h9)) ?_
     refine At.z 4 ?_
     refine AW.cond true (by kernel_rfl) (fun _ => ?_) (fun h => by cases h)
     refine AW.q 4 ?_
     exact AW.ret (rf (k3 (K_spec_CmdRead _ b at_) (show ((⟨0, 0, 0, 0, (⟨#[]⟩ : ByteArray)⟩ : Cmd)) = ((cmdS b at_).1) from by grind [cmdS, cmdS0, zCmd, subB]) (show (0) = ((cmdS b at_).2.1) from by grind [cmdS, cmdS0, zCmd, subB]) (show (false) = ((cmdS b at_).2.2) from by grind [cmdS, cmdS0, zCmd, subB]) (KF.n [])))
   refine AW.skip ?_
   refine AW.seq ?_
   refine AW.r ?_
   refine At.a 3 ?_
   refine At.sB 84 (!((getN b ((getN b at_).2.1)).2.2)) false (sayNF (sayB h4)) ?_
   refine At.a 1 ?_
   refine At.c (spec_CmdOk_spec  (⟨(getN b at_).1, (getN b ((getN b at_).2.1)).1, 0, 0, (⟨#[]⟩ : ByteArray)⟩ : Cmd) ) Try.call54 true [] [] [] trivial ?_
   refine At.z 2 ?_
   refine AW.cNB (cmdOk (⟨(getN b at_).1, (getN b ((getN b at_).2.1)).1, 0, 0, (⟨#[]⟩ : ByteArray)⟩ : Cmd)) (fun h17 => ?_) (fun h17 => ?_)
   · refine AW.q 4 ?_
     exact AW.ret (rf (k3 (K_spec_CmdRead _ b at_) (show ((⟨0, 0, 0, 0, (⟨#[]⟩ : ByteArray)⟩ : Cmd)) = ((cmdS b at_).1) from by grind [cmdS, cmdS0, zCmd, subB]) (show (0) = ((cmdS b at_).2.1) from by grind [cmdS, cmdS0, zCmd, subB]) (show (false) = ((cmdS b at_).2.2) from by grind [cmdS, cmdS0, zCmd, subB]) (KF.n [])))
   refine AW.skip ?_
   refine AW.q 5 ?_
   exact AW.ret (rf (k3 (K_spec_CmdRead _ b at_) (show ((⟨(getN b at_).1, (getN b ((getN b at_).2.1)).1, 0, 0, (⟨#[]⟩ : ByteArray)⟩ : Cmd)) = ((cmdS b at_).1) from by grind [cmdS, cmdS0, zCmd, subB]) (show ((getN b ((getN b at_).2.1)).2.1) = ((cmdS b at_).2.1) from by grind [cmdS, cmdS0, zCmd, subB]) (show (true) = ((cmdS b at_).2.2) from by grind [cmdS, cmdS0, zCmd, subB]) (KF.n [])))
 refine At.sB 21 (!((getN b at_).2.2)) true (sayNT (sayB (Bool.eq_false_iff.2 h1))) ?_
 replace h1 := Bool.eq_false_iff.2 h1
 refine At.z 4 ?_
 refine AW.cond true (by kernel_rfl) (fun _ => ?_) (fun h => by cases h)
 refine AW.q 4 ?_
 exact AW.ret (rf (k3 (K_spec_CmdRead _ b at_) (show ((⟨0, 0, 0, 0, (⟨#[]⟩ : ByteArray)⟩ : Cmd)) = ((cmdS b at_).1) from by grind [cmdS, cmdS0, zCmd, subB]) (show (0) = ((cmdS b at_).2.1) from by grind [cmdS, cmdS0, zCmd, subB]) (show (false) = ((cmdS b at_).2.2) from by grind [cmdS, cmdS0, zCmd, subB]) (KF.n [])))
def K_spec_l8Entries (rs : List ResultVar) (b : List UInt8) (at_ : Int) (w0_ : List Ent) (w1_ : Int) (w2_ : Bool) : Exit → Sg → Prop := KF Try.prog 0 rs (.tup [.ref 0, .int .i64 w1_, .bool w2_]) [.arr 56 6 (w0_.map encEnt)]
theorem spec_l8Entries_spec  (b : List UInt8) (at_ : Int) (hb : b.length ≤ 1048576) (ha : 0 ≤ at_ ∧ at_ ≤ 2097152) : FnSpec Try.prog 75 [.sl false 1 (b.map encU8), .int .i64 at_] [] (.tup [.ref 0, .int .i64 ((entsS b at_).2.1), .bool ((entsS b at_).2.2)]) [.arr 56 6 (((entsS b at_).1).map encEnt)] := by
 have hgn := getN_num b (at_ := at_)
 refine FnSpec.of 66 Try.func75 rfl Try.ntmps75 (by simp) (AW.weakK ?_)
 refine AW.q 3 ?_
 refine AW.r ?_
 refine At.lit0 (t := 32) (d := 17) (e := 56) (es := 6) (bytes := 56) 117 (by kernel_rfl) (by kernel_rfl) (by kernel_rfl) (by kernel_rfl) ?_
 refine At.z 1 ?_
 refine AW.r ?_
 refine At.a 2 ?_
 refine At.c (spec_GetNum_spec  b at_ hb (by omega)) Try.call22 true [] [] [] trivial ?_
 refine At.z 7 ?_
 refine AW.seq ?_
 refine AW.r ?_
 refine At.a 3 ?_
 by_cases h1 : ((getN b at_).2.2) = true
 · refine At.sB 27 (!((getN b at_).2.2)) false (sayNF (sayB h1)) ?_
   refine At.z 3 ?_
   refine AW.cD (((getN b at_).1) > 6) (fun h2 => ?_) (fun h2 => ?_)
   · refine AW.q 4 ?_
     exact AW.ret (rf (k3 (K_spec_l8Entries _ b at_) (show ([]) = ((entsS b at_).1) from by rw [entsS_big (by assumption)]) (show (0) = ((entsS b at_).2.1) from by rw [entsS_big (by assumption)]) (show (false) = ((entsS b at_).2.2) from by rw [entsS_big (by assumption)]) (KF.n [(117, 0)])))
   refine AW.skip ?_
   refine AW.seq ?_
   refine AW.q 1 ?_
   refine AW.block ?_
   refine AW.loopW (fun (x : Nat × Int × List Ent) => match x with | (k, a, l) => Go.Sy.mk [.sl false 1 (b.map encU8), .int .i64 a, .un, .un, .un, .un, .un, .ref 117, .int .i64 ((getN b at_).1), .un, .int .i64 (k : Int)] [(117, .arr 56 6 (l.map encEnt))]) (fun (x : Nat × Int × List Ent) => match x with | (k, a, l) => (k : Int) ≤ (getN b at_).1 ∧ l.length = k ∧ (0 ≤ a ∧ a ≤ b.length) ∧ entsS b at_ = entsSGo b ((getN b at_).1.toNat - k) a l) (fun (x : Nat × Int × List Ent) => match x with | (k, a, l) => 7 - k) (0, (getN b at_).2.1, []) ⟨by omega, rfl, by omega, entsS_yes (by assumption) (by assumption)⟩ (Sub.o [(117, 117)] [true, true, false, false, false, false, false, true, true, false, true]) ?_
   rintro ⟨k, a, l⟩ ⟨hk, hl, ha2, hR⟩
   have hga := getN_num b (at_ := a)
   have hca := cmdS_in b (a := (getN b a).2.1)
   refine AW.seq ?_
   refine AW.q 3 ?_
   refine AW.cD ((k : Int) < ((getN b at_).1)) (fun h3 => ?_) (fun h3 => ?_)
   · refine AW.skip ?_
     refine AW.seq ?_
     refine AW.block ?_
     refine AW.r ?_
     refine At.a 2 ?_
     refine At.c (spec_GetNum_spec  b a hb (by omega)) Try.call22 true [] [] [] trivial ?_
     refine At.z 7 ?_
     refine AW.seq ?_
     refine AW.q 2 ?_
     refine AW.cNB ((getN b a).2.2) (fun h4 => ?_) (fun h4 => ?_)
     · refine AW.q 4 ?_
       exact AW.ret (rf (k3 (K_spec_l8Entries _ b at_) (show (l) = ((entsS b at_).1) from by rw [hR, show (getN b at_).1.toNat - k = (getN b at_).1.toNat - (k + 1) + 1 by omega, entsSGo, if_pos (by assumption)]) (show (0) = ((entsS b at_).2.1) from by rw [hR, show (getN b at_).1.toNat - k = (getN b at_).1.toNat - (k + 1) + 1 by omega, entsSGo, if_pos (by assumption)]) (show (false) = ((entsS b at_).2.2) from by rw [hR, show (getN b at_).1.toNat - k = (getN b at_).1.toNat - (k + 1) + 1 by omega, entsSGo, if_pos (by assumption)]) (KF.n [(117, 0)])))
     refine AW.skip ?_
     refine AW.r ?_
     refine At.a 2 ?_
     refine At.c (spec_CmdRead_spec  b ((getN b a).2.1) hb (by omega)) Try.call74 true [] [] [] trivial ?_
     refine At.z 8 ?_
     refine AW.seq ?_
     refine AW.q 2 ?_
     refine AW.cNB ((cmdS b ((getN b a).2.1)).2.2) (fun h5 => ?_) (fun h5 => ?_)
     · refine AW.q 4 ?_
       exact AW.ret (rf (k3 (K_spec_l8Entries _ b at_) (show (l) = ((entsS b at_).1) from by rw [hR, show (getN b at_).1.toNat - k = (getN b at_).1.toNat - (k + 1) + 1 by omega, entsSGo, if_neg (by simp [*]), if_pos (by assumption)]) (show (0) = ((entsS b at_).2.1) from by rw [hR, show (getN b at_).1.toNat - k = (getN b at_).1.toNat - (k + 1) + 1 by omega, entsSGo, if_neg (by simp [*]), if_pos (by assumption)]) (show (false) = ((entsS b at_).2.2) from by rw [hR, show (getN b at_).1.toNat - k = (getN b at_).1.toNat - (k + 1) + 1 by omega, entsSGo, if_neg (by simp [*]), if_pos (by assumption)]) (KF.n [(117, 0)])))
     refine AW.skip ?_
     refine AW.r ?_
     refine At.a 4 ?_
     refine At.ll 61 56 6 161 (56, 6) (([(⟨(getN b a).1, ((cmdS b ((getN b a).2.1)).1)⟩ : Ent)]).map encEnt) ?_
     refine At.apK 62 56 6 56 162 117 161 encEnt l ([(⟨(getN b a).1, ((cmdS b ((getN b a).2.1)).1)⟩ : Ent)]) (by simp only [List.length_map, List.length_append, List.length_take, List.length_drop, List.length_replicate, List.length_set, List.length_cons, List.length_nil]; omega) ?_
     refine At.z 1 ?_
     refine AW.gq 2 ?_
     refine AW.g ?_
     refine At.a 2 ?_
     refine At.sI 36 ((k : Int) + 1) (by omega) ?_
     refine At.z 1 ?_
     exact ⟨(k + 1, ((cmdS b ((getN b a).2.1)).2.1), (l ++ ([(⟨(getN b a).1, ((cmdS b ((getN b a).2.1)).1)⟩ : Ent)]))), ⟨by omega, by simp [hl], by omega, by rw [hR, show (getN b at_).1.toNat - k = (getN b at_).1.toNat - (k + 1) + 1 by omega, entsSGo, if_neg (by simp [*]), if_neg (by simp [*])]⟩, (by simp only; omega), Sub.o [(162, 117)] [true, true, false, false, false, false, false, true, true, false, true]⟩
   refine AW.exit ?_
   refine AW.q 5 ?_
   exact AW.ret (rf (k3 (K_spec_l8Entries _ b at_) (show (l) = ((entsS b at_).1) from by rw [hR, show (getN b at_).1.toNat - k = 0 by omega]; rfl) (show (a) = ((entsS b at_).2.1) from by rw [hR, show (getN b at_).1.toNat - k = 0 by omega]; rfl) (show (true) = ((entsS b at_).2.2) from by rw [hR, show (getN b at_).1.toNat - k = 0 by omega]; rfl) (KF.n [(117, 0)])))
 refine At.sB 27 (!((getN b at_).2.2)) true (sayNT (sayB (Bool.eq_false_iff.2 h1))) ?_
 replace h1 := Bool.eq_false_iff.2 h1
 refine At.z 3 ?_
 refine AW.cond true (by kernel_rfl) (fun _ => ?_) (fun h => by cases h)
 refine AW.q 4 ?_
 exact AW.ret (rf (k3 (K_spec_l8Entries _ b at_) (show ([]) = ((entsS b at_).1) from by rw [entsS_no (by assumption)]) (show (0) = ((entsS b at_).2.1) from by rw [entsS_no (by assumption)]) (show (false) = ((entsS b at_).2.2) from by rw [entsS_no (by assumption)]) (KF.n [(117, 0)])))
def K_spec_l8Field (rs : List ResultVar) (m : Msg) (what : UInt8) (b : List UInt8) (at_ : Int) (w0_ : Msg) (w1_ : Int) (w2_ : Bool) : Exit → Sg → Prop := KF Try.prog 1 rs (.tup [.agg [.int .i64 w0_.kind, .int .i64 w0_.from_, .int .i64 w0_.term, .int .i64 w0_.at_, .int .i64 w0_.atTerm, .int .i64 w0_.commit, .bool w0_.yes, .int .i64 w0_.release, .int .i64 w0_.part, .str w0_.bytes, .int .i64 w0_.cmd.kind, .int .i64 w0_.cmd.release, .int .i64 w0_.cmd.node, .int .i64 w0_.cmd.size, .str w0_.cmd.digest, .ref 1], .int .i64 w1_, .bool w2_]) [.dead, .arr 56 6 (w0_.entries.map encEnt)]
theorem spec_l8Field_spec  (m : Msg) (what : UInt8) (b : List UInt8) (at_ : Int) (hb : b.length ≤ 1048576) (ha : 0 ≤ at_ ∧ at_ ≤ 2097152) : FnSpec Try.prog 44 [.agg [.int .i64 m.kind, .int .i64 m.from_, .int .i64 m.term, .int .i64 m.at_, .int .i64 m.atTerm, .int .i64 m.commit, .bool m.yes, .int .i64 m.release, .int .i64 m.part, .str m.bytes, .int .i64 m.cmd.kind, .int .i64 m.cmd.release, .int .i64 m.cmd.node, .int .i64 m.cmd.size, .str m.cmd.digest, .ref 0], .int .u8 (what.toNat : Int), .sl false 1 (b.map encU8), .int .i64 at_] [.arr 56 6 (m.entries.map encEnt)] (.tup [.agg [.int .i64 (((fieldS m what.toNat b at_).1).kind), .int .i64 (((fieldS m what.toNat b at_).1).from_), .int .i64 (((fieldS m what.toNat b at_).1).term), .int .i64 (((fieldS m what.toNat b at_).1).at_), .int .i64 (((fieldS m what.toNat b at_).1).atTerm), .int .i64 (((fieldS m what.toNat b at_).1).commit), .bool (((fieldS m what.toNat b at_).1).yes), .int .i64 (((fieldS m what.toNat b at_).1).release), .int .i64 (((fieldS m what.toNat b at_).1).part), .str (((fieldS m what.toNat b at_).1).bytes), .int .i64 (((fieldS m what.toNat b at_).1).cmd.kind), .int .i64 (((fieldS m what.toNat b at_).1).cmd.release), .int .i64 (((fieldS m what.toNat b at_).1).cmd.node), .int .i64 (((fieldS m what.toNat b at_).1).cmd.size), .str (((fieldS m what.toNat b at_).1).cmd.digest), .ref 1], .int .i64 ((fieldS m what.toNat b at_).2.1), .bool ((fieldS m what.toNat b at_).2.2)]) [.dead, .arr 56 6 ((((fieldS m what.toNat b at_).1).entries).map encEnt)] := by
 refine FnSpec.of 104 Try.func44 rfl Try.ntmps44 (by simp) (AW.weakK ?_)
 refine AW.q 4 ?_
 refine AW.seq ?_
 refine AW.weak (Sub.nils [⟨true, 108, some 15, 5001, 56, 6⟩] (by kernel_rfl)) ?_
 refine AW.gq 1 ?_
 refine AW.seq ?_
 refine AW.q 1 ?_
 refine AW.block ?_
 refine AW.q 2 ?_
 refine AW.cE (what.toNat : Int) (98 : Int) (fun h1 => ?_) (fun h1 => ?_)
 · refine AW.r ?_
   refine At.a 2 ?_
   refine At.c (spec_GetText_spec  b at_ hb (by omega)) Try.call73 true [] [] [] trivial ?_
   refine At.z 8 ?_
   refine AW.q 6 ?_
   refine AW.ret ?_
   refine ⟨_, (Sub.trans (Sub.refl _ _) (Sub.mv 0 8000 (by kernel_rfl) (by decide))), ?_⟩
   exact k3 (K_spec_l8Field _ m what b at_) (show ((⟨m.kind, m.from_, m.term, m.at_, m.atTerm, m.commit, m.yes, m.release, m.part, (textS b at_).1, m.cmd, m.entries⟩ : Msg)) = ((fieldS m what.toNat b at_).1) from by simp only [fieldS, h1, if_true, if_false, Int.reduceEq, reduceIte, Bool.and_true, Bool.and_false, Bool.true_and, Bool.false_and, decide_true, decide_false] <;> rfl) (show ((textS b at_).2.1) = ((fieldS m what.toNat b at_).2.1) from by simp only [fieldS, h1, if_true, if_false, Int.reduceEq, reduceIte, Bool.and_true, Bool.and_false, Bool.true_and, Bool.false_and, decide_true, decide_false] <;> rfl) (show ((textS b at_).2.2) = ((fieldS m what.toNat b at_).2.2) from by simp only [fieldS, h1, if_true, if_false, Int.reduceEq, reduceIte, Bool.and_true, Bool.and_false, Bool.true_and, Bool.false_and, decide_true, decide_false] <;> rfl) (KF.n [(0, 0), (8000, 1)])
 refine AW.q 2 ?_
 refine AW.cE (what.toNat : Int) (100 : Int) (fun h2 => ?_) (fun h2 => ?_)
 · refine AW.r ?_
   refine At.a 2 ?_
   refine At.c (spec_CmdRead_spec  b at_ hb (by omega)) Try.call74 true [] [] [] trivial ?_
   refine At.z 8 ?_
   refine AW.q 6 ?_
   refine AW.ret ?_
   refine ⟨_, (Sub.trans (Sub.refl _ _) (Sub.mv 0 8000 (by kernel_rfl) (by decide))), ?_⟩
   exact k3 (K_spec_l8Field _ m what b at_) (show ((⟨m.kind, m.from_, m.term, m.at_, m.atTerm, m.commit, m.yes, m.release, m.part, m.bytes, ((cmdS b at_).1), m.entries⟩ : Msg)) = ((fieldS m what.toNat b at_).1) from by simp only [fieldS, h1, h2, if_true, if_false, Int.reduceEq, reduceIte, Bool.and_true, Bool.and_false, Bool.true_and, Bool.false_and, decide_true, decide_false] <;> rfl) (show ((cmdS b at_).2.1) = ((fieldS m what.toNat b at_).2.1) from by simp only [fieldS, h1, h2, if_true, if_false, Int.reduceEq, reduceIte, Bool.and_true, Bool.and_false, Bool.true_and, Bool.false_and, decide_true, decide_false] <;> rfl) (show ((cmdS b at_).2.2) = ((fieldS m what.toNat b at_).2.2) from by simp only [fieldS, h1, h2, if_true, if_false, Int.reduceEq, reduceIte, Bool.and_true, Bool.and_false, Bool.true_and, Bool.false_and, decide_true, decide_false] <;> rfl) (KF.n [(0, 0), (8000, 1)])
 refine AW.q 2 ?_
 refine AW.cE (what.toNat : Int) (101 : Int) (fun h3 => ?_) (fun h3 => ?_)
 · refine AW.r ?_
   refine At.a 2 ?_
   refine At.c (spec_l8Entries_spec  b at_ hb (by omega)) Try.call75 true [] [(1940, 0)] [] trivial ?_
   refine At.z 8 ?_
   refine AW.q 6 ?_
   refine AW.ret ?_
   refine ⟨_, (Sub.trans (Sub.refl _ _) (Sub.mv 0 8000 (by kernel_rfl) (by decide))), ?_⟩
   exact k3 (K_spec_l8Field _ m what b at_) (show ((⟨m.kind, m.from_, m.term, m.at_, m.atTerm, m.commit, m.yes, m.release, m.part, m.bytes, m.cmd, (entsS b at_).1⟩ : Msg)) = ((fieldS m what.toNat b at_).1) from by simp only [fieldS, h1, h2, h3, if_true, if_false, Int.reduceEq, reduceIte, Bool.and_true, Bool.and_false, Bool.true_and, Bool.false_and, decide_true, decide_false] <;> rfl) (show ((entsS b at_).2.1) = ((fieldS m what.toNat b at_).2.1) from by simp only [fieldS, h1, h2, h3, if_true, if_false, Int.reduceEq, reduceIte, Bool.and_true, Bool.and_false, Bool.true_and, Bool.false_and, decide_true, decide_false] <;> rfl) (show ((entsS b at_).2.2) = ((fieldS m what.toNat b at_).2.2) from by simp only [fieldS, h1, h2, h3, if_true, if_false, Int.reduceEq, reduceIte, Bool.and_true, Bool.and_false, Bool.true_and, Bool.false_and, decide_true, decide_false] <;> rfl) (KF.n [(0, 0), (1940, 1)])
 refine AW.skip ?_
 refine AW.r ?_
 refine At.a 2 ?_
 refine At.c (spec_GetNum_spec  b at_ hb (by omega)) Try.call22 true [] [] [] trivial ?_
 refine At.z 7 ?_
 refine AW.seq ?_
 refine AW.q 1 ?_
 refine AW.block ?_
 refine AW.q 2 ?_
 refine AW.cE (what.toNat : Int) (102 : Int) (fun h4 => ?_) (fun h4 => ?_)
 · refine AW.gq 3 ?_
   refine AW.q 6 ?_
   refine AW.ret ?_
   refine ⟨_, (Sub.trans (Sub.refl _ _) (Sub.mv 0 8000 (by kernel_rfl) (by decide))), ?_⟩
   exact k3 (K_spec_l8Field _ m what b at_) (show ((⟨m.kind, (getN b at_).1, m.term, m.at_, m.atTerm, m.commit, m.yes, m.release, m.part, m.bytes, m.cmd, m.entries⟩ : Msg)) = ((fieldS m what.toNat b at_).1) from by simp only [fieldS, h1, h2, h3, h4, if_true, if_false, Int.reduceEq, reduceIte, Bool.and_true, Bool.and_false, Bool.true_and, Bool.false_and, decide_true, decide_false] <;> rfl) (show ((getN b at_).2.1) = ((fieldS m what.toNat b at_).2.1) from by simp only [fieldS, h1, h2, h3, h4, if_true, if_false, Int.reduceEq, reduceIte, Bool.and_true, Bool.and_false, Bool.true_and, Bool.false_and, decide_true, decide_false] <;> rfl) (show ((getN b at_).2.2) = ((fieldS m what.toNat b at_).2.2) from by simp only [fieldS, h1, h2, h3, h4, if_true, if_false, Int.reduceEq, reduceIte, Bool.and_true, Bool.and_false, Bool.true_and, Bool.false_and, decide_true, decide_false] <;> rfl) (KF.n [(0, 0), (8000, 1)])
 refine AW.q 2 ?_
 refine AW.cE (what.toNat : Int) (116 : Int) (fun h5 => ?_) (fun h5 => ?_)
 · refine AW.gq 3 ?_
   refine AW.q 6 ?_
   refine AW.ret ?_
   refine ⟨_, (Sub.trans (Sub.refl _ _) (Sub.mv 0 8000 (by kernel_rfl) (by decide))), ?_⟩
   exact k3 (K_spec_l8Field _ m what b at_) (show ((⟨m.kind, m.from_, (getN b at_).1, m.at_, m.atTerm, m.commit, m.yes, m.release, m.part, m.bytes, m.cmd, m.entries⟩ : Msg)) = ((fieldS m what.toNat b at_).1) from by simp only [fieldS, h1, h2, h3, h4, h5, if_true, if_false, Int.reduceEq, reduceIte, Bool.and_true, Bool.and_false, Bool.true_and, Bool.false_and, decide_true, decide_false] <;> rfl) (show ((getN b at_).2.1) = ((fieldS m what.toNat b at_).2.1) from by simp only [fieldS, h1, h2, h3, h4, h5, if_true, if_false, Int.reduceEq, reduceIte, Bool.and_true, Bool.and_false, Bool.true_and, Bool.false_and, decide_true, decide_false] <;> rfl) (show ((getN b at_).2.2) = ((fieldS m what.toNat b at_).2.2) from by simp only [fieldS, h1, h2, h3, h4, h5, if_true, if_false, Int.reduceEq, reduceIte, Bool.and_true, Bool.and_false, Bool.true_and, Bool.false_and, decide_true, decide_false] <;> rfl) (KF.n [(0, 0), (8000, 1)])
 refine AW.q 2 ?_
 refine AW.cE (what.toNat : Int) (97 : Int) (fun h6 => ?_) (fun h6 => ?_)
 · refine AW.gq 3 ?_
   refine AW.q 6 ?_
   refine AW.ret ?_
   refine ⟨_, (Sub.trans (Sub.refl _ _) (Sub.mv 0 8000 (by kernel_rfl) (by decide))), ?_⟩
   exact k3 (K_spec_l8Field _ m what b at_) (show ((⟨m.kind, m.from_, m.term, (getN b at_).1, m.atTerm, m.commit, m.yes, m.release, m.part, m.bytes, m.cmd, m.entries⟩ : Msg)) = ((fieldS m what.toNat b at_).1) from by simp only [fieldS, h1, h2, h3, h4, h5, h6, if_true, if_false, Int.reduceEq, reduceIte, Bool.and_true, Bool.and_false, Bool.true_and, Bool.false_and, decide_true, decide_false] <;> rfl) (show ((getN b at_).2.1) = ((fieldS m what.toNat b at_).2.1) from by simp only [fieldS, h1, h2, h3, h4, h5, h6, if_true, if_false, Int.reduceEq, reduceIte, Bool.and_true, Bool.and_false, Bool.true_and, Bool.false_and, decide_true, decide_false] <;> rfl) (show ((getN b at_).2.2) = ((fieldS m what.toNat b at_).2.2) from by simp only [fieldS, h1, h2, h3, h4, h5, h6, if_true, if_false, Int.reduceEq, reduceIte, Bool.and_true, Bool.and_false, Bool.true_and, Bool.false_and, decide_true, decide_false] <;> rfl) (KF.n [(0, 0), (8000, 1)])
 refine AW.q 2 ?_
 refine AW.cE (what.toNat : Int) (115 : Int) (fun h7 => ?_) (fun h7 => ?_)
 · refine AW.gq 3 ?_
   refine AW.q 6 ?_
   refine AW.ret ?_
   refine ⟨_, (Sub.trans (Sub.refl _ _) (Sub.mv 0 8000 (by kernel_rfl) (by decide))), ?_⟩
   exact k3 (K_spec_l8Field _ m what b at_) (show ((⟨m.kind, m.from_, m.term, m.at_, (getN b at_).1, m.commit, m.yes, m.release, m.part, m.bytes, m.cmd, m.entries⟩ : Msg)) = ((fieldS m what.toNat b at_).1) from by simp only [fieldS, h1, h2, h3, h4, h5, h6, h7, if_true, if_false, Int.reduceEq, reduceIte, Bool.and_true, Bool.and_false, Bool.true_and, Bool.false_and, decide_true, decide_false] <;> rfl) (show ((getN b at_).2.1) = ((fieldS m what.toNat b at_).2.1) from by simp only [fieldS, h1, h2, h3, h4, h5, h6, h7, if_true, if_false, Int.reduceEq, reduceIte, Bool.and_true, Bool.and_false, Bool.true_and, Bool.false_and, decide_true, decide_false] <;> rfl) (show ((getN b at_).2.2) = ((fieldS m what.toNat b at_).2.2) from by simp only [fieldS, h1, h2, h3, h4, h5, h6, h7, if_true, if_false, Int.reduceEq, reduceIte, Bool.and_true, Bool.and_false, Bool.true_and, Bool.false_and, decide_true, decide_false] <;> rfl) (KF.n [(0, 0), (8000, 1)])
 refine AW.q 2 ?_
 refine AW.cE (what.toNat : Int) (99 : Int) (fun h8 => ?_) (fun h8 => ?_)
 · refine AW.gq 3 ?_
   refine AW.q 6 ?_
   refine AW.ret ?_
   refine ⟨_, (Sub.trans (Sub.refl _ _) (Sub.mv 0 8000 (by kernel_rfl) (by decide))), ?_⟩
   exact k3 (K_spec_l8Field _ m what b at_) (show ((⟨m.kind, m.from_, m.term, m.at_, m.atTerm, (getN b at_).1, m.yes, m.release, m.part, m.bytes, m.cmd, m.entries⟩ : Msg)) = ((fieldS m what.toNat b at_).1) from by simp only [fieldS, h1, h2, h3, h4, h5, h6, h7, h8, if_true, if_false, Int.reduceEq, reduceIte, Bool.and_true, Bool.and_false, Bool.true_and, Bool.false_and, decide_true, decide_false] <;> rfl) (show ((getN b at_).2.1) = ((fieldS m what.toNat b at_).2.1) from by simp only [fieldS, h1, h2, h3, h4, h5, h6, h7, h8, if_true, if_false, Int.reduceEq, reduceIte, Bool.and_true, Bool.and_false, Bool.true_and, Bool.false_and, decide_true, decide_false] <;> rfl) (show ((getN b at_).2.2) = ((fieldS m what.toNat b at_).2.2) from by simp only [fieldS, h1, h2, h3, h4, h5, h6, h7, h8, if_true, if_false, Int.reduceEq, reduceIte, Bool.and_true, Bool.and_false, Bool.true_and, Bool.false_and, decide_true, decide_false] <;> rfl) (KF.n [(0, 0), (8000, 1)])
 refine AW.q 2 ?_
 refine AW.cE (what.toNat : Int) (114 : Int) (fun h9 => ?_) (fun h9 => ?_)
 · refine AW.gq 3 ?_
   refine AW.q 6 ?_
   refine AW.ret ?_
   refine ⟨_, (Sub.trans (Sub.refl _ _) (Sub.mv 0 8000 (by kernel_rfl) (by decide))), ?_⟩
   exact k3 (K_spec_l8Field _ m what b at_) (show ((⟨m.kind, m.from_, m.term, m.at_, m.atTerm, m.commit, m.yes, (getN b at_).1, m.part, m.bytes, m.cmd, m.entries⟩ : Msg)) = ((fieldS m what.toNat b at_).1) from by simp only [fieldS, h1, h2, h3, h4, h5, h6, h7, h8, h9, if_true, if_false, Int.reduceEq, reduceIte, Bool.and_true, Bool.and_false, Bool.true_and, Bool.false_and, decide_true, decide_false] <;> rfl) (show ((getN b at_).2.1) = ((fieldS m what.toNat b at_).2.1) from by simp only [fieldS, h1, h2, h3, h4, h5, h6, h7, h8, h9, if_true, if_false, Int.reduceEq, reduceIte, Bool.and_true, Bool.and_false, Bool.true_and, Bool.false_and, decide_true, decide_false] <;> rfl) (show ((getN b at_).2.2) = ((fieldS m what.toNat b at_).2.2) from by simp only [fieldS, h1, h2, h3, h4, h5, h6, h7, h8, h9, if_true, if_false, Int.reduceEq, reduceIte, Bool.and_true, Bool.and_false, Bool.true_and, Bool.false_and, decide_true, decide_false] <;> rfl) (KF.n [(0, 0), (8000, 1)])
 refine AW.q 2 ?_
 refine AW.cE (what.toNat : Int) (112 : Int) (fun h10 => ?_) (fun h10 => ?_)
 · refine AW.gq 3 ?_
   refine AW.q 6 ?_
   refine AW.ret ?_
   refine ⟨_, (Sub.trans (Sub.refl _ _) (Sub.mv 0 8000 (by kernel_rfl) (by decide))), ?_⟩
   exact k3 (K_spec_l8Field _ m what b at_) (show ((⟨m.kind, m.from_, m.term, m.at_, m.atTerm, m.commit, m.yes, m.release, (getN b at_).1, m.bytes, m.cmd, m.entries⟩ : Msg)) = ((fieldS m what.toNat b at_).1) from by simp only [fieldS, h1, h2, h3, h4, h5, h6, h7, h8, h9, h10, if_true, if_false, Int.reduceEq, reduceIte, Bool.and_true, Bool.and_false, Bool.true_and, Bool.false_and, decide_true, decide_false] <;> rfl) (show ((getN b at_).2.1) = ((fieldS m what.toNat b at_).2.1) from by simp only [fieldS, h1, h2, h3, h4, h5, h6, h7, h8, h9, h10, if_true, if_false, Int.reduceEq, reduceIte, Bool.and_true, Bool.and_false, Bool.true_and, Bool.false_and, decide_true, decide_false] <;> rfl) (show ((getN b at_).2.2) = ((fieldS m what.toNat b at_).2.2) from by simp only [fieldS, h1, h2, h3, h4, h5, h6, h7, h8, h9, h10, if_true, if_false, Int.reduceEq, reduceIte, Bool.and_true, Bool.and_false, Bool.true_and, Bool.false_and, decide_true, decide_false] <;> rfl) (KF.n [(0, 0), (8000, 1)])
 refine AW.q 2 ?_
 refine AW.cE (what.toNat : Int) (121 : Int) (fun h11 => ?_) (fun h11 => ?_)
 · refine AW.q 4 ?_
   refine AW.g ?_
   refine At.a 2 ?_
   by_cases h12 : ((getN b at_).2.2) = true
   · refine At.sB 97 ((getN b at_).2.2) true (sayB h12) ?_
     refine At.z 4 ?_
     refine AW.q 6 ?_
     refine AW.ret ?_
     refine ⟨_, (Sub.trans (Sub.refl _ _) (Sub.mv 0 8000 (by kernel_rfl) (by decide))), ?_⟩
     exact k3 (K_spec_l8Field _ m what b at_) (show ((⟨m.kind, m.from_, m.term, m.at_, m.atTerm, m.commit, ((getN b at_).1) == 1, m.release, m.part, m.bytes, m.cmd, m.entries⟩ : Msg)) = ((fieldS m what.toNat b at_).1) from by simp only [fieldS, h1, h2, h3, h4, h5, h6, h7, h8, h9, h10, h11, h12, if_true, if_false, Int.reduceEq, reduceIte, Bool.and_true, Bool.and_false, Bool.true_and, Bool.false_and, decide_true, decide_false] <;> rfl) (show ((getN b at_).2.1) = ((fieldS m what.toNat b at_).2.1) from by simp only [fieldS, h1, h2, h3, h4, h5, h6, h7, h8, h9, h10, h11, h12, if_true, if_false, Int.reduceEq, reduceIte, Bool.and_true, Bool.and_false, Bool.true_and, Bool.false_and, decide_true, decide_false] <;> rfl) (show (decide (((getN b at_).1) < 2)) = ((fieldS m what.toNat b at_).2.2) from by simp only [fieldS, h1, h2, h3, h4, h5, h6, h7, h8, h9, h10, h11, h12, if_true, if_false, Int.reduceEq, reduceIte, Bool.and_true, Bool.and_false, Bool.true_and, Bool.false_and, decide_true, decide_false] <;> rfl) (KF.n [(0, 0), (8000, 1)])
   refine At.sB 97 ((getN b at_).2.2) false (sayB (Bool.eq_false_iff.2 h12)) ?_
   replace h12 := Bool.eq_false_iff.2 h12
   refine At.z 4 ?_
   refine AW.q 6 ?_
   refine AW.ret ?_
   refine ⟨_, (Sub.trans (Sub.refl _ _) (Sub.mv 0 8000 (by kernel_rfl) (by decide))), ?_⟩
   exact k3 (K_spec_l8Field _ m what b at_) (show ((⟨m.kind, m.from_, m.term, m.at_, m.atTerm, m.commit, ((getN b at_).1) == 1, m.release, m.part, m.bytes, m.cmd, m.entries⟩ : Msg)) = ((fieldS m what.toNat b at_).1) from by simp only [fieldS, h1, h2, h3, h4, h5, h6, h7, h8, h9, h10, h11, h12, if_true, if_false, Int.reduceEq, reduceIte, Bool.and_true, Bool.and_false, Bool.true_and, Bool.false_and, decide_true, decide_false] <;> rfl) (show ((getN b at_).2.1) = ((fieldS m what.toNat b at_).2.1) from by simp only [fieldS, h1, h2, h3, h4, h5, h6, h7, h8, h9, h10, h11, h12, if_true, if_false, Int.reduceEq, reduceIte, Bool.and_true, Bool.and_false, Bool.true_and, Bool.false_and, decide_true, decide_false] <;> rfl) (show (false) = ((fieldS m what.toNat b at_).2.2) from by simp only [fieldS, h1, h2, h3, h4, h5, h6, h7, h8, h9, h10, h11, h12, if_true, if_false, Int.reduceEq, reduceIte, Bool.and_true, Bool.and_false, Bool.true_and, Bool.false_and, decide_true, decide_false] <;> rfl) (KF.n [(0, 0), (8000, 1)])
 refine AW.skip ?_
 refine AW.q 6 ?_
 refine AW.ret ?_
 refine ⟨_, (Sub.trans (Sub.refl _ _) (Sub.mv 0 8000 (by kernel_rfl) (by decide))), ?_⟩
 exact k3 (K_spec_l8Field _ m what b at_) (show (m) = ((fieldS m what.toNat b at_).1) from by simp only [fieldS, h1, h2, h3, h4, h5, h6, h7, h8, h9, h10, h11, if_true, if_false, Int.reduceEq, reduceIte, Bool.and_true, Bool.and_false, Bool.true_and, Bool.false_and, decide_true, decide_false] <;> rfl) (show ((getN b at_).2.1) = ((fieldS m what.toNat b at_).2.1) from by simp only [fieldS, h1, h2, h3, h4, h5, h6, h7, h8, h9, h10, h11, if_true, if_false, Int.reduceEq, reduceIte, Bool.and_true, Bool.and_false, Bool.true_and, Bool.false_and, decide_true, decide_false] <;> rfl) (show ((getN b at_).2.2) = ((fieldS m what.toNat b at_).2.2) from by simp only [fieldS, h1, h2, h3, h4, h5, h6, h7, h8, h9, h10, h11, if_true, if_false, Int.reduceEq, reduceIte, Bool.and_true, Bool.and_false, Bool.true_and, Bool.false_and, decide_true, decide_false] <;> rfl) (KF.n [(0, 0), (8000, 1)])
def K_spec_MsgRead (rs : List ResultVar) (b : List UInt8) (w0_ : Msg) (w1_ : Int) : Exit → Sg → Prop := KF Try.prog 0 rs (.tup [.agg [.int .i64 w0_.kind, .int .i64 w0_.from_, .int .i64 w0_.term, .int .i64 w0_.at_, .int .i64 w0_.atTerm, .int .i64 w0_.commit, .bool w0_.yes, .int .i64 w0_.release, .int .i64 w0_.part, .str w0_.bytes, .int .i64 w0_.cmd.kind, .int .i64 w0_.cmd.release, .int .i64 w0_.cmd.node, .int .i64 w0_.cmd.size, .str w0_.cmd.digest, .ref 0], .int .i64 w1_]) [.arr 56 6 (w0_.entries.map encEnt)]
theorem spec_MsgRead_spec  (b : List UInt8) (hb : b.length ≤ 1048576) : FnSpec Try.prog 15 [.sl false 1 (b.map encU8)] [] (.tup [.agg [.int .i64 (((msgR b).1).kind), .int .i64 (((msgR b).1).from_), .int .i64 (((msgR b).1).term), .int .i64 (((msgR b).1).at_), .int .i64 (((msgR b).1).atTerm), .int .i64 (((msgR b).1).commit), .bool (((msgR b).1).yes), .int .i64 (((msgR b).1).release), .int .i64 (((msgR b).1).part), .str (((msgR b).1).bytes), .int .i64 (((msgR b).1).cmd.kind), .int .i64 (((msgR b).1).cmd.release), .int .i64 (((msgR b).1).cmd.node), .int .i64 (((msgR b).1).cmd.size), .str (((msgR b).1).cmd.digest), .ref 0], .int .i64 ((msgR b).2)]) [.arr 56 6 ((((msgR b).1).entries).map encEnt)] := by
 have hul := unsealB_len b 0
 have hg0 := getN_num (unsealB b 0).1 (at_ := 0)
 have hf6 := l8F_six (getN (unsealB b 0).1 0).1
 refine FnSpec.of 82 Try.func15 rfl Try.ntmps15 (by simp) (AW.weakK ?_)
 refine AW.q 2 ?_
 refine AW.seq ?_
 refine AW.weak (Sub.nils [⟨true, 102, some 15, 5001, 56, 6⟩] (by kernel_rfl)) ?_
 refine AW.gq 3 ?_
 refine AW.seq ?_
 refine AW.weak (Sub.nils [⟨true, 104, some 15, 5002, 56, 6⟩] (by kernel_rfl)) ?_
 refine AW.g ?_
 refine At.a 1 ?_
 refine At.c (spec_Unseal_spec  b 0 hb (by omega)) Try.call43 true [] [(1400, 0)] [] trivial ?_
 refine At.z 7 ?_
 refine AW.seq ?_
 refine AW.r ?_
 refine At.a 3 ?_
 by_cases h1 : (unsealB b 0).2.2 = 0
 · refine At.sB 26 _ _ (sayUF h1) ?_
   refine At.a 3 ?_
   refine At.sL 29 encU8 b ?_
   refine At.z 2 ?_
   refine AW.cU ((unsealB b 0).2.1) (b.length : Int) (fun h2 => ?_) (fun h2 => ?_)
   · refine AW.q 3 ?_
     exact AW.ret (rf (k2 (K_spec_MsgRead _ b) (show ((⟨0, 0, 0, 0, 0, 0, false, 0, 0, (⟨#[]⟩ : ByteArray), ⟨0, 0, 0, 0, (⟨#[]⟩ : ByteArray)⟩, []⟩ : Msg)) = ((msgR b).1) from by rw [msgR_1 (by first | exact Or.inl (by assumption) | exact Or.inr (by first | assumption | (rw [← noBytes]; assumption)))]; first | done | rfl) (show (1) = ((msgR b).2) from by rw [msgR_1 (by first | exact Or.inl (by assumption) | exact Or.inr (by first | assumption | (rw [← noBytes]; assumption)))]; first | done | rfl) (KF.n [(5002, 0)])))
   refine AW.skip ?_
   refine AW.r ?_
   refine At.a 1 ?_
   refine At.c (spec_GetNum_spec  ((unsealB b 0).1) 0 (by omega) (by omega)) Try.call22 false [] [] [(1400, 1, (((unsealB b 0).1).map encU8))] ⟨rfl, ⟨5, (((unsealB b 0).1).map encU8), by kernel_rfl, FrzIs.same (allP_encU8 _)⟩, trivial⟩ ?_
   refine At.z 7 ?_
   refine AW.r ?_
   refine At.a 1 ?_
   refine At.c (spec_l8Has_spec  ((getN ((unsealB b 0).1) 0).1) ) Try.call28 true [] [] [] trivial ?_
   refine At.z 1 ?_
   refine AW.seq ?_
   refine AW.r ?_
   refine At.a 3 ?_
   by_cases h3 : ((getN ((unsealB b 0).1) 0).2.2) = true
   · refine At.sB 43 (!((getN ((unsealB b 0).1) 0).2.2)) false (sayNF (sayB h3)) ?_
     refine At.z 3 ?_
     refine AW.cE ((l8F ((getN ((unsealB b 0).1) 0).1)).toList) ((⟨#[]⟩ : ByteArray).toList) (fun h4 => ?_) (fun h4 => ?_)
     · refine AW.q 3 ?_
       exact AW.ret (rf (k2 (K_spec_MsgRead _ b) (show ((⟨0, 0, 0, 0, 0, 0, false, 0, 0, (⟨#[]⟩ : ByteArray), ⟨0, 0, 0, 0, (⟨#[]⟩ : ByteArray)⟩, []⟩ : Msg)) = ((msgR b).1) from by rw [msgR_2 (by assumption) (by assumption) (by first | exact Or.inl (by assumption) | exact Or.inr (by first | assumption | (rw [← noBytes]; assumption)))]; first | done | rfl) (show (2) = ((msgR b).2) from by rw [msgR_2 (by assumption) (by assumption) (by first | exact Or.inl (by assumption) | exact Or.inr (by first | assumption | (rw [← noBytes]; assumption)))]; first | done | rfl) (KF.n [(5002, 0)])))
     refine AW.skip ?_
     refine AW.q 4 ?_
     refine AW.seq ?_
     refine AW.seq ?_
     refine AW.weak (Sub.nils [⟨true, 112, some 15, 5003, 56, 6⟩] (by kernel_rfl)) ?_
     refine AW.gq 1 ?_
     refine AW.block ?_
     refine AW.loopW (fun (x : Nat × Int × Msg) => match x with | (k, a, q) => Go.Sy.mk [.un, .un, .ptr 102 0 0, .un, .ptr 104 0 0, .ref 1400, .un, .un, .un, .int .i64 a, .un, .str (l8F ((getN ((unsealB b 0).1) 0).1)), .ptr 112 0 0, .int .i64 (k : Int)] [(102, .box 34 [.int .i64 0, .int .i64 0, .int .i64 0, .int .i64 0, .int .i64 0, .int .i64 0, .bool false, .int .i64 0, .int .i64 0, .str (⟨#[]⟩ : ByteArray), .int .i64 0, .int .i64 0, .int .i64 0, .int .i64 0, .str (⟨#[]⟩ : ByteArray), .ref 5001]), (104, .box 34 [.int .i64 0, .int .i64 0, .int .i64 0, .int .i64 0, .int .i64 0, .int .i64 0, .bool false, .int .i64 0, .int .i64 0, .str (⟨#[]⟩ : ByteArray), .int .i64 0, .int .i64 0, .int .i64 0, .int .i64 0, .str (⟨#[]⟩ : ByteArray), .ref 5002]), (112, .box 34 [.int .i64 q.kind, .int .i64 q.from_, .int .i64 q.term, .int .i64 q.at_, .int .i64 q.atTerm, .int .i64 q.commit, .bool q.yes, .int .i64 q.release, .int .i64 q.part, .str q.bytes, .int .i64 q.cmd.kind, .int .i64 q.cmd.release, .int .i64 q.cmd.node, .int .i64 q.cmd.size, .str q.cmd.digest, .ref 5003]), (1400, .arr 5 1 (((unsealB b 0).1).map encU8)), (5001, .arr 56 6 []), (5002, .arr 56 6 []), (5003, .arr 56 6 (q.entries.map encEnt))]) (fun (x : Nat × Int × Msg) => match x with | (k, a, q) => k ≤ (l8F (getN (unsealB b 0).1 0).1).size ∧ (0 ≤ a ∧ a ≤ (unsealB b 0).1.length) ∧ q.entries.length ≤ 7 ∧ fieldsS (unsealB b 0).1 (l8F (getN (unsealB b 0).1 0).1).data.toList (kMsg (getN (unsealB b 0).1 0).1) (getN (unsealB b 0).1 0).2.1 = fieldsS (unsealB b 0).1 ((l8F (getN (unsealB b 0).1 0).1).data.toList.drop k) q a) (fun (x : Nat × Int × Msg) => match x with | (k, a, q) => (l8F (getN (unsealB b 0).1 0).1).size - k) (0, (getN (unsealB b 0).1 0).2.1, (⟨(getN ((unsealB b 0).1) 0).1, 0, 0, 0, 0, 0, false, 0, 0, (⟨#[]⟩ : ByteArray), ⟨0, 0, 0, 0, (⟨#[]⟩ : ByteArray)⟩, []⟩ : Msg)) ⟨by omega, by omega, by simp, by rw [List.drop_zero]; rfl⟩ (Sub.o [(102, 102), (104, 104), (112, 112), (1400, 1400), (5001, 5001), (5002, 5002), (5003, 5003)] [false, false, true, false, true, true, false, false, false, true, false, true, true, true]) ?_
     rintro ⟨k, a, q⟩ ⟨hk, ha, hq, hR⟩
     refine AW.seq ?_
     refine AW.q 4 ?_
     refine AW.cD ((k : Int) < ((l8F ((getN ((unsealB b 0).1) 0).1)).size : Int)) (fun h5 => ?_) (fun h5 => ?_)
     · refine AW.skip ?_
       refine AW.seq ?_
       refine AW.block ?_
       refine AW.seq ?_
       refine AW.gD Try_mix ?_
       refine At.a 3 ?_
       refine Exists.elim (show ∃ e, (l8F ((getN ((unsealB b 0).1) 0).1)).data[k]? = some e from ⟨_, Array.getElem?_eq_getElem (by show _ < (l8F ((getN ((unsealB b 0).1) 0).1)).size; omega)⟩) fun e1 he1 => ?_
       have hl1 : (l8F (getN (unsealB b 0).1 0).1).data.toList[k]? = some e1 := by simpa using he1
       refine At.idxStr (t := 9) (d := 60) (x := .tmp 58) (y := .tmp 59) (s := l8F ((getN ((unsealB b 0).1) 0).1)) (kd := .i64) (i := (k : Int)) e1 (by kernel_rfl) (by kernel_rfl) (by kernel_rfl) (by kernel_rfl) (by omega) he1 ?_
       refine At.a 2 ?_
       refine At.c (spec_l8Field_spec  q e1 ((unsealB b 0).1) a (by omega) (by omega)) Try.call44 false [(5003, 0)] [(2260, 1)] [(1400, 1, (((unsealB b 0).1).map encU8))] ⟨rfl, ⟨5, (((unsealB b 0).1).map encU8), by kernel_rfl, FrzIs.same (allP_encU8 _)⟩, trivial⟩ ?_
       refine At.zD 8 ?_
       refine AW.seq ?_
       refine AW.q 2 ?_
       refine AW.cNB ((fieldS q e1.toNat ((unsealB b 0).1) a).2.2) (fun h6 => ?_) (fun h6 => ?_)
       · refine AW.q 3 ?_
         exact AW.ret (rf (k2 (K_spec_MsgRead _ b) (show ((⟨0, 0, 0, 0, 0, 0, false, 0, 0, (⟨#[]⟩ : ByteArray), ⟨0, 0, 0, 0, (⟨#[]⟩ : ByteArray)⟩, []⟩ : Msg)) = ((msgR b).1) from by rw [msgR_3 (by assumption) (by assumption) (by assumption) (by rw [← noBytes]; assumption) (hR.trans (by rw [dropCons hl1, fieldsS, if_pos (by assumption)]))]; first | done | rfl) (show (3) = ((msgR b).2) from by rw [msgR_3 (by assumption) (by assumption) (by assumption) (by rw [← noBytes]; assumption) (hR.trans (by rw [dropCons hl1, fieldsS, if_pos (by assumption)]))]; first | done | rfl) (KF.n [(5002, 0)])))
       refine AW.skip ?_
       refine AW.q 2 ?_
       refine AW.gq 2 ?_
       refine AW.g ?_
       refine At.a 2 ?_
       refine At.sI 55 ((k : Int) + 1) (by omega) ?_
       refine At.z 1 ?_
       exact ⟨(k + 1, ((fieldS q e1.toNat ((unsealB b 0).1) a).2.1), ((fieldS q e1.toNat ((unsealB b 0).1) a).1)), ⟨by omega, by have := fieldS_in q (e1.toNat : Int) (unsealB b 0).1 (a := a); omega, fieldS_ents q _ _ _ hq, by rw [hR, dropCons hl1, fieldsS, if_neg (by simp [*])]⟩, (by simp only; omega), Sub.o [(102, 102), (104, 104), (112, 112), (1400, 1400), (5001, 5001), (5002, 5002), (2260, 5003)] [false, false, true, false, true, true, false, false, false, true, false, true, true, true]⟩
     refine AW.exit ?_
     refine AW.seq ?_
     refine AW.r ?_
     refine At.a 3 ?_
     refine At.sL 74 encU8 ((unsealB b 0).1) ?_
     refine At.z 1 ?_
     refine AW.cD (a < (((unsealB b 0).1).length : Int)) (fun h7 => ?_) (fun h7 => ?_)
     · refine AW.q 3 ?_
       exact AW.ret (rf (k2 (K_spec_MsgRead _ b) (show ((⟨0, 0, 0, 0, 0, 0, false, 0, 0, (⟨#[]⟩ : ByteArray), ⟨0, 0, 0, 0, (⟨#[]⟩ : ByteArray)⟩, []⟩ : Msg)) = ((msgR b).1) from by rw [msgR_4 (by assumption) (by assumption) (by assumption) (by rw [← noBytes]; assumption) (hR.trans (by rw [List.drop_of_length_le (by rw [Array.length_toList]; show (l8F (getN (unsealB b 0).1 0).1).size ≤ _; omega), fieldsS])) (by assumption)]; first | done | rfl) (show (4) = ((msgR b).2) from by rw [msgR_4 (by assumption) (by assumption) (by assumption) (by rw [← noBytes]; assumption) (hR.trans (by rw [List.drop_of_length_le (by rw [Array.length_toList]; show (l8F (getN (unsealB b 0).1 0).1).size ≤ _; omega), fieldsS])) (by assumption)]; first | done | rfl) (KF.n [(5002, 0)])))
     refine AW.skip ?_
     refine AW.seq ?_
     refine AW.r ?_
     refine At.a 1 ?_
     refine At.c (spec_MsgFits_spec  q (by omega)) Try.call21 false [] [] [(5003, 6, (q.entries.map encEnt))] ⟨rfl, ⟨56, (q.entries.map encEnt), by kernel_rfl, FrzIs.same (allP_encEnt _)⟩, trivial⟩ ?_
     refine At.z 1 ?_
     refine AW.cNB (msgFits q) (fun h8 => ?_) (fun h8 => ?_)
     · refine AW.q 3 ?_
       exact AW.ret (rf (k2 (K_spec_MsgRead _ b) (show ((⟨0, 0, 0, 0, 0, 0, false, 0, 0, (⟨#[]⟩ : ByteArray), ⟨0, 0, 0, 0, (⟨#[]⟩ : ByteArray)⟩, []⟩ : Msg)) = ((msgR b).1) from by rw [msgR_5 (by assumption) (by assumption) (by assumption) (by rw [← noBytes]; assumption) (hR.trans (by rw [List.drop_of_length_le (by rw [Array.length_toList]; show (l8F (getN (unsealB b 0).1 0).1).size ≤ _; omega), fieldsS])) (by assumption) (by assumption)]; first | done | rfl) (show (5) = ((msgR b).2) from by rw [msgR_5 (by assumption) (by assumption) (by assumption) (by rw [← noBytes]; assumption) (hR.trans (by rw [List.drop_of_length_le (by rw [Array.length_toList]; show (l8F (getN (unsealB b 0).1 0).1).size ≤ _; omega), fieldsS])) (by assumption) (by assumption)]; first | done | rfl) (KF.n [(5002, 0)])))
     refine AW.skip ?_
     refine AW.q 3 ?_
     exact AW.ret (rf (k2 (K_spec_MsgRead _ b) (show (q) = ((msgR b).1) from by rw [msgR_0 (by assumption) (by assumption) (by assumption) (by rw [← noBytes]; assumption) (hR.trans (by rw [List.drop_of_length_le (by rw [Array.length_toList]; show (l8F (getN (unsealB b 0).1 0).1).size ≤ _; omega), fieldsS])) (by assumption) (by assumption)]; first | done | rfl) (show (0) = ((msgR b).2) from by rw [msgR_0 (by assumption) (by assumption) (by assumption) (by rw [← noBytes]; assumption) (hR.trans (by rw [List.drop_of_length_le (by rw [Array.length_toList]; show (l8F (getN (unsealB b 0).1 0).1).size ≤ _; omega), fieldsS])) (by assumption) (by assumption)]; first | done | rfl) (KF.n [(5003, 0)])))
   refine At.sB 43 (!((getN ((unsealB b 0).1) 0).2.2)) true (sayNT (sayB (Bool.eq_false_iff.2 h3))) ?_
   replace h3 := Bool.eq_false_iff.2 h3
   refine At.z 3 ?_
   refine AW.cond true (by kernel_rfl) (fun _ => ?_) (fun h => by cases h)
   refine AW.q 3 ?_
   exact AW.ret (rf (k2 (K_spec_MsgRead _ b) (show ((⟨0, 0, 0, 0, 0, 0, false, 0, 0, (⟨#[]⟩ : ByteArray), ⟨0, 0, 0, 0, (⟨#[]⟩ : ByteArray)⟩, []⟩ : Msg)) = ((msgR b).1) from by rw [msgR_2 (by assumption) (by assumption) (by first | exact Or.inl (by assumption) | exact Or.inr (by first | assumption | (rw [← noBytes]; assumption)))]; first | done | rfl) (show (2) = ((msgR b).2) from by rw [msgR_2 (by assumption) (by assumption) (by first | exact Or.inl (by assumption) | exact Or.inr (by first | assumption | (rw [← noBytes]; assumption)))]; first | done | rfl) (KF.n [(5002, 0)])))
 refine At.sB 26 _ _ (sayUT h1) ?_
 refine At.z 5 ?_
 refine AW.cond true (by kernel_rfl) (fun _ => ?_) (fun h => by cases h)
 refine AW.q 3 ?_
 exact AW.ret (rf (k2 (K_spec_MsgRead _ b) (show ((⟨0, 0, 0, 0, 0, 0, false, 0, 0, (⟨#[]⟩ : ByteArray), ⟨0, 0, 0, 0, (⟨#[]⟩ : ByteArray)⟩, []⟩ : Msg)) = ((msgR b).1) from by rw [msgR_1 (by first | exact Or.inl (by assumption) | exact Or.inr (by first | assumption | (rw [← noBytes]; assumption)))]; first | done | rfl) (show (1) = ((msgR b).2) from by rw [msgR_1 (by first | exact Or.inl (by assumption) | exact Or.inr (by first | assumption | (rw [← noBytes]; assumption)))]; first | done | rfl) (KF.n [(5002, 0)])))
theorem laws_FnMsg_spec  (code : List UInt8) (hc : code.length ≤ 9223372036854775807) : FnSpec Try.prog 5 [.sl false 1 (code.map encU8)] [] (.bool true) [] := by
 refine FnSpec.of 127 Try.func5 rfl Try.ntmps5 (by simp) (AW.weakK ?_)
 refine AW.q 1 ?_
 refine AW.seq ?_
 refine AW.r ?_
 refine At.a 1 ?_
 refine At.c (laws_big_spec  code hc) Try.call19 true [] [] [] trivial ?_
 refine At.done rfl ?_
 refine AW.cD ((code.length : Int) > 1048576) (fun h1 => ?_) (fun h1 => ?_)
 · refine AW.q 1 ?_
   exact AW.ret (rf (KF.n []))
 refine AW.skip ?_
 refine AW.r ?_
 refine At.a 1 ?_
 refine Exists.elim (spec_DrawMsgPack_spec  code (by omega)) fun r1_ hr1_ => ?_
 have qr1_ := hr1_.1
 try dsimp only at qr1_
 refine At.c (hr1_.2) Try.call20 true [] [(1480, 0)] [] trivial ?_
 have hml := msgP_len r1_
 refine At.z 2 ?_
 refine AW.r ?_
 refine At.a 1 ?_
 refine At.c (impl_MsgPack_spec  r1_ (by omega)) Try.call9 false [] [(1540, 0)] [(1480, 6, (r1_.entries.map encEnt))] ⟨rfl, ⟨56, (r1_.entries.map encEnt), by kernel_rfl, FrzIs.same (allP_encEnt _)⟩, trivial⟩ ?_
 refine At.z 5 ?_
 refine AW.seq ?_
 refine AW.r ?_
 refine At.a 2 ?_
 refine At.c (spec_MsgFits_spec  r1_ (by omega)) Try.call21 false [] [] [(1480, 6, (r1_.entries.map encEnt))] ⟨rfl, ⟨56, (r1_.entries.map encEnt), by kernel_rfl, FrzIs.same (allP_encEnt _)⟩, trivial⟩ ?_
 refine At.eqB (t := 4) (u := 4) (d := 33) (op := .neq) (x := .tmp 30) (y := .tmp 32) (a := (msgPok r1_)) (b := (msgFits r1_)) (by kernel_rfl) (by kernel_rfl) (by kernel_rfl) (by kernel_rfl) (by kernel_rfl) (.bool (!((msgPok r1_) == (msgFits r1_)))) (.inr ⟨rfl, rfl⟩) ?_
 refine At.done rfl ?_
 refine AW.condF (!((msgPok r1_) == (msgFits r1_))) (by kernel_rfl) (by rw [show ((msgPok r1_) == (msgFits r1_)) = true from (by rw [msgPok_fits]; exact beq_self_eq_true _)]; rfl) ?_
 refine AW.skip ?_
 refine AW.seq ?_
 refine AW.q 1 ?_
 refine AW.cB (msgPok r1_) (fun h2 => ?_) (fun h2 => ?_)
 · have hf : msgFits r1_ = true := (msgPok_fits r1_).symm.trans h2
   have hrp := read_pack hf
   have hhd := head_eq hf
   have hh2 : (getN (msgP r1_) 0).2.1 = _ := congrArg (fun p => p.2.1) hhd.1
   have hh3 := hhd.2
   dsimp only at hh2
   refine AW.r ?_
   refine At.a 1 ?_
   refine At.c (impl_MsgRead_spec  (msgP r1_) (by omega)) Try.call17 false [] [(1740, 0)] [(1540, 1, ((msgP r1_).map encU8))] ⟨rfl, ⟨5, ((msgP r1_).map encU8), by kernel_rfl, FrzIs.same (allP_encU8 _)⟩, trivial⟩ ?_
   have hme := msgR_ents (msgP r1_)
   refine At.z 6 ?_
   refine AW.r ?_
   refine At.a 1 ?_
   refine At.c (spec_GetNum_spec  (msgP r1_) 0 (by omega) (by omega)) Try.call22 false [] [] [(1540, 1, ((msgP r1_).map encU8))] ⟨rfl, ⟨5, ((msgP r1_).map encU8), by kernel_rfl, FrzIs.same (allP_encU8 _)⟩, trivial⟩ ?_
   refine At.z 7 ?_
   refine AW.seq ?_
   refine AW.r ?_
   refine At.a 3 ?_
   refine At.sB 48 (((msgR (msgP r1_)).2) != 0) false (sayB (by rw [hrp]; rfl)) ?_
   refine At.a 2 ?_
   refine At.c (impl_MsgSame_spec  ((msgR (msgP r1_)).1) r1_ (by omega) (by omega)) Try.call23 false [] [] [(1740, 6, ((((msgR (msgP r1_)).1).entries).map encEnt)), (1480, 6, (r1_.entries.map encEnt))] ⟨rfl, ⟨56, ((((msgR (msgP r1_)).1).entries).map encEnt), by kernel_rfl, FrzIs.same (allP_encEnt _)⟩, rfl, ⟨56, (r1_.entries.map encEnt), by kernel_rfl, FrzIs.same (allP_encEnt _)⟩, trivial⟩ ?_
   refine At.a 3 ?_
   refine At.sB 54 (!(msgEq ((msgR (msgP r1_)).1) r1_)) false (sayB (by rw [show (msgEq ((msgR (msgP r1_)).1) r1_) = true from (by rw [hrp]; exact msgEq_refl _)]; rfl)) ?_
   refine At.a 4 ?_
   refine At.sB 58 (!((getN (msgP r1_) 0).2.2)) false (sayB (by rw [show ((getN (msgP r1_) 0).2.2) = true from (by rw [hhd.1])]; rfl)) ?_
   refine At.a 3 ?_
   refine At.sL 61 encU8 (msgP r1_) ?_
   refine At.z 2 ?_
   refine AW.condF (decide (((getN (msgP r1_) 0).2.1) ≥ ((msgP r1_).length : Int))) (by kernel_rfl) (decide_eq_false (by omega)) ?_
   refine AW.skip ?_
   refine AW.r ?_
   refine At.a 2 ?_
   refine Exists.elim (laws_at_spec  code 1 (by omega) (by omega)) fun r2_ hr2_ => ?_
   have qr2_ := hr2_.1
   try dsimp only at qr2_
   refine At.c (hr2_.2) Try.call24 true [] [] [] trivial ?_
   have hmi : 0 ≤ (r2_ * 29) % (((msgP r1_).length : Int) - (getN (msgP r1_) 0).2.1) ∧ (r2_ * 29) % (((msgP r1_).length : Int) - (getN (msgP r1_) 0).2.1) < ((msgP r1_).length : Int) - (getN (msgP r1_) 0).2.1 := ⟨Int.emod_nonneg _ (by omega), Int.emod_lt_of_pos _ (by omega)⟩
   refine At.a 1 ?_
   refine At.sI 67 (r2_ * 29) (by omega) ?_
   refine At.a 2 ?_
   refine At.sL 69 encU8 (msgP r1_) ?_
   refine At.a 2 ?_
   refine At.sI 71 (((msgP r1_).length : Int) - ((getN (msgP r1_) 0).2.1)) (by omega) ?_
   refine At.div (t := 3) (u := 3) (d := 72) (op := .rem) (x := .tmp 67) (y := .tmp 71) (kd := .i64) (a := r2_ * 29) (b := ((msgP r1_).length : Int) - ((getN (msgP r1_) 0).2.1)) (by kernel_rfl) (by kernel_rfl) (by kernel_rfl) (by kernel_rfl) (by omega) (.int .i64 ((r2_ * 29).tmod (((msgP r1_).length : Int) - ((getN (msgP r1_) 0).2.1)))) (.inr ⟨rfl, rfl⟩) ?_
   refine At.say 72 (.int .i64 ((r2_ * 29).tmod (((msgP r1_).length : Int) - ((getN (msgP r1_) 0).2.1)))) (.int .i64 ((r2_ * 29) % (((msgP r1_).length : Int) - ((getN (msgP r1_) 0).2.1)))) (by kernel_rfl) (sayRem (by omega)) ?_
   refine At.a 1 ?_
   refine At.sI 73 (((getN (msgP r1_) 0).2.1) + ((r2_ * 29) % (((msgP r1_).length : Int) - ((getN (msgP r1_) 0).2.1)))) (by omega) ?_
   refine At.z 1 ?_
   refine AW.seq ?_
   refine AW.gD Try_mix ?_
   refine At.a 4 ?_
   refine At.iRf 28 78 (.tmp 76) (.tmp 77) 1540 ((msgP r1_).map encU8) .i64 (((getN (msgP r1_) 0).2.1) + ((r2_ * 29) % (((msgP r1_).length : Int) - ((getN (msgP r1_) 0).2.1)))) 5 1 (by omega) (by simp only [List.length_map]; omega) ?_
   refine Exists.elim (gE (msgP r1_) ((((getN (msgP r1_) 0).2.1) + ((r2_ * 29) % (((msgP r1_).length : Int) - ((getN (msgP r1_) 0).2.1)))).toNat) (by omega)) fun e1 he1 => ?_
   refine At.lEl 5 79 (.tmp 78) 1540 5 1 ((msgP r1_).map encU8) ((((getN (msgP r1_) 0).2.1) + ((r2_ * 29) % (((msgP r1_).length : Int) - ((getN (msgP r1_) 0).2.1)))).toNat) 0 false 1 (encU8 e1) (.int .u8 (e1.toNat : Int)) (mapGet he1) ?_
   refine At.a 1 ?_
   refine Exists.elim (laws_at_spec  code 2 (by omega) (by omega)) fun r3_ hr3_ => ?_
   have qr3_ := hr3_.1
   try dsimp only at qr3_
   refine At.c (hr3_.2) Try.call24 true [] [] [] trivial ?_
   refine At.div (t := 3) (u := 3) (d := 82) (op := .rem) (x := .tmp 81) (y := .const (.int .i64 255)) (kd := .i64) (a := r3_) (b := 255) (by kernel_rfl) (by kernel_rfl) (by kernel_rfl) (by kernel_rfl) (by omega) (.int .i64 (r3_.tmod 255)) (.inr ⟨rfl, rfl⟩) ?_
   refine At.say 82 (.int .i64 (r3_.tmod 255)) (.int .i64 (r3_ % 255)) (by kernel_rfl) (sayRem (by omega)) ?_
   refine At.a 1 ?_
   refine At.sI 83 (1 + (r3_ % 255)) (by omega) ?_
   refine At.conv (s := 3) (t := 5) (d := 84) (x := .tmp 83) (kd := .i64) (kd' := .u8) (a := 1 + (r3_ % 255)) (.int .u8 ((u8Of (1 + (r3_ % 255))).toNat : Int)) (by kernel_rfl) (by kernel_rfl) (by kernel_rfl) (by kernel_rfl) (sayByte _) ?_
   refine At.bits (t := 5) (u := 5) (d := 85) (op := .xor) (x := .tmp 79) (y := .tmp 84) (kd := .u8) (a := (e1.toNat : Int)) (b := ((u8Of (1 + (r3_ % 255))).toNat : Int)) ((e1 ^^^ (u8Of (1 + (r3_ % 255)))).toNat : Int) (by kernel_rfl) (by kernel_rfl) (by kernel_rfl) (by kernel_rfl) (xor_u8 _ _) ?_
   refine At.iRf 28 86 (.tmp 74) (.tmp 75) 1540 ((msgP r1_).map encU8) .i64 (((getN (msgP r1_) 0).2.1) + ((r2_ * 29) % (((msgP r1_).length : Int) - ((getN (msgP r1_) 0).2.1)))) 5 1 (by omega) (by simp only [List.length_map]; omega) ?_
   refine At.sEl 5 1540 5 1 ((((getN (msgP r1_) 0).2.1) + ((r2_ * 29) % (((msgP r1_).length : Int) - ((getN (msgP r1_) 0).2.1)))).toNat) 0 (.tmp 86) (.tmp 85) ((msgP r1_).map encU8) (((msgP r1_).set ((((getN (msgP r1_) 0).2.1) + ((r2_ * 29) % (((msgP r1_).length : Int) - ((getN (msgP r1_) 0).2.1)))).toNat) (e1 ^^^ (u8Of (1 + (r3_ % 255))))).map encU8) [.int .u8 ((e1 ^^^ (u8Of (1 + (r3_ % 255)))).toNat : Int)] (.int .u8 ((e1 ^^^ (u8Of (1 + (r3_ % 255)))).toNat : Int)) (encU8 e1) (encU8 (e1 ^^^ (u8Of (1 + (r3_ % 255))))) (mapGet he1) setV ?_
   refine At.done rfl ⟨by kernel_rfl, ?_⟩
   refine AW.r ?_
   refine At.a 1 ?_
   refine At.c (impl_MsgRead_spec  ((msgP r1_).set ((((getN (msgP r1_) 0).2.1) + ((r2_ * 29) % (((msgP r1_).length : Int) - ((getN (msgP r1_) 0).2.1)))).toNat) (e1 ^^^ (u8Of (1 + (r3_ % 255))))) (by simp only [List.length_set]; omega)) Try.call17 false [] [(2780, 0)] [(1540, 1, (((msgP r1_).set ((((getN (msgP r1_) 0).2.1) + ((r2_ * 29) % (((msgP r1_).length : Int) - ((getN (msgP r1_) 0).2.1)))).toNat) (e1 ^^^ (u8Of (1 + (r3_ % 255))))).map encU8))] ⟨rfl, ⟨5, (((msgP r1_).set ((((getN (msgP r1_) 0).2.1) + ((r2_ * 29) % (((msgP r1_).length : Int) - ((getN (msgP r1_) 0).2.1)))).toNat) (e1 ^^^ (u8Of (1 + (r3_ % 255))))).map encU8), by kernel_rfl, FrzIs.same (allP_encU8 _)⟩, trivial⟩ ?_
   refine At.z 6 ?_
   refine AW.q 2 ?_
   refine AW.condF (((msgR ((msgP r1_).set ((((getN (msgP r1_) 0).2.1) + ((r2_ * 29) % (((msgP r1_).length : Int) - ((getN (msgP r1_) 0).2.1)))).toNat) (e1 ^^^ (u8Of (1 + (r3_ % 255)))))).2) != 1) (by kernel_rfl) (by rw [read_turned hf (by omega) he1 (xor_ne (u8_pos (by omega) (by omega)))]; rfl) ?_
   refine AW.skip ?_
   refine AW.r ?_
   refine At.a 1 ?_
   refine Exists.elim (spec_DrawMsgRead_spec  code (by omega)) fun r4_ hr4_ => ?_
   have qr4_ := hr4_.1
   try dsimp only at qr4_
   refine At.c (hr4_.2) Try.call25 true [] [(2900, 0)] [] trivial ?_
   refine At.z 1 ?_
   refine AW.r ?_
   refine At.a 1 ?_
   refine At.c (impl_MsgRead_spec  r4_ (by omega)) Try.call17 false [] [(2960, 0)] [(2900, 1, (r4_.map encU8))] ⟨rfl, ⟨5, (r4_.map encU8), by kernel_rfl, FrzIs.same (allP_encU8 _)⟩, trivial⟩ ?_
   have hme2 := msgR_ents r4_
   refine At.z 6 ?_
   refine AW.r ?_
   refine At.a 1 ?_
   refine At.c (spec_MsgRead_spec  r4_ (by omega)) Try.call15 false [] [(3060, 0)] [(2900, 1, (r4_.map encU8))] ⟨rfl, ⟨5, (r4_.map encU8), by kernel_rfl, FrzIs.same (allP_encU8 _)⟩, trivial⟩ ?_
   refine At.z 6 ?_
   refine AW.seq ?_
   refine AW.q 3 ?_
   refine AW.condF (((msgR r4_).2) != ((msgR r4_).2)) (by kernel_rfl) (bne_self_eq_false _) ?_
   refine AW.skip ?_
   refine AW.seq ?_
   refine AW.q 2 ?_
   refine AW.cU ((msgR r4_).2) (0 : Int) (fun h3 => ?_) (fun h3 => ?_)
   · refine AW.r ?_
     refine At.a 2 ?_
     refine At.c (FnSpec.nz (As := [.agg [.int .i64 (((msgR r4_).1).kind), .int .i64 (((msgR r4_).1).from_), .int .i64 (((msgR r4_).1).term), .int .i64 (((msgR r4_).1).at_), .int .i64 (((msgR r4_).1).atTerm), .int .i64 (((msgR r4_).1).commit), .bool (((msgR r4_).1).yes), .int .i64 (((msgR r4_).1).release), .int .i64 (((msgR r4_).1).part), .str (((msgR r4_).1).bytes), .int .i64 (((msgR r4_).1).cmd.kind), .int .i64 (((msgR r4_).1).cmd.release), .int .i64 (((msgR r4_).1).cmd.node), .int .i64 (((msgR r4_).1).cmd.size), .str (((msgR r4_).1).cmd.digest), .sl false 6 ((((msgR r4_).1).entries).map encEnt)], .agg [.int .i64 0, .int .i64 0, .int .i64 0, .int .i64 0, .int .i64 0, .int .i64 0, .bool false, .int .i64 0, .int .i64 0, .str (⟨#[]⟩ : ByteArray), .int .i64 0, .int .i64 0, .int .i64 0, .int .i64 0, .str (⟨#[]⟩ : ByteArray), .nil]]) 6 (impl_MsgSame_spec  ((msgR r4_).1) (⟨0, 0, 0, 0, 0, 0, false, 0, 0, (⟨#[]⟩ : ByteArray), ⟨0, 0, 0, 0, (⟨#[]⟩ : ByteArray)⟩, []⟩ : Msg) (by omega) (by exact Nat.zero_le _))) Try.call23 false [] [] [(2960, 6, ((((msgR r4_).1).entries).map encEnt))] ⟨rfl, ⟨56, ((((msgR r4_).1).entries).map encEnt), by kernel_rfl, FrzIs.same (allP_encEnt _)⟩, trivial⟩ ?_
     refine At.z 1 ?_
     refine AW.ret ?_
     refine ⟨_, Sub.refl _ _, ?_⟩
     refine KF.conv (fun w => .bool w) (fun w => []) (show (msgEq ((msgR r4_).1) (⟨0, 0, 0, 0, 0, 0, false, 0, 0, (⟨#[]⟩ : ByteArray), ⟨0, 0, 0, 0, (⟨#[]⟩ : ByteArray)⟩, []⟩ : Msg)) = (true) from by rw [pack_read.2 (by assumption)]; exact msgEq_refl _) ?_
     exact KF.n []
   refine AW.skip ?_
   refine AW.r ?_
   refine At.a 1 ?_
   refine At.c (impl_MsgPack_spec  ((msgR r4_).1) (by omega)) Try.call9 false [] [(3320, 0)] [(2960, 6, ((((msgR r4_).1).entries).map encEnt))] ⟨rfl, ⟨56, ((((msgR r4_).1).entries).map encEnt), by kernel_rfl, FrzIs.same (allP_encEnt _)⟩, trivial⟩ ?_
   refine At.z 5 ?_
   refine AW.r ?_
   refine At.a 2 ?_
   refine At.sB 120 (msgPok ((msgR r4_).1)) true (sayB (by rw [msgPok_fits]; exact (pack_read.1 (by assumption)).1)) ?_
   refine At.a 1 ?_
   refine At.b2s (s := 28) (t := 9) (e := 5) (d := 122) (x := .tmp 121) (T := .ref 3320) (msgP ((msgR r4_).1)) [] (by kernel_rfl) (by kernel_rfl) (by kernel_rfl) (by kernel_rfl) ⟨by kernel_rfl, .inl ⟨rfl, (allP_encU8 _)⟩⟩ ?_
   refine At.a 1 ?_
   refine At.b2s (s := 28) (t := 9) (e := 5) (d := 124) (x := .tmp 123) (T := .ref 2900) (r4_) [] (by kernel_rfl) (by kernel_rfl) (by kernel_rfl) (by kernel_rfl) ⟨by kernel_rfl, .inl ⟨rfl, (allP_encU8 _)⟩⟩ ?_
   refine At.z 3 ?_
   refine AW.ret ?_
   refine ⟨_, Sub.refl _ _, ?_⟩
   refine KF.conv (fun w => .bool w) (fun w => []) (show ((strOf (msgP ((msgR r4_).1))).toList == (strOf r4_).toList) = (true) from by rw [(pack_read.1 (by assumption)).2]; exact beq_self_eq_true _) ?_
   exact KF.n []
 refine AW.skip ?_
 refine AW.r ?_
 refine At.a 1 ?_
 refine Exists.elim (spec_DrawMsgRead_spec  code (by omega)) fun r2_ hr2_ => ?_
 have qr2_ := hr2_.1
 try dsimp only at qr2_
 refine At.c (hr2_.2) Try.call25 true [] [(2900, 0)] [] trivial ?_
 refine At.z 1 ?_
 refine AW.r ?_
 refine At.a 1 ?_
 refine At.c (impl_MsgRead_spec  r2_ (by omega)) Try.call17 false [] [(2960, 0)] [(2900, 1, (r2_.map encU8))] ⟨rfl, ⟨5, (r2_.map encU8), by kernel_rfl, FrzIs.same (allP_encU8 _)⟩, trivial⟩ ?_
 have hme2 := msgR_ents r2_
 refine At.z 6 ?_
 refine AW.r ?_
 refine At.a 1 ?_
 refine At.c (spec_MsgRead_spec  r2_ (by omega)) Try.call15 false [] [(3060, 0)] [(2900, 1, (r2_.map encU8))] ⟨rfl, ⟨5, (r2_.map encU8), by kernel_rfl, FrzIs.same (allP_encU8 _)⟩, trivial⟩ ?_
 refine At.z 6 ?_
 refine AW.seq ?_
 refine AW.q 3 ?_
 refine AW.condF (((msgR r2_).2) != ((msgR r2_).2)) (by kernel_rfl) (bne_self_eq_false _) ?_
 refine AW.skip ?_
 refine AW.seq ?_
 refine AW.q 2 ?_
 refine AW.cU ((msgR r2_).2) (0 : Int) (fun h4 => ?_) (fun h4 => ?_)
 · refine AW.r ?_
   refine At.a 2 ?_
   refine At.c (FnSpec.nz (As := [.agg [.int .i64 (((msgR r2_).1).kind), .int .i64 (((msgR r2_).1).from_), .int .i64 (((msgR r2_).1).term), .int .i64 (((msgR r2_).1).at_), .int .i64 (((msgR r2_).1).atTerm), .int .i64 (((msgR r2_).1).commit), .bool (((msgR r2_).1).yes), .int .i64 (((msgR r2_).1).release), .int .i64 (((msgR r2_).1).part), .str (((msgR r2_).1).bytes), .int .i64 (((msgR r2_).1).cmd.kind), .int .i64 (((msgR r2_).1).cmd.release), .int .i64 (((msgR r2_).1).cmd.node), .int .i64 (((msgR r2_).1).cmd.size), .str (((msgR r2_).1).cmd.digest), .sl false 6 ((((msgR r2_).1).entries).map encEnt)], .agg [.int .i64 0, .int .i64 0, .int .i64 0, .int .i64 0, .int .i64 0, .int .i64 0, .bool false, .int .i64 0, .int .i64 0, .str (⟨#[]⟩ : ByteArray), .int .i64 0, .int .i64 0, .int .i64 0, .int .i64 0, .str (⟨#[]⟩ : ByteArray), .nil]]) 6 (impl_MsgSame_spec  ((msgR r2_).1) (⟨0, 0, 0, 0, 0, 0, false, 0, 0, (⟨#[]⟩ : ByteArray), ⟨0, 0, 0, 0, (⟨#[]⟩ : ByteArray)⟩, []⟩ : Msg) (by omega) (by exact Nat.zero_le _))) Try.call23 false [] [] [(2960, 6, ((((msgR r2_).1).entries).map encEnt))] ⟨rfl, ⟨56, ((((msgR r2_).1).entries).map encEnt), by kernel_rfl, FrzIs.same (allP_encEnt _)⟩, trivial⟩ ?_
   refine At.z 1 ?_
   refine AW.ret ?_
   refine ⟨_, Sub.refl _ _, ?_⟩
   refine KF.conv (fun w => .bool w) (fun w => []) (show (msgEq ((msgR r2_).1) (⟨0, 0, 0, 0, 0, 0, false, 0, 0, (⟨#[]⟩ : ByteArray), ⟨0, 0, 0, 0, (⟨#[]⟩ : ByteArray)⟩, []⟩ : Msg)) = (true) from by rw [pack_read.2 (by assumption)]; exact msgEq_refl _) ?_
   exact KF.n []
 refine AW.skip ?_
 refine AW.r ?_
 refine At.a 1 ?_
 refine At.c (impl_MsgPack_spec  ((msgR r2_).1) (by omega)) Try.call9 false [] [(3320, 0)] [(2960, 6, ((((msgR r2_).1).entries).map encEnt))] ⟨rfl, ⟨56, ((((msgR r2_).1).entries).map encEnt), by kernel_rfl, FrzIs.same (allP_encEnt _)⟩, trivial⟩ ?_
 refine At.z 5 ?_
 refine AW.r ?_
 refine At.a 2 ?_
 refine At.sB 120 (msgPok ((msgR r2_).1)) true (sayB (by rw [msgPok_fits]; exact (pack_read.1 (by assumption)).1)) ?_
 refine At.a 1 ?_
 refine At.b2s (s := 28) (t := 9) (e := 5) (d := 122) (x := .tmp 121) (T := .ref 3320) (msgP ((msgR r2_).1)) [] (by kernel_rfl) (by kernel_rfl) (by kernel_rfl) (by kernel_rfl) ⟨by kernel_rfl, .inl ⟨rfl, (allP_encU8 _)⟩⟩ ?_
 refine At.a 1 ?_
 refine At.b2s (s := 28) (t := 9) (e := 5) (d := 124) (x := .tmp 123) (T := .ref 2900) (r2_) [] (by kernel_rfl) (by kernel_rfl) (by kernel_rfl) (by kernel_rfl) ⟨by kernel_rfl, .inl ⟨rfl, (allP_encU8 _)⟩⟩ ?_
 refine At.z 3 ?_
 refine AW.ret ?_
 refine ⟨_, Sub.refl _ _, ?_⟩
 refine KF.conv (fun w => .bool w) (fun w => []) (show ((strOf (msgP ((msgR r2_).1))).toList == (strOf r2_).toList) = (true) from by rw [(pack_read.1 (by assumption)).2]; exact beq_self_eq_true _) ?_
 exact KF.n []
end Go.Proofs.Ythjmbojkpkbedaa
