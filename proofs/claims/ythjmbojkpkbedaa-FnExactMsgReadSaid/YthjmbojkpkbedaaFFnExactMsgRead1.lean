/- The contracts of the functions that FnExactMsgRead reaches (each: what it answers, said over values), printed by a program of this session (wip/sy/g/gen.py). -/
import Derived.Test.YthjmbojkpkbedaaSXMsgReadMf
import Derived.Test.YthjmbojkpkbedaaProg
set_option linter.unusedVariables false
set_option linter.unusedSimpArgs false
set_option maxRecDepth 100000
set_option maxHeartbeats 4000000
namespace Go.Proofs.Ythjmbojkpkbedaa
open Go Go.Sy Go.Proofs
def encOut (o : Out) : V := encOutWith (.own 56 6 (o.msg.entries.map encEnt)) o
theorem frzOut (l : List Out) : FrzIs (l.map encOut) (l.map encOutV) := frzOf _ (fun _ => ⟨rfl, frz17 _⟩)
theorem frzOutT (l : List Out) : FrzT (l.map encOut) (l.map encOutT) := frzTOf _ (fun o => ⟨rfl, frzT17 o⟩)
theorem Try_mix : Try.prog.follows .mixedOrders = true := by kernel_rfl
theorem laws_toByteS_spec  (a : List UInt8) (ha : a.length ≤ 1048576) : FnSpec Try.prog 16 [.sl false 1 (a.map encU8)] [] (.ref 0) [.arr 5 1 (a.map encU8)] := by
 refine FnSpec.of 22 Try.func16 rfl Try.ntmps16 (by simp) (AW.weakK ?_)
 refine AW.q 1 ?_
 refine AW.r ?_
 refine At.a 2 ?_
 refine At.sL 6 encU8 a ?_
 refine At.make (t := 28) (d := 7) (e := 5) (es := 1) (bytes := 1) (x := .tmp 6) (y := .tmp 6) (ka := .i64) (kb := .i64) (zs := [.int .u8 0]) 107 a.length ((List.replicate a.length (0 : UInt8)).map encU8) (by kernel_rfl) (by kernel_rfl) (by kernel_rfl) (by kernel_rfl) (by kernel_rfl) (by omega) (by omega) (by rw [List.map_replicate]; rfl) ?_
 refine At.z 1 ?_
 refine AW.seq ?_
 refine AW.q 1 ?_
 refine AW.block ?_
 refine AW.loopW (fun (k : Nat) => Go.Sy.mk [.sl false 1 (a.map encU8), .un, .un, .ref 107, .int .i64 (k : Int)] [(107, .arr 5 1 ((a.take k ++ List.replicate (a.length - k) (0 : UInt8)).map encU8))]) (fun (k : Nat) => k ≤ a.length) (fun (k : Nat) => a.length - k) 0 (by omega) (Sub.o [(107, 107)] [true, false, false, true, true]) ?_
 rintro k hk
 refine AW.seq ?_
 refine AW.r ?_
 refine At.a 3 ?_
 refine At.sL 10 encU8 a ?_
 refine At.z 1 ?_
 refine AW.cD ((k : Int) < (a.length : Int)) (fun h1 => ?_) (fun h1 => ?_)
 · refine AW.skip ?_
   refine AW.seq ?_
   refine AW.block ?_
   refine AW.g ?_
   refine At.a 4 ?_
   refine At.iSl 28 18 (.tmp 16) (.tmp 17) false 1 (a.map encU8) .i64 (k : Int) 5 (by omega) (by simp only [List.length_map]; omega) ?_
   refine Exists.elim (gE a k (by omega)) fun e1 he1 => ?_
   refine At.lVp 5 19 (.tmp 18) false 1 (a.map encU8) k 0 false 1 (encU8 e1) (.int .u8 (e1.toNat : Int)) (mapGet he1) ?_
   refine At.iRf 28 20 (.tmp 14) (.tmp 15) 107 ((a.take k ++ List.replicate (a.length - k) (0 : UInt8)).map encU8) .i64 (k : Int) 5 1 (by omega) (by simp only [List.length_map, List.length_append, List.length_take, List.length_drop, List.length_replicate, List.length_set, List.length_cons, List.length_nil]; omega) ?_
   refine Exists.elim (gE (a.take k ++ List.replicate (a.length - k) (0 : UInt8)) k (by simp only [List.length_map, List.length_append, List.length_take, List.length_drop, List.length_replicate, List.length_set, List.length_cons, List.length_nil]; omega)) fun e2 he2 => ?_
   refine At.sEl 5 107 5 1 k 0 (.tmp 20) (.tmp 19) ((a.take k ++ List.replicate (a.length - k) (0 : UInt8)).map encU8) ((a.take (k + 1) ++ List.replicate (a.length - (k + 1)) (0 : UInt8)).map encU8) [.int .u8 (e1.toNat : Int)] (.int .u8 (e1.toNat : Int)) (encU8 e2) (encU8 e1) (mapGet he2) (stepToV (by assumption)) ?_
   refine At.done rfl ?_
   refine AW.g ?_
   refine At.a 2 ?_
   refine At.sI 13 ((k : Int) + 1) (by omega) ?_
   refine At.z 1 ?_
   exact ⟨k + 1, (by omega), (by omega), Sub.o [(107, 107)] [true, false, false, true, true]⟩
 refine AW.exit ?_
 refine AW.q 2 ?_
 refine AW.ret ?_
 refine ⟨_, Sub.refl _ _, ?_⟩
 refine KF.conv (fun w => .ref 0) (fun w => [.arr 5 1 (w.map encU8)]) (show (a.take k ++ List.replicate (a.length - k) (0 : UInt8)) = (a) from endTo (by omega)) ?_
 exact KF.n [(107, 0)]
def K_spec_GetNum (rs : List ResultVar) (b : List UInt8) (at_ : Int) (w0_ : Int) (w1_ : Int) (w2_ : Bool) : Exit → Sg → Prop := KF Try.prog 0 rs (.tup [.int .i64 w0_, .int .i64 w1_, .bool w2_]) []
theorem spec_GetNum_spec  (b : List UInt8) (at_ : Int) (hb : b.length ≤ 1048576) (ha : 0 ≤ at_ ∧ at_ ≤ 2097152) : FnSpec Try.prog 22 [.sl false 1 (b.map encU8), .int .i64 at_] [] (.tup [.int .i64 ((getN b at_).1), .int .i64 ((getN b at_).2.1), .bool ((getN b at_).2.2)]) [] := by
 refine FnSpec.of 59 Try.func22 rfl Try.ntmps22 (by simp) (AW.weakK ?_)
 refine AW.q 3 ?_
 refine AW.seq ?_
 refine AW.r ?_
 refine At.a 3 ?_
 by_cases h1 : at_ < 0
 · refine At.sB 13 _ _ (sayT h1) ?_
   refine At.z 5 ?_
   refine AW.cond true (by kernel_rfl) (fun _ => ?_) (fun h => by cases h)
   refine AW.q 3 ?_
   exact AW.ret (rf (k3 (K_spec_GetNum _ b at_) (show (0) = ((getN b at_).1) from by rw [getN_neg (by omega)]) (show (0) = ((getN b at_).2.1) from by rw [getN_neg (by omega)]) (show (false) = ((getN b at_).2.2) from by rw [getN_neg (by omega)]) (KF.n [])))
 refine At.sB 13 _ _ (sayF h1) ?_
 refine At.a 3 ?_
 refine At.sL 16 encU8 b ?_
 refine At.z 2 ?_
 refine AW.cD (at_ ≥ (b.length : Int)) (fun h2 => ?_) (fun h2 => ?_)
 · refine AW.q 3 ?_
   exact AW.ret (rf (k3 (K_spec_GetNum _ b at_) (show (0) = ((getN b at_).1) from by rw [getN_past (by omega)]) (show (0) = ((getN b at_).2.1) from by rw [getN_past (by omega)]) (show (false) = ((getN b at_).2.2) from by rw [getN_past (by omega)]) (KF.n [])))
 refine AW.skip ?_
 refine AW.q 1 ?_
 refine AW.q 1 ?_
 refine AW.seq ?_
 refine AW.q 1 ?_
 refine AW.block ?_
 refine AW.loopW (fun (x : Nat × Int) => match x with | (k, x) => Go.Sy.mk [.sl false 1 (b.map encU8), .int .i64 at_, .un, .un, .un, .un, .un, .int .i64 x, .int .i64 (unitV k), .int .i64 (k : Int)] []) (fun (x : Nat × Int) => match x with | (k, x) => GR b at_ k x) (fun (x : Nat × Int) => match x with | (k, x) => 9 - k) (0, 0) (GR.start ha.1) (Sub.o [] [true, true, false, false, false, false, false, true, true, true]) ?_
 rintro ⟨k, x⟩ hR
 have hk9 := hR.hk
 have hx0 := hR.h0
 refine AW.seq ?_
 refine AW.r ?_
 refine At.a 3 ?_
 by_cases h3 : (k : Int) < 9
 · refine At.sB 21 _ _ (sayT h3) ?_
   refine At.a 3 ?_
   refine At.sI 24 (at_ + (k : Int)) (by omega) ?_
   refine At.a 2 ?_
   refine At.sL 26 encU8 b ?_
   refine At.z 2 ?_
   refine AW.cD ((at_ + (k : Int)) < (b.length : Int)) (fun h4 => ?_) (fun h4 => ?_)
   · refine AW.skip ?_
     refine AW.seq ?_
     refine AW.block ?_
     refine AW.r ?_
     refine At.a 4 ?_
     refine At.sI 34 (at_ + (k : Int)) (by omega) ?_
     refine At.iSl 28 35 (.tmp 31) (.tmp 34) false 1 (b.map encU8) .i64 (at_ + (k : Int)) 5 (by omega) (by simp only [List.length_map]; omega) ?_
     refine Exists.elim (gE b ((at_ + (k : Int)).toNat) (by omega)) fun e1 he1 => ?_
     have hde1 := hR.bd e1 (by omega)
     refine At.lVp 5 36 (.tmp 35) false 1 (b.map encU8) ((at_ + (k : Int)).toNat) 0 false 1 (encU8 e1) (.int .u8 (e1.toNat : Int)) (mapGet he1) ?_
     refine At.conv (s := 5) (t := 3) (d := 37) (x := .tmp 36) (kd := .u8) (kd' := .i64) (a := (e1.toNat : Int)) (.int .i64 (e1.toNat : Int)) (by kernel_rfl) (by kernel_rfl) (by kernel_rfl) (by kernel_rfl) (sayI _ (by have := UInt8.toNat_lt e1; omega)) ?_
     refine At.z 1 ?_
     refine AW.r ?_
     refine At.a 2 ?_
     refine At.div (t := 3) (u := 3) (d := 40) (op := .rem) (x := .tmp 39) (y := .const (.int .i64 128)) (kd := .i64) (a := (e1.toNat : Int)) (b := 128) (by kernel_rfl) (by kernel_rfl) (by kernel_rfl) (by kernel_rfl) (by omega) (.int .i64 ((e1.toNat : Int).tmod 128)) (.inr ⟨rfl, rfl⟩) ?_
     refine At.say 40 (.int .i64 ((e1.toNat : Int).tmod 128)) (.int .i64 ((e1.toNat : Int) % 128)) (by kernel_rfl) (sayRem (by omega)) ?_
     refine At.a 2 ?_
     refine At.say 42 (.int .i64 (IntKind.i64.wrap (((e1.toNat : Int) % 128) * (unitV k)))) (.int .i64 (digV e1 k)) (by kernel_rfl) (digV_say (by omega)) ?_
     refine At.a 1 ?_
     refine At.sI 43 (x + (digV e1 k)) (by omega) ?_
     refine At.z 1 ?_
     refine AW.seq ?_
     refine AW.q 2 ?_
     refine AW.cD ((e1.toNat : Int) < 128) (fun h5 => ?_) (fun h5 => ?_)
     · refine AW.seq ?_
       refine AW.r ?_
       refine At.a 3 ?_
       by_cases h6 : (e1.toNat : Int) = 0
       · refine At.sB 48 _ _ (sayET h6) ?_
         refine At.z 3 ?_
         refine AW.cD ((k : Int) > 0) (fun h7 => ?_) (fun h7 => ?_)
         · refine AW.q 3 ?_
           exact AW.ret (rf (k3 (K_spec_GetNum _ b at_) (show (0) = ((getN b at_).1) from by rw [hR.zero ha.1 (by omega) he1 (by omega) (by omega)]) (show (0) = ((getN b at_).2.1) from by rw [hR.zero ha.1 (by omega) he1 (by omega) (by omega)]) (show (false) = ((getN b at_).2.2) from by rw [hR.zero ha.1 (by omega) he1 (by omega) (by omega)]) (KF.n [])))
         refine AW.skip ?_
         refine AW.r ?_
         refine At.a 4 ?_
         refine At.sI 55 (at_ + (k : Int)) (by omega) ?_
         refine At.a 1 ?_
         refine At.sI 56 ((at_ + (k : Int)) + 1) (by omega) ?_
         refine At.z 3 ?_
         exact AW.ret (rf (k3 (K_spec_GetNum _ b at_) (show (x + (digV e1 k)) = ((getN b at_).1) from by rw [hR.stop ha.1 (by omega) he1 (by omega) (by omega)]) (show ((at_ + (k : Int)) + 1) = ((getN b at_).2.1) from by rw [hR.stop ha.1 (by omega) he1 (by omega) (by omega)]) (show (true) = ((getN b at_).2.2) from by rw [hR.stop ha.1 (by omega) he1 (by omega) (by omega)]) (KF.n [])))
       refine At.sB 48 _ _ (sayEF h6) ?_
       refine At.z 3 ?_
       refine AW.cond false (by kernel_rfl) (fun h => by cases h) (fun _ => ?_)
       refine AW.skip ?_
       refine AW.r ?_
       refine At.a 4 ?_
       refine At.sI 55 (at_ + (k : Int)) (by omega) ?_
       refine At.a 1 ?_
       refine At.sI 56 ((at_ + (k : Int)) + 1) (by omega) ?_
       refine At.z 3 ?_
       exact AW.ret (rf (k3 (K_spec_GetNum _ b at_) (show (x + (digV e1 k)) = ((getN b at_).1) from by rw [hR.stop ha.1 (by omega) he1 (by omega) (by omega)]) (show ((at_ + (k : Int)) + 1) = ((getN b at_).2.1) from by rw [hR.stop ha.1 (by omega) he1 (by omega) (by omega)]) (show (true) = ((getN b at_).2.2) from by rw [hR.stop ha.1 (by omega) he1 (by omega) (by omega)]) (KF.n [])))
     refine AW.skip ?_
     refine AW.g ?_
     refine At.a 2 ?_
     refine At.say 58 (.int .i64 (IntKind.i64.wrap ((unitV k) * 128))) (.int .i64 (unitV (k + 1))) (by kernel_rfl) (unitV_say (by omega)) ?_
     refine At.z 1 ?_
     refine AW.g ?_
     refine At.a 2 ?_
     refine At.sI 30 ((k : Int) + 1) (by omega) ?_
     refine At.z 1 ?_
     exact ⟨(k + 1, (x + (digV e1 k))), (by exact hR.step ha.1 (by omega) he1 (by omega)), (by simp only; omega), Sub.o [] [true, true, false, false, false, false, false, true, true, true]⟩
   refine AW.exit ?_
   refine AW.q 3 ?_
   exact AW.ret (rf (k3 (K_spec_GetNum _ b at_) (show (0) = ((getN b at_).1) from by rw [hR.over ha.1 (by omega)]) (show (0) = ((getN b at_).2.1) from by rw [hR.over ha.1 (by omega)]) (show (false) = ((getN b at_).2.2) from by rw [hR.over ha.1 (by omega)]) (KF.n [])))
 refine At.sB 21 _ _ (sayF h3) ?_
 refine At.z 7 ?_
 refine AW.cond false (by kernel_rfl) (fun h => by cases h) (fun _ => ?_)
 refine AW.exit ?_
 refine AW.q 3 ?_
 exact AW.ret (rf (k3 (K_spec_GetNum _ b at_) (show (0) = ((getN b at_).1) from by rw [hR.nine (by omega)]) (show (0) = ((getN b at_).2.1) from by rw [hR.nine (by omega)]) (show (false) = ((getN b at_).2.2) from by rw [hR.nine (by omega)]) (KF.n [])))
theorem spec_Sum_spec  (b : List UInt8) (hb : b.length ≤ 1048576) : FnSpec Try.prog 64 [.sl false 1 (b.map encU8)] [] (.int .i64 (sumB b)) [] := by
 refine FnSpec.of 28 Try.func64 rfl Try.ntmps64 (by simp) (AW.weakK ?_)
 refine AW.q 1 ?_
 refine AW.q 2 ?_
 refine AW.seq ?_
 refine AW.q 1 ?_
 refine AW.block ?_
 refine AW.loopW (fun (x : Nat × Int × Int) => match x with | (k, x, y) => Go.Sy.mk [.sl false 1 (b.map encU8), .un, .un, .int .i64 x, .int .i64 y, .int .i64 (k : Int)] []) (fun (x : Nat × Int × Int) => match x with | (k, x, y) => k ≤ b.length ∧ (0 ≤ x ∧ x < 65521) ∧ (0 ≤ y ∧ y < 65521) ∧ sumGo b 1 0 = sumGo (b.drop k) x y) (fun (x : Nat × Int × Int) => match x with | (k, x, y) => b.length - k) (0, 1, 0) ⟨by omega, by omega, by omega, by rw [List.drop_zero]⟩ (Sub.o [] [true, false, false, true, true, true]) ?_
 rintro ⟨k, x, y⟩ ⟨hk, hx, hy, hR⟩
 refine AW.seq ?_
 refine AW.r ?_
 refine At.a 3 ?_
 refine At.sL 8 encU8 b ?_
 refine At.z 1 ?_
 refine AW.cD ((k : Int) < (b.length : Int)) (fun h1 => ?_) (fun h1 => ?_)
 · refine AW.skip ?_
   refine AW.seq ?_
   refine AW.block ?_
   refine AW.r ?_
   refine At.a 3 ?_
   refine At.iSl 28 15 (.tmp 13) (.tmp 14) false 1 (b.map encU8) .i64 (k : Int) 5 (by omega) (by simp only [List.length_map]; omega) ?_
   refine Exists.elim (gE b k (by omega)) fun e1 he1 => ?_
   have hbe1 := UInt8.toNat_lt e1
   refine At.lVp 5 16 (.tmp 15) false 1 (b.map encU8) k 0 false 1 (encU8 e1) (.int .u8 (e1.toNat : Int)) (mapGet he1) ?_
   refine At.conv (s := 5) (t := 3) (d := 17) (x := .tmp 16) (kd := .u8) (kd' := .i64) (a := (e1.toNat : Int)) (.int .i64 (e1.toNat : Int)) (by kernel_rfl) (by kernel_rfl) (by kernel_rfl) (by kernel_rfl) (sayI _ (by have := UInt8.toNat_lt e1; omega)) ?_
   refine At.a 1 ?_
   refine At.sI 18 (x + (e1.toNat : Int)) (by omega) ?_
   refine At.div (t := 3) (u := 3) (d := 19) (op := .rem) (x := .tmp 18) (y := .const (.int .i64 65521)) (kd := .i64) (a := x + (e1.toNat : Int)) (b := 65521) (by kernel_rfl) (by kernel_rfl) (by kernel_rfl) (by kernel_rfl) (by omega) (.int .i64 ((x + (e1.toNat : Int)).tmod 65521)) (.inr ⟨rfl, rfl⟩) ?_
   refine At.say 19 (.int .i64 ((x + (e1.toNat : Int)).tmod 65521)) (.int .i64 ((x + (e1.toNat : Int)) % 65521)) (by kernel_rfl) (sayRem (by omega)) ?_
   refine At.z 1 ?_
   refine AW.g ?_
   refine At.a 3 ?_
   refine At.sI 22 (y + ((x + (e1.toNat : Int)) % 65521)) (by omega) ?_
   refine At.div (t := 3) (u := 3) (d := 23) (op := .rem) (x := .tmp 22) (y := .const (.int .i64 65521)) (kd := .i64) (a := y + ((x + (e1.toNat : Int)) % 65521)) (b := 65521) (by kernel_rfl) (by kernel_rfl) (by kernel_rfl) (by kernel_rfl) (by omega) (.int .i64 ((y + ((x + (e1.toNat : Int)) % 65521)).tmod 65521)) (.inr ⟨rfl, rfl⟩) ?_
   refine At.say 23 (.int .i64 ((y + ((x + (e1.toNat : Int)) % 65521)).tmod 65521)) (.int .i64 ((y + ((x + (e1.toNat : Int)) % 65521)) % 65521)) (by kernel_rfl) (sayRem (by omega)) ?_
   refine At.z 1 ?_
   refine AW.g ?_
   refine At.a 2 ?_
   refine At.sI 11 ((k : Int) + 1) (by omega) ?_
   refine At.z 1 ?_
   exact ⟨(k + 1, ((x + (e1.toNat : Int)) % 65521), ((y + ((x + (e1.toNat : Int)) % 65521)) % 65521)), ⟨by omega, by omega, by omega, sum_step hR he1⟩, (by simp only; omega), Sub.o [] [true, false, false, true, true, true]⟩
 refine AW.exit ?_
 refine AW.r ?_
 refine At.a 2 ?_
 refine At.sI 25 (65536 * y) (by omega) ?_
 refine At.a 2 ?_
 refine At.sI 27 ((65536 * y) + x) (by omega) ?_
 refine At.z 1 ?_
 refine AW.ret ?_
 refine ⟨_, Sub.refl _ _, ?_⟩
 refine KF.conv (fun w => .int .i64 w) (fun w => []) (show ((65536 * y) + x) = (sumB b) from sum_end hR (by omega)) ?_
 exact KF.n []
def K_spec_Unseal (rs : List ResultVar) (b : List UInt8) (at_ : Int) (w0_ : List UInt8) (w1_ : Int) (w2_ : Int) : Exit → Sg → Prop := KF Try.prog 0 rs (.tup [.ref 0, .int .i64 w1_, .int .i64 w2_]) [.arr 5 1 (w0_.map encU8)]
theorem spec_Unseal_spec  (b : List UInt8) (at_ : Int) (hb : b.length ≤ 1048576) (ha : 0 ≤ at_ ∧ at_ ≤ 1048576) : FnSpec Try.prog 43 [.sl false 1 (b.map encU8), .int .i64 at_] [] (.tup [.ref 0, .int .i64 ((unsealB b at_).2.1), .int .i64 ((unsealB b at_).2.2)]) [.arr 5 1 (((unsealB b at_).1).map encU8)] := by
 have hgn := getN_num b (at_ := at_)
 have hx1 : ((getN b at_).2.1 + (getN b at_).1).toNat - (getN b at_).2.1.toNat = (getN b at_).1.toNat := by omega
 have hx2 : ((getN b at_).2.1 + (getN b at_).1 + 4).toNat - ((getN b at_).2.1 + (getN b at_).1).toNat = 4 := by omega
 refine FnSpec.of 82 Try.func43 rfl Try.ntmps43 (by simp) (AW.weakK ?_)
 refine AW.q 3 ?_
 refine AW.r ?_
 refine At.a 2 ?_
 refine At.c (spec_GetNum_spec  b at_ hb (by omega)) Try.call22 true [] [] [] trivial ?_
 refine At.z 7 ?_
 refine AW.seq ?_
 refine AW.r ?_
 refine At.a 3 ?_
 by_cases h1 : ((getN b at_).2.2) = true
 · refine At.sB 21 (!((getN b at_).2.2)) false (sayNF (sayB h1)) ?_
   refine At.z 3 ?_
   refine AW.cD (((getN b at_).1) > 3000) (fun h2 => ?_) (fun h2 => ?_)
   · refine AW.r ?_
     refine At.lit0 (t := 28) (d := 25) (e := 5) (es := 1) (bytes := 1) 125 (by kernel_rfl) (by kernel_rfl) (by kernel_rfl) (by kernel_rfl) ?_
     refine At.z 3 ?_
     exact AW.ret (rf (k3 (K_spec_Unseal _ b at_) (show ([]) = ((unsealB b at_).1) from by rw [unseal_big (by assumption)]) (show (0) = ((unsealB b at_).2.1) from by rw [unseal_big (by assumption)]) (show (1) = ((unsealB b at_).2.2) from by rw [unseal_big (by assumption)]) (KF.n [(125, 0)])))
   refine AW.skip ?_
   refine AW.seq ?_
   refine AW.r ?_
   refine At.a 2 ?_
   refine At.sL 27 encU8 b ?_
   refine At.a 2 ?_
   refine At.sI 29 ((b.length : Int) - ((getN b at_).2.1)) (by omega) ?_
   refine At.a 2 ?_
   refine At.sI 31 (((getN b at_).1) + 4) (by omega) ?_
   refine At.z 1 ?_
   refine AW.cD (((b.length : Int) - ((getN b at_).2.1)) < (((getN b at_).1) + 4)) (fun h3 => ?_) (fun h3 => ?_)
   · refine AW.r ?_
     refine At.lit0 (t := 28) (d := 33) (e := 5) (es := 1) (bytes := 1) 133 (by kernel_rfl) (by kernel_rfl) (by kernel_rfl) (by kernel_rfl) ?_
     refine At.z 3 ?_
     exact AW.ret (rf (k3 (K_spec_Unseal _ b at_) (show ([]) = ((unsealB b at_).1) from by rw [unseal_short' (by assumption) (by assumption) (by omega)]) (show (0) = ((unsealB b at_).2.1) from by rw [unseal_short' (by assumption) (by assumption) (by omega)]) (show (2) = ((unsealB b at_).2.2) from by rw [unseal_short' (by assumption) (by assumption) (by omega)]) (KF.n [(133, 0)])))
   refine AW.skip ?_
   refine AW.r ?_
   refine At.lit0 (t := 28) (d := 34) (e := 5) (es := 1) (bytes := 1) 134 (by kernel_rfl) (by kernel_rfl) (by kernel_rfl) (by kernel_rfl) ?_
   refine At.a 5 ?_
   refine At.sI 39 (((getN b at_).2.1) + ((getN b at_).1)) (by omega) ?_
   refine At.sliceSl (t := 28) (d := 40) (e := 5) (es := 1) (x := .tmp 35) (lx := some (.tmp 36)) (hx := some (.tmp 39)) (p := false) (xs := (b.map encU8)) (vl := .int .i64 ((getN b at_).2.1)) (vh := .int .i64 (((getN b at_).2.1) + ((getN b at_).1))) (((getN b at_).2.1).toNat) ((((getN b at_).2.1) + ((getN b at_).1)).toNat) (((b.drop (((getN b at_).2.1).toNat)).take (((((getN b at_).2.1) + ((getN b at_).1)).toNat) - (((getN b at_).2.1).toNat))).map encU8) (by kernel_rfl) (by kernel_rfl) (by kernel_rfl) (by kernel_rfl) (.inr ⟨_, _, rfl, sayNat (by omega)⟩) (.inr ⟨_, _, rfl, sayNat (by omega)⟩) (by omega) (by simp only [List.length_map]; omega) (by simp [List.map_take, List.map_drop]) ?_
   refine At.append (t := 28) (d := 41) (e := 5) (es := 1) (bytes := 1) (s := .tmp 34) (x := .tmp 40) (S := .ref 134) (T := .sl false 1 (((b.drop (((getN b at_).2.1).toNat)).take (((((getN b at_).2.1) + ((getN b at_).1)).toNat) - (((getN b at_).2.1).toNat))).map encU8)) (xs := []) (ys := (((b.drop (((getN b at_).2.1).toNat)).take (((((getN b at_).2.1) + ((getN b at_).1)).toNat) - (((getN b at_).2.1).toNat))).map encU8)) 141 [134] [] (((b.drop (((getN b at_).2.1).toNat)).take (((((getN b at_).2.1) + ((getN b at_).1)).toNat) - (((getN b at_).2.1).toNat))).map encU8) (by kernel_rfl) (by kernel_rfl) (by kernel_rfl) (by kernel_rfl) ⟨by kernel_rfl, rfl⟩ ⟨rfl, rfl, (allP_encU8 _), rfl⟩ (by kernel_rfl) (by kernel_rfl) (by simp) (by simp only [List.length_map, List.length_append, List.length_take, List.length_drop, List.length_replicate, List.length_set, List.length_cons, List.length_nil]; omega) (by simp only [List.length_map, List.length_append, List.length_take, List.length_drop, List.length_replicate, List.length_set, List.length_cons, List.length_nil]; omega) ?_
   refine At.z 1 ?_
   refine AW.r ?_
   refine At.a 4 ?_
   refine At.sI 45 (((getN b at_).2.1) + ((getN b at_).1)) (by omega) ?_
   refine At.a 3 ?_
   refine At.sI 48 (((getN b at_).2.1) + ((getN b at_).1)) (by omega) ?_
   refine At.a 1 ?_
   refine At.sI 49 ((((getN b at_).2.1) + ((getN b at_).1)) + 4) (by omega) ?_
   refine At.sliceSl (t := 28) (d := 50) (e := 5) (es := 1) (x := .tmp 42) (lx := some (.tmp 45)) (hx := some (.tmp 49)) (p := false) (xs := (b.map encU8)) (vl := .int .i64 (((getN b at_).2.1) + ((getN b at_).1))) (vh := .int .i64 ((((getN b at_).2.1) + ((getN b at_).1)) + 4)) ((((getN b at_).2.1) + ((getN b at_).1)).toNat) (((((getN b at_).2.1) + ((getN b at_).1)) + 4).toNat) (((b.drop ((((getN b at_).2.1) + ((getN b at_).1)).toNat)).take ((((((getN b at_).2.1) + ((getN b at_).1)) + 4).toNat) - ((((getN b at_).2.1) + ((getN b at_).1)).toNat))).map encU8) (by kernel_rfl) (by kernel_rfl) (by kernel_rfl) (by kernel_rfl) (.inr ⟨_, _, rfl, sayNat (by omega)⟩) (.inr ⟨_, _, rfl, sayNat (by omega)⟩) (by omega) (by simp only [List.length_map]; omega) (by simp [List.map_take, List.map_drop]) ?_
   refine At.z 1 ?_
   refine AW.seq ?_
   refine AW.seq ?_
   refine AW.gD Try_mix ?_
   refine At.a 1 ?_
   refine At.c (spec_Sum_spec  ((b.drop (((getN b at_).2.1).toNat)).take (((((getN b at_).2.1) + ((getN b at_).1)).toNat) - (((getN b at_).2.1).toNat))) (by simp only [List.length_take, List.length_drop]; omega)) Try.call64 false [] [] [(141, 1, (((b.drop (((getN b at_).2.1).toNat)).take (((((getN b at_).2.1) + ((getN b at_).1)).toNat) - (((getN b at_).2.1).toNat))).map encU8))] ⟨rfl, ⟨5, (((b.drop (((getN b at_).2.1).toNat)).take (((((getN b at_).2.1) + ((getN b at_).1)).toNat) - (((getN b at_).2.1).toNat))).map encU8), by kernel_rfl, FrzIs.same (allP_encU8 _)⟩, trivial⟩ ?_
   refine At.a 1 ?_
   refine At.iSl 28 54 (.tmp 53) (.const (.int .i64 0)) false 1 (((b.drop ((((getN b at_).2.1) + ((getN b at_).1)).toNat)).take ((((((getN b at_).2.1) + ((getN b at_).1)) + 4).toNat) - ((((getN b at_).2.1) + ((getN b at_).1)).toNat))).map encU8) .i64 0 5 (by omega) (by simp only [List.length_map, List.length_append, List.length_take, List.length_drop, List.length_replicate, List.length_set, List.length_cons, List.length_nil]; omega) ?_
   refine Exists.elim (gE ((b.drop ((((getN b at_).2.1) + ((getN b at_).1)).toNat)).take ((((((getN b at_).2.1) + ((getN b at_).1)) + 4).toNat) - ((((getN b at_).2.1) + ((getN b at_).1)).toNat))) 0 (by simp only [List.length_map, List.length_append, List.length_take, List.length_drop, List.length_replicate, List.length_set, List.length_cons, List.length_nil]; omega)) fun e1 he1 => ?_
   have hbe1 := UInt8.toNat_lt e1
   refine At.lVp 5 55 (.tmp 54) false 1 (((b.drop ((((getN b at_).2.1) + ((getN b at_).1)).toNat)).take ((((((getN b at_).2.1) + ((getN b at_).1)) + 4).toNat) - ((((getN b at_).2.1) + ((getN b at_).1)).toNat))).map encU8) 0 0 false 1 (encU8 e1) (.int .u8 (e1.toNat : Int)) (mapGet he1) ?_
   refine At.conv (s := 5) (t := 3) (d := 56) (x := .tmp 55) (kd := .u8) (kd' := .i64) (a := (e1.toNat : Int)) (.int .i64 (e1.toNat : Int)) (by kernel_rfl) (by kernel_rfl) (by kernel_rfl) (by kernel_rfl) (sayI _ (by have := UInt8.toNat_lt e1; omega)) ?_
   refine At.a 1 ?_
   refine At.iSl 28 58 (.tmp 57) (.const (.int .i64 1)) false 1 (((b.drop ((((getN b at_).2.1) + ((getN b at_).1)).toNat)).take ((((((getN b at_).2.1) + ((getN b at_).1)) + 4).toNat) - ((((getN b at_).2.1) + ((getN b at_).1)).toNat))).map encU8) .i64 1 5 (by omega) (by simp only [List.length_map, List.length_append, List.length_take, List.length_drop, List.length_replicate, List.length_set, List.length_cons, List.length_nil]; omega) ?_
   refine Exists.elim (gE ((b.drop ((((getN b at_).2.1) + ((getN b at_).1)).toNat)).take ((((((getN b at_).2.1) + ((getN b at_).1)) + 4).toNat) - ((((getN b at_).2.1) + ((getN b at_).1)).toNat))) 1 (by simp only [List.length_map, List.length_append, List.length_take, List.length_drop, List.length_replicate, List.length_set, List.length_cons, List.length_nil]; omega)) fun e2 he2 => ?_
   have hbe2 := UInt8.toNat_lt e2
   refine At.lVp 5 59 (.tmp 58) false 1 (((b.drop ((((getN b at_).2.1) + ((getN b at_).1)).toNat)).take ((((((getN b at_).2.1) + ((getN b at_).1)) + 4).toNat) - ((((getN b at_).2.1) + ((getN b at_).1)).toNat))).map encU8) 1 0 false 1 (encU8 e2) (.int .u8 (e2.toNat : Int)) (mapGet he2) ?_
   refine At.conv (s := 5) (t := 3) (d := 60) (x := .tmp 59) (kd := .u8) (kd' := .i64) (a := (e2.toNat : Int)) (.int .i64 (e2.toNat : Int)) (by kernel_rfl) (by kernel_rfl) (by kernel_rfl) (by kernel_rfl) (sayI _ (by have := UInt8.toNat_lt e2; omega)) ?_
   refine At.shift (t := 3) (u := 93) (d := 61) (op := .shl) (x := .tmp 60) (y := .const (.int .u64 8)) (kd := .i64) (kd' := .u64) (a := (e2.toNat : Int)) (b := 8) ((e2.toNat : Int) * 256) (by kernel_rfl) (by kernel_rfl) (by kernel_rfl) (by kernel_rfl) (by omega) ((shS_shl _ _ _).trans (congrArg some shl_8)) ?_
   refine At.a 1 ?_
   refine At.sI 62 ((e1.toNat : Int) + ((e2.toNat : Int) * 256)) (by omega) ?_
   refine At.a 1 ?_
   refine At.iSl 28 64 (.tmp 63) (.const (.int .i64 2)) false 1 (((b.drop ((((getN b at_).2.1) + ((getN b at_).1)).toNat)).take ((((((getN b at_).2.1) + ((getN b at_).1)) + 4).toNat) - ((((getN b at_).2.1) + ((getN b at_).1)).toNat))).map encU8) .i64 2 5 (by omega) (by simp only [List.length_map, List.length_append, List.length_take, List.length_drop, List.length_replicate, List.length_set, List.length_cons, List.length_nil]; omega) ?_
   refine Exists.elim (gE ((b.drop ((((getN b at_).2.1) + ((getN b at_).1)).toNat)).take ((((((getN b at_).2.1) + ((getN b at_).1)) + 4).toNat) - ((((getN b at_).2.1) + ((getN b at_).1)).toNat))) 2 (by simp only [List.length_map, List.length_append, List.length_take, List.length_drop, List.length_replicate, List.length_set, List.length_cons, List.length_nil]; omega)) fun e3 he3 => ?_
   have hbe3 := UInt8.toNat_lt e3
   refine At.lVp 5 65 (.tmp 64) false 1 (((b.drop ((((getN b at_).2.1) + ((getN b at_).1)).toNat)).take ((((((getN b at_).2.1) + ((getN b at_).1)) + 4).toNat) - ((((getN b at_).2.1) + ((getN b at_).1)).toNat))).map encU8) 2 0 false 1 (encU8 e3) (.int .u8 (e3.toNat : Int)) (mapGet he3) ?_
   refine At.conv (s := 5) (t := 3) (d := 66) (x := .tmp 65) (kd := .u8) (kd' := .i64) (a := (e3.toNat : Int)) (.int .i64 (e3.toNat : Int)) (by kernel_rfl) (by kernel_rfl) (by kernel_rfl) (by kernel_rfl) (sayI _ (by have := UInt8.toNat_lt e3; omega)) ?_
   refine At.shift (t := 3) (u := 93) (d := 67) (op := .shl) (x := .tmp 66) (y := .const (.int .u64 16)) (kd := .i64) (kd' := .u64) (a := (e3.toNat : Int)) (b := 16) ((e3.toNat : Int) * 65536) (by kernel_rfl) (by kernel_rfl) (by kernel_rfl) (by kernel_rfl) (by omega) ((shS_shl _ _ _).trans (congrArg some shl_16)) ?_
   refine At.a 1 ?_
   refine At.sI 68 (((e1.toNat : Int) + ((e2.toNat : Int) * 256)) + ((e3.toNat : Int) * 65536)) (by omega) ?_
   refine At.a 1 ?_
   refine At.iSl 28 70 (.tmp 69) (.const (.int .i64 3)) false 1 (((b.drop ((((getN b at_).2.1) + ((getN b at_).1)).toNat)).take ((((((getN b at_).2.1) + ((getN b at_).1)) + 4).toNat) - ((((getN b at_).2.1) + ((getN b at_).1)).toNat))).map encU8) .i64 3 5 (by omega) (by simp only [List.length_map, List.length_append, List.length_take, List.length_drop, List.length_replicate, List.length_set, List.length_cons, List.length_nil]; omega) ?_
   refine Exists.elim (gE ((b.drop ((((getN b at_).2.1) + ((getN b at_).1)).toNat)).take ((((((getN b at_).2.1) + ((getN b at_).1)) + 4).toNat) - ((((getN b at_).2.1) + ((getN b at_).1)).toNat))) 3 (by simp only [List.length_map, List.length_append, List.length_take, List.length_drop, List.length_replicate, List.length_set, List.length_cons, List.length_nil]; omega)) fun e4 he4 => ?_
   have hbe4 := UInt8.toNat_lt e4
   refine At.lVp 5 71 (.tmp 70) false 1 (((b.drop ((((getN b at_).2.1) + ((getN b at_).1)).toNat)).take ((((((getN b at_).2.1) + ((getN b at_).1)) + 4).toNat) - ((((getN b at_).2.1) + ((getN b at_).1)).toNat))).map encU8) 3 0 false 1 (encU8 e4) (.int .u8 (e4.toNat : Int)) (mapGet he4) ?_
   refine At.conv (s := 5) (t := 3) (d := 72) (x := .tmp 71) (kd := .u8) (kd' := .i64) (a := (e4.toNat : Int)) (.int .i64 (e4.toNat : Int)) (by kernel_rfl) (by kernel_rfl) (by kernel_rfl) (by kernel_rfl) (sayI _ (by have := UInt8.toNat_lt e4; omega)) ?_
   refine At.shift (t := 3) (u := 93) (d := 73) (op := .shl) (x := .tmp 72) (y := .const (.int .u64 24)) (kd := .i64) (kd' := .u64) (a := (e4.toNat : Int)) (b := 24) ((e4.toNat : Int) * 16777216) (by kernel_rfl) (by kernel_rfl) (by kernel_rfl) (by kernel_rfl) (by omega) ((shS_shl _ _ _).trans (congrArg some shl_24)) ?_
   refine At.a 1 ?_
   refine At.sI 74 ((((e1.toNat : Int) + ((e2.toNat : Int) * 256)) + ((e3.toNat : Int) * 65536)) + ((e4.toNat : Int) * 16777216)) (by omega) ?_
   refine At.zD 1 ?_
   refine AW.cU (sumB ((b.drop (((getN b at_).2.1).toNat)).take (((((getN b at_).2.1) + ((getN b at_).1)).toNat) - (((getN b at_).2.1).toNat)))) ((((e1.toNat : Int) + ((e2.toNat : Int) * 256)) + ((e3.toNat : Int) * 65536)) + ((e4.toNat : Int) * 16777216)) (fun h4 => ?_) (fun h4 => ?_)
   · refine AW.r ?_
     refine At.lit0 (t := 28) (d := 76) (e := 5) (es := 1) (bytes := 1) 176 (by kernel_rfl) (by kernel_rfl) (by kernel_rfl) (by kernel_rfl) ?_
     refine At.z 3 ?_
     exact AW.ret (rf (k3 (K_spec_Unseal _ b at_) (show ([]) = ((unsealB b at_).1) from by rw [unseal_sum' (c := [e1, e2, e3, e4]) h1 h2 (by omega) (by have q4 := quad (by rw [hx2]; exact four_bytes ⟨hgn.1.1, hgn.2.1⟩ (by omega)) he1 he2 he3 he4; rw [hx2] at q4; exact q4.symm) (fun e => h4 (by rw [hx1]; exact (sum4_iff (sumB_in _).1 (sumB_in _).2).1 e))]; first | done | rfl | (rw [hx1]; done) | (rw [hx1]; rfl)) (show (0) = ((unsealB b at_).2.1) from by rw [unseal_sum' (c := [e1, e2, e3, e4]) h1 h2 (by omega) (by have q4 := quad (by rw [hx2]; exact four_bytes ⟨hgn.1.1, hgn.2.1⟩ (by omega)) he1 he2 he3 he4; rw [hx2] at q4; exact q4.symm) (fun e => h4 (by rw [hx1]; exact (sum4_iff (sumB_in _).1 (sumB_in _).2).1 e))]; first | done | rfl | (rw [hx1]; done) | (rw [hx1]; rfl)) (show (3) = ((unsealB b at_).2.2) from by rw [unseal_sum' (c := [e1, e2, e3, e4]) h1 h2 (by omega) (by have q4 := quad (by rw [hx2]; exact four_bytes ⟨hgn.1.1, hgn.2.1⟩ (by omega)) he1 he2 he3 he4; rw [hx2] at q4; exact q4.symm) (fun e => h4 (by rw [hx1]; exact (sum4_iff (sumB_in _).1 (sumB_in _).2).1 e))]; first | done | rfl | (rw [hx1]; done) | (rw [hx1]; rfl)) (KF.n [(176, 0)])))
   refine AW.skip ?_
   refine AW.r ?_
   refine At.a 4 ?_
   refine At.sI 80 (((getN b at_).2.1) + ((getN b at_).1)) (by omega) ?_
   refine At.a 1 ?_
   refine At.sI 81 ((((getN b at_).2.1) + ((getN b at_).1)) + 4) (by omega) ?_
   refine At.z 3 ?_
   exact AW.ret (rf (k3 (K_spec_Unseal _ b at_) (show ((b.drop (((getN b at_).2.1).toNat)).take (((((getN b at_).2.1) + ((getN b at_).1)).toNat) - (((getN b at_).2.1).toNat))) = ((unsealB b at_).1) from by rw [unseal_yes' (c := [e1, e2, e3, e4]) h1 h2 (by omega) (by have q4 := quad (by rw [hx2]; exact four_bytes ⟨hgn.1.1, hgn.2.1⟩ (by omega)) he1 he2 he3 he4; rw [hx2] at q4; exact q4.symm) ((sum4_iff (sumB_in _).1 (sumB_in _).2).2 (by have q := h4; rw [hx1] at q; exact q))]; first | done | rfl | (rw [hx1]; done) | (rw [hx1]; rfl)) (show ((((getN b at_).2.1) + ((getN b at_).1)) + 4) = ((unsealB b at_).2.1) from by rw [unseal_yes' (c := [e1, e2, e3, e4]) h1 h2 (by omega) (by have q4 := quad (by rw [hx2]; exact four_bytes ⟨hgn.1.1, hgn.2.1⟩ (by omega)) he1 he2 he3 he4; rw [hx2] at q4; exact q4.symm) ((sum4_iff (sumB_in _).1 (sumB_in _).2).2 (by have q := h4; rw [hx1] at q; exact q))]; first | done | rfl | (rw [hx1]; done) | (rw [hx1]; rfl)) (show (0) = ((unsealB b at_).2.2) from by rw [unseal_yes' (c := [e1, e2, e3, e4]) h1 h2 (by omega) (by have q4 := quad (by rw [hx2]; exact four_bytes ⟨hgn.1.1, hgn.2.1⟩ (by omega)) he1 he2 he3 he4; rw [hx2] at q4; exact q4.symm) ((sum4_iff (sumB_in _).1 (sumB_in _).2).2 (by have q := h4; rw [hx1] at q; exact q))]; first | done | rfl | (rw [hx1]; done) | (rw [hx1]; rfl)) (KF.n [(141, 0)])))
 refine At.sB 21 (!((getN b at_).2.2)) true (sayNT (sayB (Bool.eq_false_iff.2 h1))) ?_
 replace h1 := Bool.eq_false_iff.2 h1
 refine At.z 3 ?_
 refine AW.cond true (by kernel_rfl) (fun _ => ?_) (fun h => by cases h)
 refine AW.r ?_
 refine At.lit0 (t := 28) (d := 25) (e := 5) (es := 1) (bytes := 1) 125 (by kernel_rfl) (by kernel_rfl) (by kernel_rfl) (by kernel_rfl) ?_
 refine At.z 3 ?_
 exact AW.ret (rf (k3 (K_spec_Unseal _ b at_) (show ([]) = ((unsealB b at_).1) from by rw [unseal_no (by assumption)]) (show (0) = ((unsealB b at_).2.1) from by rw [unseal_no (by assumption)]) (show (1) = ((unsealB b at_).2.2) from by rw [unseal_no (by assumption)]) (KF.n [(125, 0)])))
theorem spec_l1In_spec  (x : Int) (lo : Int) (hi : Int) : FnSpec Try.prog 63 [.int .i64 x, .int .i64 lo, .int .i64 hi] [] (.bool (inR x lo hi)) [] := by
 refine FnSpec.of 15 Try.func63 rfl Try.ntmps63 (by simp) (AW.weakK ?_)
 refine AW.q 1 ?_
 refine AW.r ?_
 refine At.a 4 ?_
 by_cases h1 : x ≥ lo
 · refine At.sB 10 _ _ (sayT h1) ?_
   refine At.z 5 ?_
   refine AW.ret ?_
   refine ⟨_, Sub.refl _ _, ?_⟩
   refine KF.conv (fun w => .bool w) (fun w => []) (show (decide (x ≤ hi)) = (inR x lo hi) from by simp [inR, *]) ?_
   exact KF.n []
 refine At.sB 10 _ _ (sayF h1) ?_
 refine At.z 5 ?_
 refine AW.ret ?_
 refine ⟨_, Sub.refl _ _, ?_⟩
 refine KF.conv (fun w => .bool w) (fun w => []) (show (false) = (inR x lo hi) from by simp [inR, *]) ?_
 exact KF.n []
theorem spec_l8Has_spec  (kind : Int) : FnSpec Try.prog 28 [.int .i64 kind] [] (.str (l8F kind)) [] := by
 refine FnSpec.of 10 Try.func28 rfl Try.ntmps28 (by simp) (AW.weakK ?_)
 refine AW.q 1 ?_
 refine AW.seq ?_
 refine AW.r ?_
 refine At.a 1 ?_
 refine At.c (spec_l1In_spec  kind 1 7 ) Try.call63 true [] [] [] trivial ?_
 refine At.z 1 ?_
 refine AW.cNB (inR kind 1 7) (fun h1 => ?_) (fun h1 => ?_)
 · refine AW.q 1 ?_
   refine AW.ret ?_
   refine ⟨_, Sub.refl _ _, ?_⟩
   refine KF.conv (fun w => .str w) (fun w => []) (show ((⟨#[]⟩ : ByteArray)) = (l8F kind) from by simp [l8F, h1]; done) ?_
   exact KF.n []
 have h1i := inR_iff.1 h1
 refine AW.skip ?_
 refine AW.r ?_
 refine At.ll 6 9 1 106 (56, 6) (([(⟨#[]⟩ : ByteArray), (⟨#[102, 116, 97, 115]⟩ : ByteArray), (⟨#[102, 116, 121]⟩ : ByteArray), (⟨#[102, 116, 97, 115, 99, 101]⟩ : ByteArray), (⟨#[102, 116, 121, 97]⟩ : ByteArray), (⟨#[102, 114, 112]⟩ : ByteArray), (⟨#[102, 114, 112, 98]⟩ : ByteArray), (⟨#[102, 100]⟩ : ByteArray)]).map encS) ?_
 refine At.a 1 ?_
 refine At.iRf 91 8 (.tmp 6) (.tmp 7) 106 (([(⟨#[]⟩ : ByteArray), (⟨#[102, 116, 97, 115]⟩ : ByteArray), (⟨#[102, 116, 121]⟩ : ByteArray), (⟨#[102, 116, 97, 115, 99, 101]⟩ : ByteArray), (⟨#[102, 116, 121, 97]⟩ : ByteArray), (⟨#[102, 114, 112]⟩ : ByteArray), (⟨#[102, 114, 112, 98]⟩ : ByteArray), (⟨#[102, 100]⟩ : ByteArray)]).map encS) .i64 kind 9 1 (by omega) (by simp only [List.length_map, List.length_append, List.length_take, List.length_drop, List.length_replicate, List.length_set, List.length_cons, List.length_nil]; omega) ?_
 refine Exists.elim (gE ([(⟨#[]⟩ : ByteArray), (⟨#[102, 116, 97, 115]⟩ : ByteArray), (⟨#[102, 116, 121]⟩ : ByteArray), (⟨#[102, 116, 97, 115, 99, 101]⟩ : ByteArray), (⟨#[102, 116, 121, 97]⟩ : ByteArray), (⟨#[102, 114, 112]⟩ : ByteArray), (⟨#[102, 114, 112, 98]⟩ : ByteArray), (⟨#[102, 100]⟩ : ByteArray)]) ((kind).toNat) (by simp only [List.length_map, List.length_append, List.length_take, List.length_drop, List.length_replicate, List.length_set, List.length_cons, List.length_nil]; omega)) fun e1 he1 => ?_
 refine At.lEl 9 9 (.tmp 8) 106 9 1 (([(⟨#[]⟩ : ByteArray), (⟨#[102, 116, 97, 115]⟩ : ByteArray), (⟨#[102, 116, 121]⟩ : ByteArray), (⟨#[102, 116, 97, 115, 99, 101]⟩ : ByteArray), (⟨#[102, 116, 121, 97]⟩ : ByteArray), (⟨#[102, 114, 112]⟩ : ByteArray), (⟨#[102, 114, 112, 98]⟩ : ByteArray), (⟨#[102, 100]⟩ : ByteArray)]).map encS) ((kind).toNat) 0 false 1 (encS e1) (.str e1) (mapGet he1) ?_
 refine At.z 1 ?_
 refine AW.ret ?_
 refine ⟨_, Sub.refl _ _, ?_⟩
 refine KF.conv (fun w => .str w) (fun w => []) (show (e1) = (l8F kind) from by rw [l8F, if_pos (by assumption)]; simp only [l8L, he1, Option.getD_some]) ?_
 exact KF.n []
def K_spec_GetText (rs : List ResultVar) (b : List UInt8) (at_ : Int) (w0_ : ByteArray) (w1_ : Int) (w2_ : Bool) : Exit → Sg → Prop := KF Try.prog 0 rs (.tup [.str w0_, .int .i64 w1_, .bool w2_]) []
theorem spec_GetText_spec  (b : List UInt8) (at_ : Int) (hb : b.length ≤ 1048576) (ha : 0 ≤ at_ ∧ at_ ≤ 2097152) : FnSpec Try.prog 73 [.sl false 1 (b.map encU8), .int .i64 at_] [] (.tup [.str ((textS b at_).1), .int .i64 ((textS b at_).2.1), .bool ((textS b at_).2.2)]) [] := by
 have hgn := getN_num b (at_ := at_)
 have hx1 : ((getN b at_).2.1 + (getN b at_).1).toNat - (getN b at_).2.1.toNat = (getN b at_).1.toNat := by omega
 have hx2 : ((getN b at_).2.1 + (getN b at_).1 + 4).toNat - ((getN b at_).2.1 + (getN b at_).1).toNat = 4 := by omega
 refine FnSpec.of 41 Try.func73 rfl Try.ntmps73 (by simp) (AW.weakK ?_)
 refine AW.q 3 ?_
 refine AW.r ?_
 refine At.a 2 ?_
 refine At.c (spec_GetNum_spec  b at_ hb (by omega)) Try.call22 true [] [] [] trivial ?_
 refine At.z 7 ?_
 refine AW.seq ?_
 refine AW.r ?_
 refine At.a 3 ?_
 by_cases h1 : ((getN b at_).2.2) = true
 · refine At.sB 19 (!((getN b at_).2.2)) false (sayNF (sayB h1)) ?_
   refine At.a 4 ?_
   by_cases h2 : ((getN b at_).1) > 3000
   · refine At.sB 23 _ _ (sayT h2) ?_
     refine At.z 7 ?_
     refine AW.cond true (by kernel_rfl) (fun _ => ?_) (fun h => by cases h)
     refine AW.q 3 ?_
     exact AW.ret (rf (k3 (K_spec_GetText _ b at_) (show ((⟨#[]⟩ : ByteArray)) = ((textS b at_).1) from by simp [textS, subB, h1, h2] <;> (rw [hx1])) (show (0) = ((textS b at_).2.1) from by simp [textS, subB, h1, h2] <;> (rw [hx1])) (show (false) = ((textS b at_).2.2) from by simp [textS, subB, h1, h2] <;> (rw [hx1])) (KF.n [])))
   refine At.sB 23 _ _ (sayF h2) ?_
   refine At.a 3 ?_
   refine At.sL 26 encU8 b ?_
   refine At.a 2 ?_
   refine At.sI 28 ((b.length : Int) - ((getN b at_).2.1)) (by omega) ?_
   refine At.z 2 ?_
   refine AW.cD (((getN b at_).1) > ((b.length : Int) - ((getN b at_).2.1))) (fun h3 => ?_) (fun h3 => ?_)
   · refine AW.q 3 ?_
     exact AW.ret (rf (k3 (K_spec_GetText _ b at_) (show ((⟨#[]⟩ : ByteArray)) = ((textS b at_).1) from by simp [textS, subB, h1, h2, h3] <;> (rw [hx1])) (show (0) = ((textS b at_).2.1) from by simp [textS, subB, h1, h2, h3] <;> (rw [hx1])) (show (false) = ((textS b at_).2.2) from by simp [textS, subB, h1, h2, h3] <;> (rw [hx1])) (KF.n [])))
   refine AW.skip ?_
   refine AW.r ?_
   refine At.a 5 ?_
   refine At.sI 35 (((getN b at_).2.1) + ((getN b at_).1)) (by omega) ?_
   refine At.sliceSl (t := 28) (d := 36) (e := 5) (es := 1) (x := .tmp 31) (lx := some (.tmp 32)) (hx := some (.tmp 35)) (p := false) (xs := (b.map encU8)) (vl := .int .i64 ((getN b at_).2.1)) (vh := .int .i64 (((getN b at_).2.1) + ((getN b at_).1))) (((getN b at_).2.1).toNat) ((((getN b at_).2.1) + ((getN b at_).1)).toNat) (((b.drop (((getN b at_).2.1).toNat)).take (((((getN b at_).2.1) + ((getN b at_).1)).toNat) - (((getN b at_).2.1).toNat))).map encU8) (by kernel_rfl) (by kernel_rfl) (by kernel_rfl) (by kernel_rfl) (.inr ⟨_, _, rfl, sayNat (by omega)⟩) (.inr ⟨_, _, rfl, sayNat (by omega)⟩) (by omega) (by simp only [List.length_map]; omega) (by simp [List.map_take, List.map_drop]) ?_
   refine At.b2s (s := 28) (t := 9) (e := 5) (d := 37) (x := .tmp 36) (T := .sl false 1 (((b.drop (((getN b at_).2.1).toNat)).take (((((getN b at_).2.1) + ((getN b at_).1)).toNat) - (((getN b at_).2.1).toNat))).map encU8)) ((b.drop (((getN b at_).2.1).toNat)).take (((((getN b at_).2.1) + ((getN b at_).1)).toNat) - (((getN b at_).2.1).toNat))) [] (by kernel_rfl) (by kernel_rfl) (by kernel_rfl) (by kernel_rfl) ⟨rfl, rfl, (allP_encU8 _), rfl⟩ ?_
   refine At.a 3 ?_
   refine At.sI 40 (((getN b at_).2.1) + ((getN b at_).1)) (by omega) ?_
   refine At.z 3 ?_
   exact AW.ret (rf (k3 (K_spec_GetText _ b at_) (show (strOf ((b.drop (((getN b at_).2.1).toNat)).take (((((getN b at_).2.1) + ((getN b at_).1)).toNat) - (((getN b at_).2.1).toNat)))) = ((textS b at_).1) from by simp [textS, subB, h1, h2, h3] <;> (rw [hx1])) (show (((getN b at_).2.1) + ((getN b at_).1)) = ((textS b at_).2.1) from by simp [textS, subB, h1, h2, h3] <;> (rw [hx1])) (show (true) = ((textS b at_).2.2) from by simp [textS, subB, h1, h2, h3] <;> (rw [hx1])) (KF.n [])))
 refine At.sB 19 (!((getN b at_).2.2)) true (sayNT (sayB (Bool.eq_false_iff.2 h1))) ?_
 replace h1 := Bool.eq_false_iff.2 h1
 refine At.z 11 ?_
 refine AW.cond true (by kernel_rfl) (fun _ => ?_) (fun h => by cases h)
 refine AW.q 3 ?_
 exact AW.ret (rf (k3 (K_spec_GetText _ b at_) (show ((⟨#[]⟩ : ByteArray)) = ((textS b at_).1) from by simp [textS, subB, h1] <;> (rw [hx1])) (show (0) = ((textS b at_).2.1) from by simp [textS, subB, h1] <;> (rw [hx1])) (show (false) = ((textS b at_).2.2) from by simp [textS, subB, h1] <;> (rw [hx1])) (KF.n [])))
def K_spec_CmdOk (rs : List ResultVar) (c : Cmd) (w0_ : Bool) : Exit → Sg → Prop := KF Try.prog 0 rs (.bool w0_) []
theorem spec_CmdOk_spec  (c : Cmd) : FnSpec Try.prog 54 [.agg [.int .i64 c.kind, .int .i64 c.release, .int .i64 c.node, .int .i64 c.size, .str c.digest]] [] (.bool (cmdOk c)) [] := by
 refine FnSpec.of 60 Try.func54 rfl Try.ntmps54 (by simp) (AW.weakK ?_)
 refine AW.q 2 ?_
 refine AW.q 5 ?_
 refine AW.seq ?_
 refine AW.q 3 ?_
 refine AW.cE c.kind (1 : Int) (fun h1 => ?_) (fun h1 => ?_)
 · refine AW.r ?_
   refine At.a 2 ?_
   refine At.eqA (t := 31) (u := 31) (d := 12) (op := .eql) (x := .tmp 10) (y := .tmp 11) (X := [.int .i64 c.kind, .int .i64 c.release, .int .i64 c.node, .int .i64 c.size, .str c.digest]) (Y := [.int .i64 c.kind, .int .i64 0, .int .i64 0, .int .i64 0, .str (⟨#[]⟩ : ByteArray)]) (cmdEq c (⟨c.kind, 0, 0, 0, (⟨#[]⟩ : ByteArray)⟩ : Cmd)) (by kernel_rfl) (by kernel_rfl) (by kernel_rfl) (by kernel_rfl) (by kernel_rfl) (.bool (cmdEq c (⟨c.kind, 0, 0, 0, (⟨#[]⟩ : ByteArray)⟩ : Cmd))) (.inl ⟨rfl, rfl⟩) ?_
   refine At.z 1 ?_
   exact AW.ret (rf (k1 (K_spec_CmdOk _ c) (show (cmdEq c (⟨c.kind, 0, 0, 0, (⟨#[]⟩ : ByteArray)⟩ : Cmd)) = (cmdOk c) from by (try simp only [inR_iff, inR_not] at *); rw [Bool.eq_iff_iff]; simp only [cmdOk, cmdEq, noBytes]; (repeat' split) <;> (try simp [inR_iff]) <;> grind) (KF.n [])))
 refine AW.skip ?_
 refine AW.seq ?_
 refine AW.r ?_
 refine At.a 2 ?_
 refine At.c (spec_l1In_spec  c.kind 2 5 ) Try.call63 true [] [] [] trivial ?_
 refine At.a 2 ?_
 by_cases h2 : (inR c.kind 2 5) = true
 · refine At.sB 17 (!(inR c.kind 2 5)) false (sayNF (sayB h2)) ?_
   refine At.a 2 ?_
   refine At.c (spec_l1In_spec  c.release 1 1000 ) Try.call63 true [] [] [] trivial ?_
   refine At.z 2 ?_
   refine AW.cNB (inR c.release 1 1000) (fun h3 => ?_) (fun h3 => ?_)
   · refine AW.q 1 ?_
     exact AW.ret (rf (k1 (K_spec_CmdOk _ c) (show (false) = (cmdOk c) from by (try simp only [inR_iff, inR_not] at *); rw [Bool.eq_iff_iff]; simp only [cmdOk, cmdEq, noBytes]; (repeat' split) <;> (try simp [inR_iff]) <;> grind) (KF.n [])))
   refine AW.skip ?_
   refine AW.q 4 ?_
   refine AW.seq ?_
   refine AW.q 2 ?_
   refine AW.block ?_
   refine AW.q 2 ?_
   refine AW.cE c.kind (2 : Int) (fun h4 => ?_) (fun h4 => ?_)
   · refine AW.r ?_
     refine At.a 2 ?_
     refine At.c (spec_l1In_spec  c.size 0 1000 ) Try.call63 true [] [] [] trivial ?_
     refine At.a 1 ?_
     by_cases h5 : (inR c.size 0 1000) = true
     · refine At.sB 33 (inR c.size 0 1000) true (sayB h5) ?_
       refine At.a 6 ?_
       by_cases h6 : (c.digest.size : Int) = 32
       · refine At.sB 39 _ _ (sayET h6) ?_
         refine At.z 5 ?_
         exact AW.ret (rf (k1 (K_spec_CmdOk _ c) (show (c.node == 0) = (cmdOk c) from by (try simp only [inR_iff, inR_not] at *); rw [Bool.eq_iff_iff]; simp only [cmdOk, cmdEq, noBytes]; (repeat' split) <;> (try simp [inR_iff]) <;> grind) (KF.n [])))
       refine At.sB 39 _ _ (sayEF h6) ?_
       refine At.z 5 ?_
       exact AW.ret (rf (k1 (K_spec_CmdOk _ c) (show (false) = (cmdOk c) from by (try simp only [inR_iff, inR_not] at *); rw [Bool.eq_iff_iff]; simp only [cmdOk, cmdEq, noBytes]; (repeat' split) <;> (try simp [inR_iff]) <;> grind) (KF.n [])))
     refine At.sB 33 (inR c.size 0 1000) false (sayB (Bool.eq_false_iff.2 h5)) ?_
     replace h5 := Bool.eq_false_iff.2 h5
     refine At.z 11 ?_
     exact AW.ret (rf (k1 (K_spec_CmdOk _ c) (show (false) = (cmdOk c) from by (try simp only [inR_iff, inR_not] at *); rw [Bool.eq_iff_iff]; simp only [cmdOk, cmdEq, noBytes]; (repeat' split) <;> (try simp [inR_iff]) <;> grind) (KF.n [])))
   refine AW.q 2 ?_
   refine AW.cE c.kind (3 : Int) (fun h7 => ?_) (fun h7 => ?_)
   · refine AW.q 4 ?_
     refine AW.r ?_
     refine At.a 2 ?_
     refine At.c (spec_l1In_spec  c.node 0 4 ) Try.call63 true [] [] [] trivial ?_
     refine At.a 1 ?_
     by_cases h8 : (inR c.node 0 4) = true
     · refine At.sB 52 (inR c.node 0 4) true (sayB h8) ?_
       refine At.a 2 ?_
       refine At.eqA (t := 31) (u := 31) (d := 55) (op := .eql) (x := .tmp 53) (y := .tmp 54) (X := [.int .i64 c.kind, .int .i64 c.release, .int .i64 c.node, .int .i64 c.size, .str c.digest]) (Y := [.int .i64 c.kind, .int .i64 c.release, .int .i64 c.node, .int .i64 0, .str (⟨#[]⟩ : ByteArray)]) (cmdEq c (⟨c.kind, c.release, c.node, 0, (⟨#[]⟩ : ByteArray)⟩ : Cmd)) (by kernel_rfl) (by kernel_rfl) (by kernel_rfl) (by kernel_rfl) (by kernel_rfl) (.bool (cmdEq c (⟨c.kind, c.release, c.node, 0, (⟨#[]⟩ : ByteArray)⟩ : Cmd))) (.inl ⟨rfl, rfl⟩) ?_
       refine At.z 2 ?_
       exact AW.ret (rf (k1 (K_spec_CmdOk _ c) (show (cmdEq c (⟨c.kind, c.release, c.node, 0, (⟨#[]⟩ : ByteArray)⟩ : Cmd)) = (cmdOk c) from by (try simp only [inR_iff, inR_not] at *); rw [Bool.eq_iff_iff]; simp only [cmdOk, cmdEq, noBytes]; (repeat' split) <;> (try simp [inR_iff]) <;> grind) (KF.n [])))
     refine At.sB 52 (inR c.node 0 4) false (sayB (Bool.eq_false_iff.2 h8)) ?_
     replace h8 := Bool.eq_false_iff.2 h8
     refine At.z 5 ?_
     exact AW.ret (rf (k1 (K_spec_CmdOk _ c) (show (false) = (cmdOk c) from by (try simp only [inR_iff, inR_not] at *); rw [Bool.eq_iff_iff]; simp only [cmdOk, cmdEq, noBytes]; (repeat' split) <;> (try simp [inR_iff]) <;> grind) (KF.n [])))
   refine AW.skip ?_
   refine AW.r ?_
   refine At.a 2 ?_
   refine At.eqA (t := 31) (u := 31) (d := 59) (op := .eql) (x := .tmp 57) (y := .tmp 58) (X := [.int .i64 c.kind, .int .i64 c.release, .int .i64 c.node, .int .i64 c.size, .str c.digest]) (Y := [.int .i64 c.kind, .int .i64 c.release, .int .i64 0, .int .i64 0, .str (⟨#[]⟩ : ByteArray)]) (cmdEq c (⟨c.kind, c.release, 0, 0, (⟨#[]⟩ : ByteArray)⟩ : Cmd)) (by kernel_rfl) (by kernel_rfl) (by kernel_rfl) (by kernel_rfl) (by kernel_rfl) (.bool (cmdEq c (⟨c.kind, c.release, 0, 0, (⟨#[]⟩ : ByteArray)⟩ : Cmd))) (.inl ⟨rfl, rfl⟩) ?_
   refine At.z 1 ?_
   exact AW.ret (rf (k1 (K_spec_CmdOk _ c) (show (cmdEq c (⟨c.kind, c.release, 0, 0, (⟨#[]⟩ : ByteArray)⟩ : Cmd)) = (cmdOk c) from by (try simp only [inR_iff, inR_not] at *); rw [Bool.eq_iff_iff]; simp only [cmdOk, cmdEq, noBytes]; (repeat' split) <;> (try simp [inR_iff]) <;> grind) (KF.n [])))
 refine At.sB 17 (!(inR c.kind 2 5)) true (sayNT (sayB (Bool.eq_false_iff.2 h2))) ?_
 replace h2 := Bool.eq_false_iff.2 h2
 refine At.z 5 ?_
 refine AW.cond true (by kernel_rfl) (fun _ => ?_) (fun h => by cases h)
 refine AW.q 1 ?_
 exact AW.ret (rf (k1 (K_spec_CmdOk _ c) (show (false) = (cmdOk c) from by (try simp only [inR_iff, inR_not] at *); rw [Bool.eq_iff_iff]; simp only [cmdOk, cmdEq, noBytes]; (repeat' split) <;> (try simp [inR_iff]) <;> grind) (KF.n [])))
def K_spec_CmdRead (rs : List ResultVar) (b : List UInt8) (at_ : Int) (w0_ : Cmd) (w1_ : Int) (w2_ : Bool) : Exit → Sg → Prop := KF Try.prog 0 rs (.tup [.agg [.int .i64 w0_.kind, .int .i64 w0_.release, .int .i64 w0_.node, .int .i64 w0_.size, .str w0_.digest], .int .i64 w1_, .bool w2_]) []
theorem spec_CmdRead_spec  (b : List UInt8) (at_ : Int) (hb : b.length ≤ 1048576) (ha : 0 ≤ at_ ∧ at_ ≤ 2097152) : FnSpec Try.prog 74 [.sl false 1 (b.map encU8), .int .i64 at_] [] (.tup [.agg [.int .i64 (((cmdS b at_).1).kind), .int .i64 (((cmdS b at_).1).release), .int .i64 (((cmdS b at_).1).node), .int .i64 (((cmdS b at_).1).size), .str (((cmdS b at_).1).digest)], .int .i64 ((cmdS b at_).2.1), .bool ((cmdS b at_).2.2)]) [] := by
 have hgn := getN_num b (at_ := at_)
 have hg2 := getN_num b (at_ := (getN b at_).2.1)
 have hg3 := getN_num b (at_ := (getN b (getN b at_).2.1).2.1)
 refine FnSpec.of 92 Try.func74 rfl Try.ntmps74 (by simp) (AW.weakK ?_)
 refine AW.q 3 ?_
 refine AW.q 3 ?_
 refine AW.r ?_
 refine At.a 2 ?_
 refine At.c (spec_GetNum_spec  b at_ hb (by omega)) Try.call22 true [] [] [] trivial ?_
 refine At.z 7 ?_
 refine AW.seq ?_
 refine AW.r ?_
 refine At.a 3 ?_
 by_cases h1 : ((getN b at_).2.2) = true
 · refine At.sB 21 (!((getN b at_).2.2)) false (sayNF (sayB h1)) ?_
   refine At.a 1 ?_
   refine At.c (spec_l1In_spec  ((getN b at_).1) 1 5 ) Try.call63 true [] [] [] trivial ?_
   refine At.z 2 ?_
   refine AW.cNB (inR ((getN b at_).1) 1 5) (fun h2 => ?_) (fun h2 => ?_)
   · refine AW.q 4 ?_
     exact AW.ret (rf (k3 (K_spec_CmdRead _ b at_) (show ((⟨0, 0, 0, 0, (⟨#[]⟩ : ByteArray)⟩ : Cmd)) = ((cmdS b at_).1) from by grind [cmdS, cmdS0, zCmd, subB]) (show (0) = ((cmdS b at_).2.1) from by grind [cmdS, cmdS0, zCmd, subB]) (show (false) = ((cmdS b at_).2.2) from by grind [cmdS, cmdS0, zCmd, subB]) (KF.n [])))
   have h2i := inR_iff.1 h2
   refine AW.skip ?_
   refine AW.q 4 ?_
   refine AW.seq ?_
   refine AW.q 2 ?_
   refine AW.cE ((getN b at_).1) (1 : Int) (fun h3 => ?_) (fun h3 => ?_)
   · refine AW.q 5 ?_
     exact AW.ret (rf (k3 (K_spec_CmdRead _ b at_) (show ((⟨(getN b at_).1, 0, 0, 0, (⟨#[]⟩ : ByteArray)⟩ : Cmd)) = ((cmdS b at_).1) from by grind [cmdS, cmdS0, zCmd, subB]) (show ((getN b at_).2.1) = ((cmdS b at_).2.1) from by grind [cmdS, cmdS0, zCmd, subB]) (show (true) = ((cmdS b at_).2.2) from by grind [cmdS, cmdS0, zCmd, subB]) (KF.n [])))
   refine AW.skip ?_
   refine AW.r ?_
   refine At.a 2 ?_
   refine At.c (spec_GetNum_spec  b ((getN b at_).2.1) hb (by omega)) Try.call22 true [] [] [] trivial ?_
   refine At.z 8 ?_
   refine AW.seq ?_
   refine AW.q 2 ?_
   refine AW.cNB ((getN b ((getN b at_).2.1)).2.2) (fun h4 => ?_) (fun h4 => ?_)
   · refine AW.q 4 ?_
     exact AW.ret (rf (k3 (K_spec_CmdRead _ b at_) (show ((⟨0, 0, 0, 0, (⟨#[]⟩ : ByteArray)⟩ : Cmd)) = ((cmdS b at_).1) from by grind [cmdS, cmdS0, zCmd, subB]) (show (0) = ((cmdS b at_).2.1) from by grind [cmdS, cmdS0, zCmd, subB]) (show (false) = ((cmdS b at_).2.2) from by grind [cmdS, cmdS0, zCmd, subB]) (KF.n [])))
   refine AW.skip ?_
   refine AW.seq ?_
   refine AW.q 1 ?_
   refine AW.block ?_
   refine AW.q 2 ?_
   refine AW.cE ((getN b at_).1) (3 : Int) (fun h5 => ?_) (fun h5 => ?_)
   · refine AW.g ?_
     refine At.a 2 ?_
     refine At.c (spec_GetNum_spec  b ((getN b ((getN b at_).2.1)).2.1) hb (by omega)) Try.call22 true [] [] [] trivial ?_
     refine At.z 8 ?_
     refine AW.seq ?_
     refine AW.r ?_
     refine At.a 3 ?_
     by_cases h6 : ((getN b ((getN b ((getN b at_).2.1)).2.1)).2.2) = true
     · refine At.sB 84 (!((getN b ((getN b ((getN b at_).2.1)).2.1)).2.2)) false (sayNF (sayB h6)) ?_
       refine At.a 1 ?_
       refine At.c (spec_CmdOk_spec  (⟨(getN b at_).1, (getN b ((getN b at_).2.1)).1, (getN b ((getN b ((getN b at_).2.1)).2.1)).1, 0, (⟨#[]⟩ : ByteArray)⟩ : Cmd) ) Try.call54 true [] [] [] trivial ?_
       refine At.z 2 ?_
       refine AW.cNB (cmdOk (⟨(getN b at_).1, (getN b ((getN b at_).2.1)).1, (getN b ((getN b ((getN b at_).2.1)).2.1)).1, 0, (⟨#[]⟩ : ByteArray)⟩ : Cmd)) (fun h7 => ?_) (fun h7 => ?_)
       · refine AW.q 4 ?_
         exact AW.ret (rf (k3 (K_spec_CmdRead _ b at_) (show ((⟨0, 0, 0, 0, (⟨#[]⟩ : ByteArray)⟩ : Cmd)) = ((cmdS b at_).1) from by grind [cmdS, cmdS0, zCmd, subB]) (show (0) = ((cmdS b at_).2.1) from by grind [cmdS, cmdS0, zCmd, subB]) (show (false) = ((cmdS b at_).2.2) from by grind [cmdS, cmdS0, zCmd, subB]) (KF.n [])))
       refine AW.skip ?_
       refine AW.q 5 ?_
       exact AW.ret (rf (k3 (K_spec_CmdRead _ b at_) (show ((⟨(getN b at_).1, (getN b ((getN b at_).2.1)).1, (getN b ((getN b ((getN b at_).2.1)).2.1)).1, 0, (⟨#[]⟩ : ByteArray)⟩ : Cmd)) = ((cmdS b at_).1) from by grind [cmdS, cmdS0, zCmd, subB]) (show ((getN b ((getN b ((getN b at_).2.1)).2.1)).2.1) = ((cmdS b at_).2.1) from by grind [cmdS, cmdS0, zCmd, subB]) (show (true) = ((cmdS b at_).2.2) from by grind [cmdS, cmdS0, zCmd, subB]) (KF.n [])))
     refine At.sB 84 (!((getN b ((getN b ((getN b at_).2.1)).2.1)).2.2)) true (sayNT (sayB (Bool.eq_false_iff.2 h6))) ?_
     replace h6 := Bool.eq_false_iff.2 h6
     refine At.z 4 ?_
     refine AW.cond true (by kernel_rfl) (fun _ => ?_) (fun h => by cases h)
     refine AW.q 4 ?_
     exact AW.ret (rf (k3 (K_spec_CmdRead _ b at_) (show ((⟨0, 0, 0, 0, (⟨#[]⟩ : ByteArray)⟩ : Cmd)) = ((cmdS b at_).1) from by grind [cmdS, cmdS0, zCmd, subB]) (show (0) = ((cmdS b at_).2.1) from by grind [cmdS, cmdS0, zCmd, subB]) (show (false) = ((cmdS b at_).2.2) from by grind [cmdS, cmdS0, zCmd, subB]) (KF.n [])))
   refine AW.q 2 ?_
   refine AW.cE ((getN b at_).1) (2 : Int) (fun h8 => ?_) (fun h8 => ?_)
   · refine AW.r ?_
     refine At.a 2 ?_
     refine At.c (spec_GetNum_spec  b ((getN b ((getN b at_).2.1)).2.1) hb (by omega)) Try.call22 true [] [] [] trivial ?_
     refine At.z 8 ?_
     refine AW.r ?_
     refine At.a 2 ?_
     by_cases h9 : ((getN b ((getN b ((getN b at_).2.1)).2.1)).2.2) = true
     · refine At.sB 66 ((getN b ((getN b ((getN b at_).2.1)).2.1)).2.2) true (sayB h9) ?_
       refine At.a 2 ?_
       refine At.sL 68 encU8 b ?_
       refine At.a 2 ?_
       refine At.sI 70 ((b.length : Int) - ((getN b ((getN b ((getN b at_).2.1)).2.1)).2.1)) (by omega) ?_
       refine At.z 2 ?_
       refine AW.cD (((b.length : Int) - ((getN b ((getN b ((getN b at_).2.1)).2.1)).2.1)) ≥ 32) (fun h10 => ?_) (fun h10 => ?_)
       · refine AW.r ?_
         refine At.a 4 ?_
         refine At.sI 76 (((getN b ((getN b ((getN b at_).2.1)).2.1)).2.1) + 32) (by omega) ?_
         refine At.sliceSl (t := 28) (d := 77) (e := 5) (es := 1) (x := .tmp 73) (lx := some (.tmp 74)) (hx := some (.tmp 76)) (p := false) (xs := (b.map encU8)) (vl := .int .i64 ((getN b ((getN b ((getN b at_).2.1)).2.1)).2.1)) (vh := .int .i64 (((getN b ((getN b ((getN b at_).2.1)).2.1)).2.1) + 32)) (((getN b ((getN b ((getN b at_).2.1)).2.1)).2.1).toNat) ((((getN b ((getN b ((getN b at_).2.1)).2.1)).2.1) + 32).toNat) (((b.drop (((getN b ((getN b ((getN b at_).2.1)).2.1)).2.1).toNat)).take (((((getN b ((getN b ((getN b at_).2.1)).2.1)).2.1) + 32).toNat) - (((getN b ((getN b ((getN b at_).2.1)).2.1)).2.1).toNat))).map encU8) (by kernel_rfl) (by kernel_rfl) (by kernel_rfl) (by kernel_rfl) (.inr ⟨_, _, rfl, sayNat (by omega)⟩) (.inr ⟨_, _, rfl, sayNat (by omega)⟩) (by omega) (by simp only [List.length_map]; omega) (by simp [List.map_take, List.map_drop]) ?_
         refine At.b2s (s := 28) (t := 9) (e := 5) (d := 78) (x := .tmp 77) (T := .sl false 1 (((b.drop (((getN b ((getN b ((getN b at_).2.1)).2.1)).2.1).toNat)).take (((((getN b ((getN b ((getN b at_).2.1)).2.1)).2.1) + 32).toNat) - (((getN b ((getN b ((getN b at_).2.1)).2.1)).2.1).toNat))).map encU8)) ((b.drop (((getN b ((getN b ((getN b at_).2.1)).2.1)).2.1).toNat)).take (((((getN b ((getN b ((getN b at_).2.1)).2.1)).2.1) + 32).toNat) - (((getN b ((getN b ((getN b at_).2.1)).2.1)).2.1).toNat))) [] (by kernel_rfl) (by kernel_rfl) (by kernel_rfl) (by kernel_rfl) ⟨rfl, rfl, (allP_encU8 _), rfl⟩ ?_
         refine At.z 2 ?_
         refine AW.g ?_
         refine At.a 2 ?_
         refine At.sI 81 (((getN b ((getN b ((getN b at_).2.1)).2.1)).2.1) + 32) (by omega) ?_
         refine At.z 1 ?_
         refine AW.seq ?_
         refine AW.r ?_
         refine At.a 3 ?_
         refine At.sB 84 (!((getN b ((getN b ((getN b at_).2.1)).2.1)).2.2)) false (sayNF (sayB h9)) ?_
         refine At.a 1 ?_
         refine At.c (spec_CmdOk_spec  (⟨(getN b at_).1, (getN b ((getN b at_).2.1)).1, 0, (getN b ((getN b ((getN b at_).2.1)).2.1)).1, strOf ((b.drop (((getN b ((getN b ((getN b at_).2.1)).2.1)).2.1).toNat)).take (((((getN b ((getN b ((getN b at_).2.1)).2.1)).2.1) + 32).toNat) - (((getN b ((getN b ((getN b at_).2.1)).2.1)).2.1).toNat)))⟩ : Cmd) ) Try.call54 true [] [] [] trivial ?_
         refine At.z 2 ?_
         refine AW.cNB (cmdOk (⟨(getN b at_).1, (getN b ((getN b at_).2.1)).1, 0, (getN b ((getN b ((getN b at_).2.1)).2.1)).1, strOf ((b.drop (((getN b ((getN b ((getN b at_).2.1)).2.1)).2.1).toNat)).take (((((getN b ((getN b ((getN b at_).2.1)).2.1)).2.1) + 32).toNat) - (((getN b ((getN b ((getN b at_).2.1)).2.1)).2.1).toNat)))⟩ : Cmd)) (fun h12 => ?_) (fun h12 => ?_)
         · refine AW.q 4 ?_
           exact AW.ret (rf (k3 (K_spec_CmdRead _ b at_) (show ((⟨0, 0, 0, 0, (⟨#[]⟩ : ByteArray)⟩ : Cmd)) = ((cmdS b at_).1) from by grind [cmdS, cmdS0, zCmd, subB]) (show (0) = ((cmdS b at_).2.1) from by grind [cmdS, cmdS0, zCmd, subB]) (show (false) = ((cmdS b at_).2.2) from by grind [cmdS, cmdS0, zCmd, subB]) (KF.n [])))
         refine AW.skip ?_
         refine AW.q 5 ?_
         exact AW.ret (rf (k3 (K_spec_CmdRead _ b at_) (show ((⟨(getN b at_).1, (getN b ((getN b at_).2.1)).1, 0, (getN b ((getN b ((getN b at_).2.1)).2.1)).1, strOf ((b.drop (((getN b ((getN b ((getN b at_).2.1)).2.1)).2.1).toNat)).take (((((getN b ((getN b ((getN b at_).2.1)).2.1)).2.1) + 32).toNat) - (((getN b ((getN b ((getN b at_).2.1)).2.1)).2.1).toNat)))⟩ : Cmd)) = ((cmdS b at_).1) from by grind [cmdS, cmdS0, zCmd, subB]) (show (((getN b ((getN b ((getN b at_).2.1)).2.1)).2.1) + 32) = ((cmdS b at_).2.1) from by grind [cmdS, cmdS0, zCmd, subB]) (show (true) = ((cmdS b at_).2.2) from by grind [cmdS, cmdS0, zCmd, subB]) (KF.n [])))
       refine AW.skip ?_
       refine AW.seq ?_
       refine AW.r ?_
       refine At.a 3 ?_
       refine At.sB 84 (!((getN b ((getN b ((getN b at_).2.1)).2.1)).2.2)) false (sayNF (sayB h9)) ?_
       refine At.a 1 ?_
       refine At.c (spec_CmdOk_spec  (⟨(getN b at_).1, (getN b ((getN b at_).2.1)).1, 0, (getN b ((getN b ((getN b at_).2.1)).2.1)).1, (⟨#[]⟩ : ByteArray)⟩ : Cmd) ) Try.call54 true [] [] [] trivial ?_
       refine At.z 2 ?_
       refine AW.cNB (cmdOk (⟨(getN b at_).1, (getN b ((getN b at_).2.1)).1, 0, (getN b ((getN b ((getN b at_).2.1)).2.1)).1, (⟨#[]⟩ : ByteArray)⟩ : Cmd)) (fun h14 => ?_) (fun h14 => ?_)
       · refine AW.q 4 ?_
         exact AW.ret (rf (k3 (K_spec_CmdRead _ b at_) (show ((⟨0, 0, 0, 0, (⟨#[]⟩ : ByteArray)⟩ : Cmd)) = ((cmdS b at_).1) from by grind [cmdS, cmdS0, zCmd, subB]) (show (0) = ((cmdS b at_).2.1) from by grind [cmdS, cmdS0, zCmd, subB]) (show (false) = ((cmdS b at_).2.2) from by grind [cmdS, cmdS0, zCmd, subB]) (KF.n [])))
       refine AW.skip ?_
       refine AW.q 5 ?_
       exact AW.ret (rf (k3 (K_spec_CmdRead _ b at_) (show ((⟨(getN b at_).1, (getN b ((getN b at_).2.1)).1, 0, (getN b ((getN b ((getN b at_).2.1)).2.1)).1, (⟨#[]⟩ : ByteArray)⟩ : Cmd)) = ((cmdS b at_).1) from by grind [cmdS, cmdS0, zCmd, subB]) (show ((getN b ((getN b ((getN b at_).2.1)).2.1)).2.1) = ((cmdS b at_).2.1) from by grind [cmdS, cmdS0, zCmd, subB]) (show (true) = ((cmdS b at_).2.2) from by grind [cmdS, cmdS0, zCmd, subB]) (KF.n [])))
     refine At.sB 66 ((getN b ((getN b ((getN b at_).2.1)).2.1)).2.2) false (sayB (Bool.eq_false_iff.2 h9)) ?_
     replace h9 := Bool.eq_false_iff.2 h9
     refine At.z 6 ?_
     refine AW.cond false (by kernel_rfl) (fun h => by cases h) (fun _ => ?_)
     refine AW.skip ?_
     refine AW.seq ?_
     refine AW.r ?_
     refine At.a 3 ?_
     refine At.sB 84 (!((getN b ((getN b ((getN b at_).2.1)).2.1)).2.2)) true (sayNT (sayB h9)) ?_
     refine At.z 4 ?_
     refine AW.cond true (by kernel_rfl) (fun _ => ?_) (fun h => by cases h)
     refine AW.q 4 ?_
     exact AW.ret (rf (k3 (K_spec_CmdRead _ b at_) (show ((⟨0, 0, 0, 0, (⟨#[]⟩ : ByteArray)⟩ : Cmd)) = ((cmdS b at_).1) from by grind [cmdS, cmdS0, zCmd, subB]) (show (0) = ((cmdS b at_).2.1) from by grind [cmdS, cmdS0, zCmd, subB]) (show (false) = ((cmdS b at_).2.2) from by grind [cmdS, cmdS0, zCmd, subB]) (KF.n [])))
   refine AW.skip ?_
   refine AW.seq ?_
   refine AW.r ?_
   refine At.a 3 ?_
   refine At.sB 84 (!((getN b ((getN b at_).2.1)).2.2)) false (sayNF (sayB h4)) ?_
   refine At.a 1 ?_
   refine At.c (spec_CmdOk_spec  (⟨(getN b at_).1, (getN b ((getN b at_).2.1)).1, 0, 0, (⟨#[]⟩ : ByteArray)⟩ : Cmd) ) Try.call54 true [] [] [] trivial ?_
   refine At.z 2 ?_
   refine AW.cNB (cmdOk (⟨(getN b at_).1, (getN b ((getN b at_).2.1)).1, 0, 0, (⟨#[]⟩ : ByteArray)⟩ : Cmd)) (fun h17 => ?_) (fun h17 => ?_)
   · refine AW.q 4 ?_
     exact AW.ret (rf (k3 (K_spec_CmdRead _ b at_) (show ((⟨0, 0, 0, 0, (⟨#[]⟩ : ByteArray)⟩ : Cmd)) = ((cmdS b at_).1) from by grind [cmdS, cmdS0, zCmd, subB]) (show (0) = ((cmdS b at_).2.1) from by grind [cmdS, cmdS0, zCmd, subB]) (show (false) = ((cmdS b at_).2.2) from by grind [cmdS, cmdS0, zCmd, subB]) (KF.n [])))
   refine AW.skip ?_
   refine AW.q 5 ?_
   exact AW.ret (rf (k3 (K_spec_CmdRead _ b at_) (show ((⟨(getN b at_).1, (getN b ((getN b at_).2.1)).1, 0, 0, (⟨#[]⟩ : ByteArray)⟩ : Cmd)) = ((cmdS b at_).1) from by grind [cmdS, cmdS0, zCmd, subB]) (show ((getN b ((getN b at_).2.1)).2.1) = ((cmdS b at_).2.1) from by grind [cmdS, cmdS0, zCmd, subB]) (show (true) = ((cmdS b at_).2.2) from by grind [cmdS, cmdS0, zCmd, subB]) (KF.n [])))
 refine At.sB 21 (!((getN b at_).2.2)) true (sayNT (sayB (Bool.eq_false_iff.2 h1))) ?_
 replace h1 := Bool.eq_false_iff.2 h1
 refine At.z 4 ?_
 refine AW.cond true (by kernel_rfl) (fun _ => ?_) (fun h => by cases h)
 refine AW.q 4 ?_
 exact AW.ret (rf (k3 (K_spec_CmdRead _ b at_) (show ((⟨0, 0, 0, 0, (⟨#[]⟩ : ByteArray)⟩ : Cmd)) = ((cmdS b at_).1) from by grind [cmdS, cmdS0, zCmd, subB]) (show (0) = ((cmdS b at_).2.1) from by grind [cmdS, cmdS0, zCmd, subB]) (show (false) = ((cmdS b at_).2.2) from by grind [cmdS, cmdS0, zCmd, subB]) (KF.n [])))
def K_spec_l8Entries (rs : List ResultVar) (b : List UInt8) (at_ : Int) (w0_ : List Ent) (w1_ : Int) (w2_ : Bool) : Exit → Sg → Prop := KF Try.prog 0 rs (.tup [.ref 0, .int .i64 w1_, .bool w2_]) [.arr 56 6 (w0_.map encEnt)]
theorem spec_l8Entries_spec  (b : List UInt8) (at_ : Int) (hb : b.length ≤ 1048576) (ha : 0 ≤ at_ ∧ at_ ≤ 2097152) : FnSpec Try.prog 75 [.sl false 1 (b.map encU8), .int .i64 at_] [] (.tup [.ref 0, .int .i64 ((entsS b at_).2.1), .bool ((entsS b at_).2.2)]) [.arr 56 6 (((entsS b at_).1).map encEnt)] := by
 have hgn := getN_num b (at_ := at_)
 refine FnSpec.of 66 Try.func75 rfl Try.ntmps75 (by simp) (AW.weakK ?_)
 refine AW.q 3 ?_
 refine AW.r ?_
 refine At.lit0 (t := 32) (d := 17) (e := 56) (es := 6) (bytes := 56) 117 (by kernel_rfl) (by kernel_rfl) (by kernel_rfl) (by kernel_rfl) ?_
 refine At.z 1 ?_
 refine AW.r ?_
 refine At.a 2 ?_
 refine At.c (spec_GetNum_spec  b at_ hb (by omega)) Try.call22 true [] [] [] trivial ?_
 refine At.z 7 ?_
 refine AW.seq ?_
 refine AW.r ?_
 refine At.a 3 ?_
 by_cases h1 : ((getN b at_).2.2) = true
 · refine At.sB 27 (!((getN b at_).2.2)) false (sayNF (sayB h1)) ?_
   refine At.z 3 ?_
   refine AW.cD (((getN b at_).1) > 6) (fun h2 => ?_) (fun h2 => ?_)
   · refine AW.q 4 ?_
     exact AW.ret (rf (k3 (K_spec_l8Entries _ b at_) (show ([]) = ((entsS b at_).1) from by rw [entsS_big (by assumption)]) (show (0) = ((entsS b at_).2.1) from by rw [entsS_big (by assumption)]) (show (false) = ((entsS b at_).2.2) from by rw [entsS_big (by assumption)]) (KF.n [(117, 0)])))
   refine AW.skip ?_
   refine AW.seq ?_
   refine AW.q 1 ?_
   refine AW.block ?_
   refine AW.loopW (fun (x : Nat × Int × List Ent) => match x with | (k, a, l) => Go.Sy.mk [.sl false 1 (b.map encU8), .int .i64 a, .un, .un, .un, .un, .un, .ref 117, .int .i64 ((getN b at_).1), .un, .int .i64 (k : Int)] [(117, .arr 56 6 (l.map encEnt))]) (fun (x : Nat × Int × List Ent) => match x with | (k, a, l) => (k : Int) ≤ (getN b at_).1 ∧ l.length = k ∧ (0 ≤ a ∧ a ≤ b.length) ∧ entsS b at_ = entsSGo b ((getN b at_).1.toNat - k) a l) (fun (x : Nat × Int × List Ent) => match x with | (k, a, l) => 7 - k) (0, (getN b at_).2.1, []) ⟨by omega, rfl, by omega, entsS_yes (by assumption) (by assumption)⟩ (Sub.o [(117, 117)] [true, true, false, false, false, false, false, true, true, false, true]) ?_
   rintro ⟨k, a, l⟩ ⟨hk, hl, ha2, hR⟩
   have hga := getN_num b (at_ := a)
   have hca := cmdS_in b (a := (getN b a).2.1)
   refine AW.seq ?_
   refine AW.q 3 ?_
   refine AW.cD ((k : Int) < ((getN b at_).1)) (fun h3 => ?_) (fun h3 => ?_)
   · refine AW.skip ?_
     refine AW.seq ?_
     refine AW.block ?_
     refine AW.r ?_
     refine At.a 2 ?_
     refine At.c (spec_GetNum_spec  b a hb (by omega)) Try.call22 true [] [] [] trivial ?_
     refine At.z 7 ?_
     refine AW.seq ?_
     refine AW.q 2 ?_
     refine AW.cNB ((getN b a).2.2) (fun h4 => ?_) (fun h4 => ?_)
     · refine AW.q 4 ?_
       exact AW.ret (rf (k3 (K_spec_l8Entries _ b at_) (show (l) = ((entsS b at_).1) from by rw [hR, show (getN b at_).1.toNat - k = (getN b at_).1.toNat - (k + 1) + 1 by omega, entsSGo, if_pos (by assumption)]) (show (0) = ((entsS b at_).2.1) from by rw [hR, show (getN b at_).1.toNat - k = (getN b at_).1.toNat - (k + 1) + 1 by omega, entsSGo, if_pos (by assumption)]) (show (false) = ((entsS b at_).2.2) from by rw [hR, show (getN b at_).1.toNat - k = (getN b at_).1.toNat - (k + 1) + 1 by omega, entsSGo, if_pos (by assumption)]) (KF.n [(117, 0)])))
     refine AW.skip ?_
     refine AW.r ?_
     refine At.a 2 ?_
     refine At.c (spec_CmdRead_spec  b ((getN b a).2.1) hb (by omega)) Try.call74 true [] [] [] trivial ?_
     refine At.z 8 ?_
     refine AW.seq ?_
     refine AW.q 2 ?_
     refine AW.cNB ((cmdS b ((getN b a).2.1)).2.2) (fun h5 => ?_) (fun h5 => ?_)
     · refine AW.q 4 ?_
       exact AW.ret (rf (k3 (K_spec_l8Entries _ b at_) (show (l) = ((entsS b at_).1) from by rw [hR, show (getN b at_).1.toNat - k = (getN b at_).1.toNat - (k + 1) + 1 by omega, entsSGo, if_neg (by simp [*]), if_pos (by assumption)]) (show (0) = ((entsS b at_).2.1) from by rw [hR, show (getN b at_).1.toNat - k = (getN b at_).1.toNat - (k + 1) + 1 by omega, entsSGo, if_neg (by simp [*]), if_pos (by assumption)]) (show (false) = ((entsS b at_).2.2) from by rw [hR, show (getN b at_).1.toNat - k = (getN b at_).1.toNat - (k + 1) + 1 by omega, entsSGo, if_neg (by simp [*]), if_pos (by assumption)]) (KF.n [(117, 0)])))
     refine AW.skip ?_
     refine AW.r ?_
     refine At.a 4 ?_
     refine At.ll 61 56 6 161 (56, 6) (([(⟨(getN b a).1, ((cmdS b ((getN b a).2.1)).1)⟩ : Ent)]).map encEnt) ?_
     refine At.apK 62 56 6 56 162 117 161 encEnt l ([(⟨(getN b a).1, ((cmdS b ((getN b a).2.1)).1)⟩ : Ent)]) (by simp only [List.length_map, List.length_append, List.length_take, List.length_drop, List.length_replicate, List.length_set, List.length_cons, List.length_nil]; omega) ?_
     refine At.z 1 ?_
     refine AW.gq 2 ?_
     refine AW.g ?_
     refine At.a 2 ?_
     refine At.sI 36 ((k : Int) + 1) (by omega) ?_
     refine At.z 1 ?_
     exact ⟨(k + 1, ((cmdS b ((getN b a).2.1)).2.1), (l ++ ([(⟨(getN b a).1, ((cmdS b ((getN b a).2.1)).1)⟩ : Ent)]))), ⟨by omega, by simp [hl], by omega, by rw [hR, show (getN b at_).1.toNat - k = (getN b at_).1.toNat - (k + 1) + 1 by omega, entsSGo, if_neg (by simp [*]), if_neg (by simp [*])]⟩, (by simp only; omega), Sub.o [(162, 117)] [true, true, false, false, false, false, false, true, true, false, true]⟩
   refine AW.exit ?_
   refine AW.q 5 ?_
   exact AW.ret (rf (k3 (K_spec_l8Entries _ b at_) (show (l) = ((entsS b at_).1) from by rw [hR, show (getN b at_).1.toNat - k = 0 by omega]; rfl) (show (a) = ((entsS b at_).2.1) from by rw [hR, show (getN b at_).1.toNat - k = 0 by omega]; rfl) (show (true) = ((entsS b at_).2.2) from by rw [hR, show (getN b at_).1.toNat - k = 0 by omega]; rfl) (KF.n [(117, 0)])))
 refine At.sB 27 (!((getN b at_).2.2)) true (sayNT (sayB (Bool.eq_false_iff.2 h1))) ?_
 replace h1 := Bool.eq_false_iff.2 h1
 refine At.z 3 ?_
 refine AW.cond true (by kernel_rfl) (fun _ => ?_) (fun h => by cases h)
 refine AW.q 4 ?_
 exact AW.ret (rf (k3 (K_spec_l8Entries _ b at_) (show ([]) = ((entsS b at_).1) from by rw [entsS_no (by assumption)]) (show (0) = ((entsS b at_).2.1) from by rw [entsS_no (by assumption)]) (show (false) = ((entsS b at_).2.2) from by rw [entsS_no (by assumption)]) (KF.n [(117, 0)])))
def K_spec_l8Field (rs : List ResultVar) (m : Msg) (what : UInt8) (b : List UInt8) (at_ : Int) (w0_ : Msg) (w1_ : Int) (w2_ : Bool) : Exit → Sg → Prop := KF Try.prog 1 rs (.tup [.agg [.int .i64 w0_.kind, .int .i64 w0_.from_, .int .i64 w0_.term, .int .i64 w0_.at_, .int .i64 w0_.atTerm, .int .i64 w0_.commit, .bool w0_.yes, .int .i64 w0_.release, .int .i64 w0_.part, .str w0_.bytes, .int .i64 w0_.cmd.kind, .int .i64 w0_.cmd.release, .int .i64 w0_.cmd.node, .int .i64 w0_.cmd.size, .str w0_.cmd.digest, .ref 1], .int .i64 w1_, .bool w2_]) [.dead, .arr 56 6 (w0_.entries.map encEnt)]
theorem spec_l8Field_spec  (m : Msg) (what : UInt8) (b : List UInt8) (at_ : Int) (hb : b.length ≤ 1048576) (ha : 0 ≤ at_ ∧ at_ ≤ 2097152) : FnSpec Try.prog 44 [.agg [.int .i64 m.kind, .int .i64 m.from_, .int .i64 m.term, .int .i64 m.at_, .int .i64 m.atTerm, .int .i64 m.commit, .bool m.yes, .int .i64 m.release, .int .i64 m.part, .str m.bytes, .int .i64 m.cmd.kind, .int .i64 m.cmd.release, .int .i64 m.cmd.node, .int .i64 m.cmd.size, .str m.cmd.digest, .ref 0], .int .u8 (what.toNat : Int), .sl false 1 (b.map encU8), .int .i64 at_] [.arr 56 6 (m.entries.map encEnt)] (.tup [.agg [.int .i64 (((fieldS m what.toNat b at_).1).kind), .int .i64 (((fieldS m what.toNat b at_).1).from_), .int .i64 (((fieldS m what.toNat b at_).1).term), .int .i64 (((fieldS m what.toNat b at_).1).at_), .int .i64 (((fieldS m what.toNat b at_).1).atTerm), .int .i64 (((fieldS m what.toNat b at_).1).commit), .bool (((fieldS m what.toNat b at_).1).yes), .int .i64 (((fieldS m what.toNat b at_).1).release), .int .i64 (((fieldS m what.toNat b at_).1).part), .str (((fieldS m what.toNat b at_).1).bytes), .int .i64 (((fieldS m what.toNat b at_).1).cmd.kind), .int .i64 (((fieldS m what.toNat b at_).1).cmd.release), .int .i64 (((fieldS m what.toNat b at_).1).cmd.node), .int .i64 (((fieldS m what.toNat b at_).1).cmd.size), .str (((fieldS m what.toNat b at_).1).cmd.digest), .ref 1], .int .i64 ((fieldS m what.toNat b at_).2.1), .bool ((fieldS m what.toNat b at_).2.2)]) [.dead, .arr 56 6 ((((fieldS m what.toNat b at_).1).entries).map encEnt)] := by
 refine FnSpec.of 104 Try.func44 rfl Try.ntmps44 (by simp) (AW.weakK ?_)
 refine AW.q 4 ?_
 refine AW.seq ?_
 refine AW.weak (Sub.nils [⟨true, 108, some 15, 5001, 56, 6⟩] (by kernel_rfl)) ?_
 refine AW.gq 1 ?_
 refine AW.seq ?_
 refine AW.q 1 ?_
 refine AW.block ?_
 refine AW.q 2 ?_
 refine AW.cE (what.toNat : Int) (98 : Int) (fun h1 => ?_) (fun h1 => ?_)
 · refine AW.r ?_
   refine At.a 2 ?_
   refine At.c (spec_GetText_spec  b at_ hb (by omega)) Try.call73 true [] [] [] trivial ?_
   refine At.z 8 ?_
   refine AW.q 6 ?_
   refine AW.ret ?_
   refine ⟨_, (Sub.trans (Sub.refl _ _) (Sub.mv 0 8000 (by kernel_rfl) (by decide))), ?_⟩
   exact k3 (K_spec_l8Field _ m what b at_) (show ((⟨m.kind, m.from_, m.term, m.at_, m.atTerm, m.commit, m.yes, m.release, m.part, (textS b at_).1, m.cmd, m.entries⟩ : Msg)) = ((fieldS m what.toNat b at_).1) from by simp only [fieldS, h1, if_true, if_false, Int.reduceEq, reduceIte, Bool.and_true, Bool.and_false, Bool.true_and, Bool.false_and, decide_true, decide_false] <;> rfl) (show ((textS b at_).2.1) = ((fieldS m what.toNat b at_).2.1) from by simp only [fieldS, h1, if_true, if_false, Int.reduceEq, reduceIte, Bool.and_true, Bool.and_false, Bool.true_and, Bool.false_and, decide_true, decide_false] <;> rfl) (show ((textS b at_).2.2) = ((fieldS m what.toNat b at_).2.2) from by simp only [fieldS, h1, if_true, if_false, Int.reduceEq, reduceIte, Bool.and_true, Bool.and_false, Bool.true_and, Bool.false_and, decide_true, decide_false] <;> rfl) (KF.n [(0, 0), (8000, 1)])
 refine AW.q 2 ?_
 refine AW.cE (what.toNat : Int) (100 : Int) (fun h2 => ?_) (fun h2 => ?_)
 · refine AW.r ?_
   refine At.a 2 ?_
   refine At.c (spec_CmdRead_spec  b at_ hb (by omega)) Try.call74 true [] [] [] trivial ?_
   refine At.z 8 ?_
   refine AW.q 6 ?_
   refine AW.ret ?_
   refine ⟨_, (Sub.trans (Sub.refl _ _) (Sub.mv 0 8000 (by kernel_rfl) (by decide))), ?_⟩
   exact k3 (K_spec_l8Field _ m what b at_) (show ((⟨m.kind, m.from_, m.term, m.at_, m.atTerm, m.commit, m.yes, m.release, m.part, m.bytes, ((cmdS b at_).1), m.entries⟩ : Msg)) = ((fieldS m what.toNat b at_).1) from by simp only [fieldS, h1, h2, if_true, if_false, Int.reduceEq, reduceIte, Bool.and_true, Bool.and_false, Bool.true_and, Bool.false_and, decide_true, decide_false] <;> rfl) (show ((cmdS b at_).2.1) = ((fieldS m what.toNat b at_).2.1) from by simp only [fieldS, h1, h2, if_true, if_false, Int.reduceEq, reduceIte, Bool.and_true, Bool.and_false, Bool.true_and, Bool.false_and, decide_true, decide_false] <;> rfl) (show ((cmdS b at_).2.2) = ((fieldS m what.toNat b at_).2.2) from by simp only [fieldS, h1, h2, if_true, if_false, Int.reduceEq, reduceIte, Bool.and_true, Bool.and_false, Bool.true_and, Bool.false_and, decide_true, decide_false] <;> rfl) (KF.n [(0, 0), (8000, 1)])
 refine AW.q 2 ?_
 refine AW.cE (what.toNat : Int) (101 : Int) (fun h3 => ?_) (fun h3 => ?_)
 · refine AW.r ?_
   refine At.a 2 ?_
   refine At.c (spec_l8Entries_spec  b at_ hb (by omega)) Try.call75 true [] [(1940, 0)] [] trivial ?_
   refine At.z 8 ?_
   refine AW.q 6 ?_
   refine AW.ret ?_
   refine ⟨_, (Sub.trans (Sub.refl _ _) (Sub.mv 0 8000 (by kernel_rfl) (by decide))), ?_⟩
   exact k3 (K_spec_l8Field _ m what b at_) (show ((⟨m.kind, m.from_, m.term, m.at_, m.atTerm, m.commit, m.yes, m.release, m.part, m.bytes, m.cmd, (entsS b at_).1⟩ : Msg)) = ((fieldS m what.toNat b at_).1) from by simp only [fieldS, h1, h2, h3, if_true, if_false, Int.reduceEq, reduceIte, Bool.and_true, Bool.and_false, Bool.true_and, Bool.false_and, decide_true, decide_false] <;> rfl) (show ((entsS b at_).2.1) = ((fieldS m what.toNat b at_).2.1) from by simp only [fieldS, h1, h2, h3, if_true, if_false, Int.reduceEq, reduceIte, Bool.and_true, Bool.and_false, Bool.true_and, Bool.false_and, decide_true, decide_false] <;> rfl) (show ((entsS b at_).2.2) = ((fieldS m what.toNat b at_).2.2) from by simp only [fieldS, h1, h2, h3, if_true, if_false, Int.reduceEq, reduceIte, Bool.and_true, Bool.and_false, Bool.true_and, Bool.false_and, decide_true, decide_false] <;> rfl) (KF.n [(0, 0), (1940, 1)])
 refine AW.skip ?_
 refine AW.r ?_
 refine At.a 2 ?_
 refine At.c (spec_GetNum_spec  b at_ hb (by omega)) Try.call22 true [] [] [] trivial ?_
 refine At.z 7 ?_
 refine AW.seq ?_
 refine AW.q 1 ?_
 refine AW.block ?_
 refine AW.q 2 ?_
 refine AW.cE (what.toNat : Int) (102 : Int) (fun h4 => ?_) (fun h4 => ?_)
 · refine AW.gq 3 ?_
   refine AW.q 6 ?_
   refine AW.ret ?_
   refine ⟨_, (Sub.trans (Sub.refl _ _) (Sub.mv 0 8000 (by kernel_rfl) (by decide))), ?_⟩
   exact k3 (K_spec_l8Field _ m what b at_) (show ((⟨m.kind, (getN b at_).1, m.term, m.at_, m.atTerm, m.commit, m.yes, m.release, m.part, m.bytes, m.cmd, m.entries⟩ : Msg)) = ((fieldS m what.toNat b at_).1) from by simp only [fieldS, h1, h2, h3, h4, if_true, if_false, Int.reduceEq, reduceIte, Bool.and_true, Bool.and_false, Bool.true_and, Bool.false_and, decide_true, decide_false] <;> rfl) (show ((getN b at_).2.1) = ((fieldS m what.toNat b at_).2.1) from by simp only [fieldS, h1, h2, h3, h4, if_true, if_false, Int.reduceEq, reduceIte, Bool.and_true, Bool.and_false, Bool.true_and, Bool.false_and, decide_true, decide_false] <;> rfl) (show ((getN b at_).2.2) = ((fieldS m what.toNat b at_).2.2) from by simp only [fieldS, h1, h2, h3, h4, if_true, if_false, Int.reduceEq, reduceIte, Bool.and_true, Bool.and_false, Bool.true_and, Bool.false_and, decide_true, decide_false] <;> rfl) (KF.n [(0, 0), (8000, 1)])
 refine AW.q 2 ?_
 refine AW.cE (what.toNat : Int) (116 : Int) (fun h5 => ?_) (fun h5 => ?_)
 · refine AW.gq 3 ?_
   refine AW.q 6 ?_
   refine AW.ret ?_
   refine ⟨_, (Sub.trans (Sub.refl _ _) (Sub.mv 0 8000 (by kernel_rfl) (by decide))), ?_⟩
   exact k3 (K_spec_l8Field _ m what b at_) (show ((⟨m.kind, m.from_, (getN b at_).1, m.at_, m.atTerm, m.commit, m.yes, m.release, m.part, m.bytes, m.cmd, m.entries⟩ : Msg)) = ((fieldS m what.toNat b at_).1) from by simp only [fieldS, h1, h2, h3, h4, h5, if_true, if_false, Int.reduceEq, reduceIte, Bool.and_true, Bool.and_false, Bool.true_and, Bool.false_and, decide_true, decide_false] <;> rfl) (show ((getN b at_).2.1) = ((fieldS m what.toNat b at_).2.1) from by simp only [fieldS, h1, h2, h3, h4, h5, if_true, if_false, Int.reduceEq, reduceIte, Bool.and_true, Bool.and_false, Bool.true_and, Bool.false_and, decide_true, decide_false] <;> rfl) (show ((getN b at_).2.2) = ((fieldS m what.toNat b at_).2.2) from by simp only [fieldS, h1, h2, h3, h4, h5, if_true, if_false, Int.reduceEq, reduceIte, Bool.and_true, Bool.and_false, Bool.true_and, Bool.false_and, decide_true, decide_false] <;> rfl) (KF.n [(0, 0), (8000, 1)])
 refine AW.q 2 ?_
 refine AW.cE (what.toNat : Int) (97 : Int) (fun h6 => ?_) (fun h6 => ?_)
 · refine AW.gq 3 ?_
   refine AW.q 6 ?_
   refine AW.ret ?_
   refine ⟨_, (Sub.trans (Sub.refl _ _) (Sub.mv 0 8000 (by kernel_rfl) (by decide))), ?_⟩
   exact k3 (K_spec_l8Field _ m what b at_) (show ((⟨m.kind, m.from_, m.term, (getN b at_).1, m.atTerm, m.commit, m.yes, m.release, m.part, m.bytes, m.cmd, m.entries⟩ : Msg)) = ((fieldS m what.toNat b at_).1) from by simp only [fieldS, h1, h2, h3, h4, h5, h6, if_true, if_false, Int.reduceEq, reduceIte, Bool.and_true, Bool.and_false, Bool.true_and, Bool.false_and, decide_true, decide_false] <;> rfl) (show ((getN b at_).2.1) = ((fieldS m what.toNat b at_).2.1) from by simp only [fieldS, h1, h2, h3, h4, h5, h6, if_true, if_false, Int.reduceEq, reduceIte, Bool.and_true, Bool.and_false, Bool.true_and, Bool.false_and, decide_true, decide_false] <;> rfl) (show ((getN b at_).2.2) = ((fieldS m what.toNat b at_).2.2) from by simp only [fieldS, h1, h2, h3, h4, h5, h6, if_true, if_false, Int.reduceEq, reduceIte, Bool.and_true, Bool.and_false, Bool.true_and, Bool.false_and, decide_true, decide_false] <;> rfl) (KF.n [(0, 0), (8000, 1)])
 refine AW.q 2 ?_
 refine AW.cE (what.toNat : Int) (115 : Int) (fun h7 => ?_) (fun h7 => ?_)
 · refine AW.gq 3 ?_
   refine AW.q 6 ?_
   refine AW.ret ?_
   refine ⟨_, (Sub.trans (Sub.refl _ _) (Sub.mv 0 8000 (by kernel_rfl) (by decide))), ?_⟩
   exact k3 (K_spec_l8Field _ m what b at_) (show ((⟨m.kind, m.from_, m.term, m.at_, (getN b at_).1, m.commit, m.yes, m.release, m.part, m.bytes, m.cmd, m.entries⟩ : Msg)) = ((fieldS m what.toNat b at_).1) from by simp only [fieldS, h1, h2, h3, h4, h5, h6, h7, if_true, if_false, Int.reduceEq, reduceIte, Bool.and_true, Bool.and_false, Bool.true_and, Bool.false_and, decide_true, decide_false] <;> rfl) (show ((getN b at_).2.1) = ((fieldS m what.toNat b at_).2.1) from by simp only [fieldS, h1, h2, h3, h4, h5, h6, h7, if_true, if_false, Int.reduceEq, reduceIte, Bool.and_true, Bool.and_false, Bool.true_and, Bool.false_and, decide_true, decide_false] <;> rfl) (show ((getN b at_).2.2) = ((fieldS m what.toNat b at_).2.2) from by simp only [fieldS, h1, h2, h3, h4, h5, h6, h7, if_true, if_false, Int.reduceEq, reduceIte, Bool.and_true, Bool.and_false, Bool.true_and, Bool.false_and, decide_true, decide_false] <;> rfl) (KF.n [(0, 0), (8000, 1)])
 refine AW.q 2 ?_
 refine AW.cE (what.toNat : Int) (99 : Int) (fun h8 => ?_) (fun h8 => ?_)
 · refine AW.gq 3 ?_
   refine AW.q 6 ?_
   refine AW.ret ?_
   refine ⟨_, (Sub.trans (Sub.refl _ _) (Sub.mv 0 8000 (by kernel_rfl) (by decide))), ?_⟩
   exact k3 (K_spec_l8Field _ m what b at_) (show ((⟨m.kind, m.from_, m.term, m.at_, m.atTerm, (getN b at_).1, m.yes, m.release, m.part, m.bytes, m.cmd, m.entries⟩ : Msg)) = ((fieldS m what.toNat b at_).1) from by simp only [fieldS, h1, h2, h3, h4, h5, h6, h7, h8, if_true, if_false, Int.reduceEq, reduceIte, Bool.and_true, Bool.and_false, Bool.true_and, Bool.false_and, decide_true, decide_false] <;> rfl) (show ((getN b at_).2.1) = ((fieldS m what.toNat b at_).2.1) from by simp only [fieldS, h1, h2, h3, h4, h5, h6, h7, h8, if_true, if_false, Int.reduceEq, reduceIte, Bool.and_true, Bool.and_false, Bool.true_and, Bool.false_and, decide_true, decide_false] <;> rfl) (show ((getN b at_).2.2) = ((fieldS m what.toNat b at_).2.2) from by simp only [fieldS, h1, h2, h3, h4, h5, h6, h7, h8, if_true, if_false, Int.reduceEq, reduceIte, Bool.and_true, Bool.and_false, Bool.true_and, Bool.false_and, decide_true, decide_false] <;> rfl) (KF.n [(0, 0), (8000, 1)])
 refine AW.q 2 ?_
 refine AW.cE (what.toNat : Int) (114 : Int) (fun h9 => ?_) (fun h9 => ?_)
 · refine AW.gq 3 ?_
   refine AW.q 6 ?_
   refine AW.ret ?_
   refine ⟨_, (Sub.trans (Sub.refl _ _) (Sub.mv 0 8000 (by kernel_rfl) (by decide))), ?_⟩
   exact k3 (K_spec_l8Field _ m what b at_) (show ((⟨m.kind, m.from_, m.term, m.at_, m.atTerm, m.commit, m.yes, (getN b at_).1, m.part, m.bytes, m.cmd, m.entries⟩ : Msg)) = ((fieldS m what.toNat b at_).1) from by simp only [fieldS, h1, h2, h3, h4, h5, h6, h7, h8, h9, if_true, if_false, Int.reduceEq, reduceIte, Bool.and_true, Bool.and_false, Bool.true_and, Bool.false_and, decide_true, decide_false] <;> rfl) (show ((getN b at_).2.1) = ((fieldS m what.toNat b at_).2.1) from by simp only [fieldS, h1, h2, h3, h4, h5, h6, h7, h8, h9, if_true, if_false, Int.reduceEq, reduceIte, Bool.and_true, Bool.and_false, Bool.true_and, Bool.false_and, decide_true, decide_false] <;> rfl) (show ((getN b at_).2.2) = ((fieldS m what.toNat b at_).2.2) from by simp only [fieldS, h1, h2, h3, h4, h5, h6, h7, h8, h9, if_true, if_false, Int.reduceEq, reduceIte, Bool.and_true, Bool.and_false, Bool.true_and, Bool.false_and, decide_true, decide_false] <;> rfl) (KF.n [(0, 0), (8000, 1)])
 refine AW.q 2 ?_
 refine AW.cE (what.toNat : Int) (112 : Int) (fun h10 => ?_) (fun h10 => ?_)
 · refine AW.gq 3 ?_
   refine AW.q 6 ?_
   refine AW.ret ?_
   refine ⟨_, (Sub.trans (Sub.refl _ _) (Sub.mv 0 8000 (by kernel_rfl) (by decide))), ?_⟩
   exact k3 (K_spec_l8Field _ m what b at_) (show ((⟨m.kind, m.from_, m.term, m.at_, m.atTerm, m.commit, m.yes, m.release, (getN b at_).1, m.bytes, m.cmd, m.entries⟩ : Msg)) = ((fieldS m what.toNat b at_).1) from by simp only [fieldS, h1, h2, h3, h4, h5, h6, h7, h8, h9, h10, if_true, if_false, Int.reduceEq, reduceIte, Bool.and_true, Bool.and_false, Bool.true_and, Bool.false_and, decide_true, decide_false] <;> rfl) (show ((getN b at_).2.1) = ((fieldS m what.toNat b at_).2.1) from by simp only [fieldS, h1, h2, h3, h4, h5, h6, h7, h8, h9, h10, if_true, if_false, Int.reduceEq, reduceIte, Bool.and_true, Bool.and_false, Bool.true_and, Bool.false_and, decide_true, decide_false] <;> rfl) (show ((getN b at_).2.2) = ((fieldS m what.toNat b at_).2.2) from by simp only [fieldS, h1, h2, h3, h4, h5, h6, h7, h8, h9, h10, if_true, if_false, Int.reduceEq, reduceIte, Bool.and_true, Bool.and_false, Bool.true_and, Bool.false_and, decide_true, decide_false] <;> rfl) (KF.n [(0, 0), (8000, 1)])
 refine AW.q 2 ?_
 refine AW.cE (what.toNat : Int) (121 : Int) (fun h11 => ?_) (fun h11 => ?_)
 · refine AW.q 4 ?_
   refine AW.g ?_
   refine At.a 2 ?_
   by_cases h12 : ((getN b at_).2.2) = true
   · refine At.sB 97 ((getN b at_).2.2) true (sayB h12) ?_
     refine At.z 4 ?_
     refine AW.q 6 ?_
     refine AW.ret ?_
     refine ⟨_, (Sub.trans (Sub.refl _ _) (Sub.mv 0 8000 (by kernel_rfl) (by decide))), ?_⟩
     exact k3 (K_spec_l8Field _ m what b at_) (show ((⟨m.kind, m.from_, m.term, m.at_, m.atTerm, m.commit, ((getN b at_).1) == 1, m.release, m.part, m.bytes, m.cmd, m.entries⟩ : Msg)) = ((fieldS m what.toNat b at_).1) from by simp only [fieldS, h1, h2, h3, h4, h5, h6, h7, h8, h9, h10, h11, h12, if_true, if_false, Int.reduceEq, reduceIte, Bool.and_true, Bool.and_false, Bool.true_and, Bool.false_and, decide_true, decide_false] <;> rfl) (show ((getN b at_).2.1) = ((fieldS m what.toNat b at_).2.1) from by simp only [fieldS, h1, h2, h3, h4, h5, h6, h7, h8, h9, h10, h11, h12, if_true, if_false, Int.reduceEq, reduceIte, Bool.and_true, Bool.and_false, Bool.true_and, Bool.false_and, decide_true, decide_false] <;> rfl) (show (decide (((getN b at_).1) < 2)) = ((fieldS m what.toNat b at_).2.2) from by simp only [fieldS, h1, h2, h3, h4, h5, h6, h7, h8, h9, h10, h11, h12, if_true, if_false, Int.reduceEq, reduceIte, Bool.and_true, Bool.and_false, Bool.true_and, Bool.false_and, decide_true, decide_false] <;> rfl) (KF.n [(0, 0), (8000, 1)])
   refine At.sB 97 ((getN b at_).2.2) false (sayB (Bool.eq_false_iff.2 h12)) ?_
   replace h12 := Bool.eq_false_iff.2 h12
   refine At.z 4 ?_
   refine AW.q 6 ?_
   refine AW.ret ?_
   refine ⟨_, (Sub.trans (Sub.refl _ _) (Sub.mv 0 8000 (by kernel_rfl) (by decide))), ?_⟩
   exact k3 (K_spec_l8Field _ m what b at_) (show ((⟨m.kind, m.from_, m.term, m.at_, m.atTerm, m.commit, ((getN b at_).1) == 1, m.release, m.part, m.bytes, m.cmd, m.entries⟩ : Msg)) = ((fieldS m what.toNat b at_).1) from by simp only [fieldS, h1, h2, h3, h4, h5, h6, h7, h8, h9, h10, h11, h12, if_true, if_false, Int.reduceEq, reduceIte, Bool.and_true, Bool.and_false, Bool.true_and, Bool.false_and, decide_true, decide_false] <;> rfl) (show ((getN b at_).2.1) = ((fieldS m what.toNat b at_).2.1) from by simp only [fieldS, h1, h2, h3, h4, h5, h6, h7, h8, h9, h10, h11, h12, if_true, if_false, Int.reduceEq, reduceIte, Bool.and_true, Bool.and_false, Bool.true_and, Bool.false_and, decide_true, decide_false] <;> rfl) (show (false) = ((fieldS m what.toNat b at_).2.2) from by simp only [fieldS, h1, h2, h3, h4, h5, h6, h7, h8, h9, h10, h11, h12, if_true, if_false, Int.reduceEq, reduceIte, Bool.and_true, Bool.and_false, Bool.true_and, Bool.false_and, decide_true, decide_false] <;> rfl) (KF.n [(0, 0), (8000, 1)])
 refine AW.skip ?_
 refine AW.q 6 ?_
 refine AW.ret ?_
 refine ⟨_, (Sub.trans (Sub.refl _ _) (Sub.mv 0 8000 (by kernel_rfl) (by decide))), ?_⟩
 exact k3 (K_spec_l8Field _ m what b at_) (show (m) = ((fieldS m what.toNat b at_).1) from by simp only [fieldS, h1, h2, h3, h4, h5, h6, h7, h8, h9, h10, h11, if_true, if_false, Int.reduceEq, reduceIte, Bool.and_true, Bool.and_false, Bool.true_and, Bool.false_and, decide_true, decide_false] <;> rfl) (show ((getN b at_).2.1) = ((fieldS m what.toNat b at_).2.1) from by simp only [fieldS, h1, h2, h3, h4, h5, h6, h7, h8, h9, h10, h11, if_true, if_false, Int.reduceEq, reduceIte, Bool.and_true, Bool.and_false, Bool.true_and, Bool.false_and, decide_true, decide_false] <;> rfl) (show ((getN b at_).2.2) = ((fieldS m what.toNat b at_).2.2) from by simp only [fieldS, h1, h2, h3, h4, h5, h6, h7, h8, h9, h10, h11, if_true, if_false, Int.reduceEq, reduceIte, Bool.and_true, Bool.and_false, Bool.true_and, Bool.false_and, decide_true, decide_false] <;> rfl) (KF.n [(0, 0), (8000, 1)])
theorem spec_l8In_spec  (s : ByteArray) (b : UInt8) (hs : s.size ≤ 1048576) : FnSpec Try.prog 53 [.str s, .int .u8 (b.toNat : Int)] [] (.bool (hasU (b.toNat : Int) s.data.toList)) [] := by
 refine FnSpec.of 17 Try.func53 rfl Try.ntmps53 (by simp) (AW.weakK ?_)
 refine AW.q 1 ?_
 refine AW.seq ?_
 refine AW.q 1 ?_
 refine AW.block ?_
 refine AW.loopW (fun (k : Nat) => Go.Sy.mk [.str s, .int .u8 (b.toNat : Int), .un, .un, .un, .int .i64 (k : Int)] []) (fun (k : Nat) => k ≤ s.size ∧ hasU (b.toNat : Int) s.data.toList = hasU (b.toNat : Int) (s.data.toList.drop k)) (fun (k : Nat) => s.size - k) 0 ⟨by omega, by rw [List.drop_zero]⟩ (Sub.o [] [true, true, false, false, false, true]) ?_
 rintro k ⟨hk, hR⟩
 refine AW.seq ?_
 refine AW.q 4 ?_
 refine AW.cD ((k : Int) < (s.size : Int)) (fun h1 => ?_) (fun h1 => ?_)
 · refine AW.skip ?_
   refine AW.seq ?_
   refine AW.block ?_
   refine AW.r ?_
   refine At.a 2 ?_
   refine Exists.elim (show ∃ e, s.data[k]? = some e from ⟨_, Array.getElem?_eq_getElem (by show _ < s.size; omega)⟩) fun e1 he1 => ?_
   have hl1 : s.data.toList[k]? = some e1 := by simpa using he1
   refine At.idxStr (t := 9) (d := 14) (x := .tmp 12) (y := .tmp 13) (s := s) (kd := .i64) (i := (k : Int)) e1 (by kernel_rfl) (by kernel_rfl) (by kernel_rfl) (by kernel_rfl) (by omega) he1 ?_
   refine At.z 2 ?_
   refine AW.cE (e1.toNat : Int) (b.toNat : Int) (fun h2 => ?_) (fun h2 => ?_)
   · refine AW.q 1 ?_
     refine AW.ret ?_
     refine ⟨_, Sub.refl _ _, ?_⟩
     refine KF.conv (fun w => .bool w) (fun w => []) (show (true) = (hasU (b.toNat : Int) s.data.toList) from by rw [hR, dropCons hl1]; simp [hasU, h1, h2]) ?_
     exact KF.n []
   refine AW.skip ?_
   refine AW.g ?_
   refine At.a 2 ?_
   refine At.sI 11 ((k : Int) + 1) (by omega) ?_
   refine At.z 1 ?_
   exact ⟨k + 1, ⟨by omega, by rw [hR, dropCons hl1]; simp [hasU, h1, h2]⟩, (by omega), Sub.o [] [true, true, false, false, false, true]⟩
 refine AW.exit ?_
 refine AW.q 1 ?_
 refine AW.ret ?_
 refine ⟨_, Sub.refl _ _, ?_⟩
 refine KF.conv (fun w => .bool w) (fun w => []) (show (false) = (hasU (b.toNat : Int) s.data.toList) from by rw [hR, List.drop_of_length_le (by rw [Array.length_toList]; show s.size ≤ _; omega)]; rfl) ?_
 exact KF.n []
theorem spec_l8Num_spec  (has : Bool) (x : Int) (lo : Int) (hi : Int) : FnSpec Try.prog 52 [.bool has, .int .i64 x, .int .i64 lo, .int .i64 hi] [] (.bool (num8 has x lo hi)) [] := by
 refine FnSpec.of 24 Try.func52 rfl Try.ntmps52 (by simp) (AW.weakK ?_)
 refine AW.q 1 ?_
 refine AW.r ?_
 refine At.a 2 ?_
 by_cases h1 : has = true
 · refine At.sB 10 has true (sayB h1) ?_
   refine At.a 3 ?_
   refine At.c (spec_l1In_spec  x lo hi ) Try.call63 true [] [] [] trivial ?_
   refine At.a 2 ?_
   by_cases h2 : (inR x lo hi) = true
   · refine At.sB 16 (inR x lo hi) true (sayB h2) ?_
     have h2i := inR_iff.1 h2
     refine At.z 8 ?_
     refine AW.ret ?_
     refine ⟨_, Sub.refl _ _, ?_⟩
     refine KF.conv (fun w => .bool w) (fun w => []) (show (true) = (num8 has x lo hi) from by grind [num8]) ?_
     exact KF.n []
   refine At.sB 16 (inR x lo hi) false (sayB (Bool.eq_false_iff.2 h2)) ?_
   replace h2 := Bool.eq_false_iff.2 h2
   refine At.a 3 ?_
   refine At.sB 19 (!has) false (sayNF (sayB h1)) ?_
   refine At.z 5 ?_
   refine AW.ret ?_
   refine ⟨_, Sub.refl _ _, ?_⟩
   refine KF.conv (fun w => .bool w) (fun w => []) (show (false) = (num8 has x lo hi) from by grind [num8]) ?_
   exact KF.n []
 refine At.sB 10 has false (sayB (Bool.eq_false_iff.2 h1)) ?_
 replace h1 := Bool.eq_false_iff.2 h1
 refine At.a 9 ?_
 refine At.sB 19 (!has) true (sayNT (sayB h1)) ?_
 refine At.z 5 ?_
 refine AW.ret ?_
 refine ⟨_, Sub.refl _ _, ?_⟩
 refine KF.conv (fun w => .bool w) (fun w => []) (show (x == 0) = (num8 has x lo hi) from by grind [num8]) ?_
 exact KF.n []
theorem spec_l6Entry_spec  (e : Ent) : FnSpec Try.prog 55 [.agg [.int .i64 e.term, .int .i64 e.cmd.kind, .int .i64 e.cmd.release, .int .i64 e.cmd.node, .int .i64 e.cmd.size, .str e.cmd.digest]] [] (.bool (entOk e)) [] := by
 refine FnSpec.of 11 Try.func55 rfl Try.ntmps55 (by simp) (AW.weakK ?_)
 refine AW.q 2 ?_
 refine AW.r ?_
 refine At.a 2 ?_
 refine At.c (spec_l1In_spec  e.term 1 1000000000 ) Try.call63 true [] [] [] trivial ?_
 refine At.a 1 ?_
 by_cases h1 : (inR e.term 1 1000000000) = true
 · refine At.sB 6 (inR e.term 1 1000000000) true (sayB h1) ?_
   have h1i := inR_iff.1 h1
   refine At.a 2 ?_
   refine At.c (spec_CmdOk_spec  e.cmd ) Try.call54 true [] [] [] trivial ?_
   refine At.z 2 ?_
   refine AW.ret ?_
   refine ⟨_, Sub.refl _ _, ?_⟩
   refine KF.conv (fun w => .bool w) (fun w => []) (show (cmdOk e.cmd) = (entOk e) from by (try simp only [inR_iff, inR_not] at *); rw [Bool.eq_iff_iff]; simp only [entOk, noBytes]; (repeat' split) <;> (try simp [inR_iff]) <;> grind) ?_
   exact KF.n []
 refine At.sB 6 (inR e.term 1 1000000000) false (sayB (Bool.eq_false_iff.2 h1)) ?_
 replace h1 := Bool.eq_false_iff.2 h1
 refine At.z 5 ?_
 refine AW.ret ?_
 refine ⟨_, Sub.refl _ _, ?_⟩
 refine KF.conv (fun w => .bool w) (fun w => []) (show (false) = (entOk e) from by (try simp only [inR_iff, inR_not] at *); rw [Bool.eq_iff_iff]; simp only [entOk, noBytes]; (repeat' split) <;> (try simp [inR_iff]) <;> grind) ?_
 exact KF.n []
theorem spec_MsgFits_spec  (m : Msg) (hl : m.entries.length ≤ 1048576) : FnSpec Try.prog 21 [(msgA m)] [] (.bool (msgFits m)) [] := by
 refine FnSpec.of 132 Try.func21 rfl Try.ntmps21 (by simp) (AW.weakK ?_)
 refine AW.q 2 ?_
 refine AW.r ?_
 refine At.a 2 ?_
 refine At.c (spec_l8Has_spec  m.kind ) Try.call28 true [] [] [] trivial ?_
 refine At.z 1 ?_
 refine AW.seq ?_
 refine AW.seq ?_
 refine AW.cut [(101, 101)] [false, true, false, true] 50 (!(fits1 m)) ?_ ?_
 · refine AW.gD Try_mix ?_
   refine At.a 3 ?_
   by_cases h1 : (l8F m.kind).toList = (⟨#[]⟩ : ByteArray).toList
   · refine At.sB 11 _ _ (sayET h1) ?_
     refine At.a 39 ?_
     refine At.sB 50 true (!(fits1 m)) (congrArg V.bool (by simp only [noBytes] at *; grind [fits1, hasF])) ?_
     refine At.done rfl ⟨by kernel_rfl, rfl, ?_⟩
     exact Sub.cut [(101, 101)] [false, true, false, true] 50 _ (by kernel_rfl) (by kernel_rfl) (by kernel_rfl) (by kernel_rfl)
   refine At.sB 11 _ _ (sayEF h1) ?_
   refine At.a 1 ?_
   refine At.c (spec_l8In_spec  (l8F m.kind) (102 : UInt8) (l8F_small _)) Try.call53 true [] [] [] trivial ?_
   refine At.a 2 ?_
   refine At.c (spec_l8Num_spec  (hasU ((102 : UInt8).toNat : Int) (l8F m.kind).data.toList) m.from_ 0 4 ) Try.call52 true [] [] [] trivial ?_
   refine At.a 3 ?_
   by_cases h2 : (num8 (hasU ((102 : UInt8).toNat : Int) (l8F m.kind).data.toList) m.from_ 0 4) = true
   · refine At.sB 19 (!(num8 (hasU ((102 : UInt8).toNat : Int) (l8F m.kind).data.toList) m.from_ 0 4)) false (sayNF (sayB h2)) ?_
     refine At.a 1 ?_
     refine At.c (spec_l8In_spec  (l8F m.kind) (116 : UInt8) (l8F_small _)) Try.call53 true [] [] [] trivial ?_
     refine At.a 2 ?_
     refine At.c (spec_l8Num_spec  (hasU ((116 : UInt8).toNat : Int) (l8F m.kind).data.toList) m.term 0 1000000000 ) Try.call52 true [] [] [] trivial ?_
     refine At.a 3 ?_
     by_cases h3 : (num8 (hasU ((116 : UInt8).toNat : Int) (l8F m.kind).data.toList) m.term 0 1000000000) = true
     · refine At.sB 27 (!(num8 (hasU ((116 : UInt8).toNat : Int) (l8F m.kind).data.toList) m.term 0 1000000000)) false (sayNF (sayB h3)) ?_
       refine At.a 1 ?_
       refine At.c (spec_l8In_spec  (l8F m.kind) (97 : UInt8) (l8F_small _)) Try.call53 true [] [] [] trivial ?_
       refine At.a 2 ?_
       refine At.c (spec_l8Num_spec  (hasU ((97 : UInt8).toNat : Int) (l8F m.kind).data.toList) m.at_ 0 80 ) Try.call52 true [] [] [] trivial ?_
       refine At.a 3 ?_
       by_cases h4 : (num8 (hasU ((97 : UInt8).toNat : Int) (l8F m.kind).data.toList) m.at_ 0 80) = true
       · refine At.sB 35 (!(num8 (hasU ((97 : UInt8).toNat : Int) (l8F m.kind).data.toList) m.at_ 0 80)) false (sayNF (sayB h4)) ?_
         refine At.a 1 ?_
         refine At.c (spec_l8In_spec  (l8F m.kind) (115 : UInt8) (l8F_small _)) Try.call53 true [] [] [] trivial ?_
         refine At.a 2 ?_
         refine At.c (spec_l8Num_spec  (hasU ((115 : UInt8).toNat : Int) (l8F m.kind).data.toList) m.atTerm 0 1000000000 ) Try.call52 true [] [] [] trivial ?_
         refine At.a 3 ?_
         by_cases h5 : (num8 (hasU ((115 : UInt8).toNat : Int) (l8F m.kind).data.toList) m.atTerm 0 1000000000) = true
         · refine At.sB 43 (!(num8 (hasU ((115 : UInt8).toNat : Int) (l8F m.kind).data.toList) m.atTerm 0 1000000000)) false (sayNF (sayB h5)) ?_
           refine At.a 1 ?_
           refine At.c (spec_l8In_spec  (l8F m.kind) (99 : UInt8) (l8F_small _)) Try.call53 true [] [] [] trivial ?_
           refine At.a 2 ?_
           refine At.c (spec_l8Num_spec  (hasU ((99 : UInt8).toNat : Int) (l8F m.kind).data.toList) m.commit 0 80 ) Try.call52 true [] [] [] trivial ?_
           refine At.a 2 ?_
           refine At.sB 50 (!(num8 (hasU ((99 : UInt8).toNat : Int) (l8F m.kind).data.toList) m.commit 0 80)) (!(fits1 m)) (congrArg V.bool (by simp only [noBytes] at *; grind [fits1, hasF])) ?_
           refine At.done rfl ⟨by kernel_rfl, rfl, ?_⟩
           exact Sub.cut [(101, 101)] [false, true, false, true] 50 _ (by kernel_rfl) (by kernel_rfl) (by kernel_rfl) (by kernel_rfl)
         refine At.sB 43 (!(num8 (hasU ((115 : UInt8).toNat : Int) (l8F m.kind).data.toList) m.atTerm 0 1000000000)) true (sayNT (sayB (Bool.eq_false_iff.2 h5))) ?_
         replace h5 := Bool.eq_false_iff.2 h5
         refine At.a 7 ?_
         refine At.sB 50 true (!(fits1 m)) (congrArg V.bool (by simp only [noBytes] at *; grind [fits1, hasF])) ?_
         refine At.done rfl ⟨by kernel_rfl, rfl, ?_⟩
         exact Sub.cut [(101, 101)] [false, true, false, true] 50 _ (by kernel_rfl) (by kernel_rfl) (by kernel_rfl) (by kernel_rfl)
       refine At.sB 35 (!(num8 (hasU ((97 : UInt8).toNat : Int) (l8F m.kind).data.toList) m.at_ 0 80)) true (sayNT (sayB (Bool.eq_false_iff.2 h4))) ?_
       replace h4 := Bool.eq_false_iff.2 h4
       refine At.a 15 ?_
       refine At.sB 50 true (!(fits1 m)) (congrArg V.bool (by simp only [noBytes] at *; grind [fits1, hasF])) ?_
       refine At.done rfl ⟨by kernel_rfl, rfl, ?_⟩
       exact Sub.cut [(101, 101)] [false, true, false, true] 50 _ (by kernel_rfl) (by kernel_rfl) (by kernel_rfl) (by kernel_rfl)
     refine At.sB 27 (!(num8 (hasU ((116 : UInt8).toNat : Int) (l8F m.kind).data.toList) m.term 0 1000000000)) true (sayNT (sayB (Bool.eq_false_iff.2 h3))) ?_
     replace h3 := Bool.eq_false_iff.2 h3
     refine At.a 23 ?_
     refine At.sB 50 true (!(fits1 m)) (congrArg V.bool (by simp only [noBytes] at *; grind [fits1, hasF])) ?_
     refine At.done rfl ⟨by kernel_rfl, rfl, ?_⟩
     exact Sub.cut [(101, 101)] [false, true, false, true] 50 _ (by kernel_rfl) (by kernel_rfl) (by kernel_rfl) (by kernel_rfl)
   refine At.sB 19 (!(num8 (hasU ((102 : UInt8).toNat : Int) (l8F m.kind).data.toList) m.from_ 0 4)) true (sayNT (sayB (Bool.eq_false_iff.2 h2))) ?_
   replace h2 := Bool.eq_false_iff.2 h2
   refine At.a 31 ?_
   refine At.sB 50 true (!(fits1 m)) (congrArg V.bool (by simp only [noBytes] at *; grind [fits1, hasF])) ?_
   refine At.done rfl ⟨by kernel_rfl, rfl, ?_⟩
   exact Sub.cut [(101, 101)] [false, true, false, true] 50 _ (by kernel_rfl) (by kernel_rfl) (by kernel_rfl) (by kernel_rfl)
 refine AW.cNB (fits1 m) (fun h6 => ?_) (fun h6 => ?_)
 · refine AW.q 1 ?_
   refine AW.ret ?_
   refine ⟨_, Sub.refl _ _, ?_⟩
   refine KF.conv (fun w => .bool w) (fun w => []) (show (false) = (msgFits m) from by grind [msgFits]) ?_
   exact KF.n []
 refine AW.skip ?_
 refine AW.seq ?_
 refine AW.seq ?_
 refine AW.cut [(101, 101)] [false, true, false, true] 97 (!(fits2 m)) ?_ ?_
 · refine AW.gD Try_mix ?_
   refine At.a 1 ?_
   refine At.c (spec_l8In_spec  (l8F m.kind) (114 : UInt8) (l8F_small _)) Try.call53 true [] [] [] trivial ?_
   refine At.a 2 ?_
   refine At.c (spec_l8Num_spec  (hasU ((114 : UInt8).toNat : Int) (l8F m.kind).data.toList) m.release 1 1000 ) Try.call52 true [] [] [] trivial ?_
   refine At.a 2 ?_
   by_cases h7 : (num8 (hasU ((114 : UInt8).toNat : Int) (l8F m.kind).data.toList) m.release 1 1000) = true
   · refine At.sB 57 (!(num8 (hasU ((114 : UInt8).toNat : Int) (l8F m.kind).data.toList) m.release 1 1000)) false (sayNF (sayB h7)) ?_
     refine At.a 1 ?_
     refine At.c (spec_l8In_spec  (l8F m.kind) (112 : UInt8) (l8F_small _)) Try.call53 true [] [] [] trivial ?_
     refine At.a 2 ?_
     refine At.c (spec_l8Num_spec  (hasU ((112 : UInt8).toNat : Int) (l8F m.kind).data.toList) m.part 0 1000 ) Try.call52 true [] [] [] trivial ?_
     refine At.a 3 ?_
     by_cases h8 : (num8 (hasU ((112 : UInt8).toNat : Int) (l8F m.kind).data.toList) m.part 0 1000) = true
     · refine At.sB 65 (!(num8 (hasU ((112 : UInt8).toNat : Int) (l8F m.kind).data.toList) m.part 0 1000)) false (sayNF (sayB h8)) ?_
       refine At.a 3 ?_
       by_cases h9 : m.yes = true
       · refine At.sB 68 m.yes true (sayB h9) ?_
         refine At.a 1 ?_
         refine At.c (spec_l8In_spec  (l8F m.kind) (121 : UInt8) (l8F_small _)) Try.call53 true [] [] [] trivial ?_
         refine At.a 4 ?_
         by_cases h10 : (hasU ((121 : UInt8).toNat : Int) (l8F m.kind).data.toList) = true
         · refine At.sB 74 (!(hasU ((121 : UInt8).toNat : Int) (l8F m.kind).data.toList)) false (sayNF (sayB h10)) ?_
           refine At.a 1 ?_
           refine At.c (spec_l8In_spec  (l8F m.kind) (98 : UInt8) (l8F_small _)) Try.call53 true [] [] [] trivial ?_
           refine At.a 3 ?_
           refine At.c (spec_l8Num_spec  (hasU ((98 : UInt8).toNat : Int) (l8F m.kind).data.toList) (m.bytes.size : Int) 1 16 ) Try.call52 true [] [] [] trivial ?_
           refine At.a 3 ?_
           by_cases h11 : (num8 (hasU ((98 : UInt8).toNat : Int) (l8F m.kind).data.toList) (m.bytes.size : Int) 1 16) = true
           · refine At.sB 83 (!(num8 (hasU ((98 : UInt8).toNat : Int) (l8F m.kind).data.toList) (m.bytes.size : Int) 1 16)) false (sayNF (sayB h11)) ?_
             refine At.a 1 ?_
             refine At.c (spec_l8In_spec  (l8F m.kind) (101 : UInt8) (l8F_small _)) Try.call53 true [] [] [] trivial ?_
             refine At.a 1 ?_
             by_cases h12 : (hasU ((101 : UInt8).toNat : Int) (l8F m.kind).data.toList) = true
             · refine At.sB 86 (hasU ((101 : UInt8).toNat : Int) (l8F m.kind).data.toList) true (sayB h12) ?_
               refine At.a 8 ?_
               refine At.sL 94 encEnt m.entries ?_
               refine At.c (spec_l8Num_spec  true (m.entries.length : Int) 0 6 ) Try.call52 true [] [] [] trivial ?_
               refine At.a 2 ?_
               refine At.sB 97 (!(num8 true (m.entries.length : Int) 0 6)) (!(fits2 m)) (congrArg V.bool (by grind [fits2, hasF])) ?_
               refine At.done rfl ⟨by kernel_rfl, rfl, ?_⟩
               exact Sub.cut [(101, 101)] [false, true, false, true] 97 _ (by kernel_rfl) (by kernel_rfl) (by kernel_rfl) (by kernel_rfl)
             refine At.sB 86 (hasU ((101 : UInt8).toNat : Int) (l8F m.kind).data.toList) false (sayB (Bool.eq_false_iff.2 h12)) ?_
             replace h12 := Bool.eq_false_iff.2 h12
             refine At.a 3 ?_
             refine At.sL 89 encEnt m.entries ?_
             refine At.a 5 ?_
             refine At.sL 94 encEnt m.entries ?_
             refine At.c (spec_l8Num_spec  ((m.entries.length : Int) == 0) (m.entries.length : Int) 0 6 ) Try.call52 true [] [] [] trivial ?_
             refine At.a 2 ?_
             refine At.sB 97 (!(num8 ((m.entries.length : Int) == 0) (m.entries.length : Int) 0 6)) (!(fits2 m)) (congrArg V.bool (by grind [fits2, hasF])) ?_
             refine At.done rfl ⟨by kernel_rfl, rfl, ?_⟩
             exact Sub.cut [(101, 101)] [false, true, false, true] 97 _ (by kernel_rfl) (by kernel_rfl) (by kernel_rfl) (by kernel_rfl)
           refine At.sB 83 (!(num8 (hasU ((98 : UInt8).toNat : Int) (l8F m.kind).data.toList) (m.bytes.size : Int) 1 16)) true (sayNT (sayB (Bool.eq_false_iff.2 h11))) ?_
           replace h11 := Bool.eq_false_iff.2 h11
           refine At.a 14 ?_
           refine At.sB 97 true (!(fits2 m)) (congrArg V.bool (by grind [fits2, hasF])) ?_
           refine At.done rfl ⟨by kernel_rfl, rfl, ?_⟩
           exact Sub.cut [(101, 101)] [false, true, false, true] 97 _ (by kernel_rfl) (by kernel_rfl) (by kernel_rfl) (by kernel_rfl)
         refine At.sB 74 (!(hasU ((121 : UInt8).toNat : Int) (l8F m.kind).data.toList)) true (sayNT (sayB (Bool.eq_false_iff.2 h10))) ?_
         replace h10 := Bool.eq_false_iff.2 h10
         refine At.a 23 ?_
         refine At.sB 97 true (!(fits2 m)) (congrArg V.bool (by grind [fits2, hasF])) ?_
         refine At.done rfl ⟨by kernel_rfl, rfl, ?_⟩
         exact Sub.cut [(101, 101)] [false, true, false, true] 97 _ (by kernel_rfl) (by kernel_rfl) (by kernel_rfl) (by kernel_rfl)
       refine At.sB 68 m.yes false (sayB (Bool.eq_false_iff.2 h9)) ?_
       replace h9 := Bool.eq_false_iff.2 h9
       refine At.a 7 ?_
       refine At.c (spec_l8In_spec  (l8F m.kind) (98 : UInt8) (l8F_small _)) Try.call53 true [] [] [] trivial ?_
       refine At.a 3 ?_
       refine At.c (spec_l8Num_spec  (hasU ((98 : UInt8).toNat : Int) (l8F m.kind).data.toList) (m.bytes.size : Int) 1 16 ) Try.call52 true [] [] [] trivial ?_
       refine At.a 3 ?_
       by_cases h13 : (num8 (hasU ((98 : UInt8).toNat : Int) (l8F m.kind).data.toList) (m.bytes.size : Int) 1 16) = true
       · refine At.sB 83 (!(num8 (hasU ((98 : UInt8).toNat : Int) (l8F m.kind).data.toList) (m.bytes.size : Int) 1 16)) false (sayNF (sayB h13)) ?_
         refine At.a 1 ?_
         refine At.c (spec_l8In_spec  (l8F m.kind) (101 : UInt8) (l8F_small _)) Try.call53 true [] [] [] trivial ?_
         refine At.a 1 ?_
         by_cases h14 : (hasU ((101 : UInt8).toNat : Int) (l8F m.kind).data.toList) = true
         · refine At.sB 86 (hasU ((101 : UInt8).toNat : Int) (l8F m.kind).data.toList) true (sayB h14) ?_
           refine At.a 8 ?_
           refine At.sL 94 encEnt m.entries ?_
           refine At.c (spec_l8Num_spec  true (m.entries.length : Int) 0 6 ) Try.call52 true [] [] [] trivial ?_
           refine At.a 2 ?_
           refine At.sB 97 (!(num8 true (m.entries.length : Int) 0 6)) (!(fits2 m)) (congrArg V.bool (by grind [fits2, hasF])) ?_
           refine At.done rfl ⟨by kernel_rfl, rfl, ?_⟩
           exact Sub.cut [(101, 101)] [false, true, false, true] 97 _ (by kernel_rfl) (by kernel_rfl) (by kernel_rfl) (by kernel_rfl)
         refine At.sB 86 (hasU ((101 : UInt8).toNat : Int) (l8F m.kind).data.toList) false (sayB (Bool.eq_false_iff.2 h14)) ?_
         replace h14 := Bool.eq_false_iff.2 h14
         refine At.a 3 ?_
         refine At.sL 89 encEnt m.entries ?_
         refine At.a 5 ?_
         refine At.sL 94 encEnt m.entries ?_
         refine At.c (spec_l8Num_spec  ((m.entries.length : Int) == 0) (m.entries.length : Int) 0 6 ) Try.call52 true [] [] [] trivial ?_
         refine At.a 2 ?_
         refine At.sB 97 (!(num8 ((m.entries.length : Int) == 0) (m.entries.length : Int) 0 6)) (!(fits2 m)) (congrArg V.bool (by grind [fits2, hasF])) ?_
         refine At.done rfl ⟨by kernel_rfl, rfl, ?_⟩
         exact Sub.cut [(101, 101)] [false, true, false, true] 97 _ (by kernel_rfl) (by kernel_rfl) (by kernel_rfl) (by kernel_rfl)
       refine At.sB 83 (!(num8 (hasU ((98 : UInt8).toNat : Int) (l8F m.kind).data.toList) (m.bytes.size : Int) 1 16)) true (sayNT (sayB (Bool.eq_false_iff.2 h13))) ?_
       replace h13 := Bool.eq_false_iff.2 h13
       refine At.a 14 ?_
       refine At.sB 97 true (!(fits2 m)) (congrArg V.bool (by grind [fits2, hasF])) ?_
       refine At.done rfl ⟨by kernel_rfl, rfl, ?_⟩
       exact Sub.cut [(101, 101)] [false, true, false, true] 97 _ (by kernel_rfl) (by kernel_rfl) (by kernel_rfl) (by kernel_rfl)
     refine At.sB 65 (!(num8 (hasU ((112 : UInt8).toNat : Int) (l8F m.kind).data.toList) m.part 0 1000)) true (sayNT (sayB (Bool.eq_false_iff.2 h8))) ?_
     replace h8 := Bool.eq_false_iff.2 h8
     refine At.a 32 ?_
     refine At.sB 97 true (!(fits2 m)) (congrArg V.bool (by grind [fits2, hasF])) ?_
     refine At.done rfl ⟨by kernel_rfl, rfl, ?_⟩
     exact Sub.cut [(101, 101)] [false, true, false, true] 97 _ (by kernel_rfl) (by kernel_rfl) (by kernel_rfl) (by kernel_rfl)
   refine At.sB 57 (!(num8 (hasU ((114 : UInt8).toNat : Int) (l8F m.kind).data.toList) m.release 1 1000)) true (sayNT (sayB (Bool.eq_false_iff.2 h7))) ?_
   replace h7 := Bool.eq_false_iff.2 h7
   refine At.a 40 ?_
   refine At.sB 97 true (!(fits2 m)) (congrArg V.bool (by grind [fits2, hasF])) ?_
   refine At.done rfl ⟨by kernel_rfl, rfl, ?_⟩
   exact Sub.cut [(101, 101)] [false, true, false, true] 97 _ (by kernel_rfl) (by kernel_rfl) (by kernel_rfl) (by kernel_rfl)
 refine AW.cNB (fits2 m) (fun h15 => ?_) (fun h15 => ?_)
 · refine AW.q 1 ?_
   refine AW.ret ?_
   refine ⟨_, Sub.refl _ _, ?_⟩
   refine KF.conv (fun w => .bool w) (fun w => []) (show (false) = (msgFits m) from by grind [msgFits]) ?_
   exact KF.n []
 refine AW.skip ?_
 refine AW.q 3 ?_
 refine AW.seq ?_
 refine AW.seq ?_
 refine AW.cut [(101, 101), (104, 104)] [false, true] 117 (!(fits3 m)) ?_ ?_
 · refine AW.g ?_
   refine At.a 1 ?_
   refine At.c (spec_l8In_spec  (l8F m.kind) (100 : UInt8) (l8F_small _)) Try.call53 true [] [] [] trivial ?_
   refine At.a 1 ?_
   by_cases h16 : (hasU ((100 : UInt8).toNat : Int) (l8F m.kind).data.toList) = true
   · refine At.sB 101 (hasU ((100 : UInt8).toNat : Int) (l8F m.kind).data.toList) true (sayB h16) ?_
     refine At.a 2 ?_
     refine At.c (spec_CmdOk_spec  m.cmd ) Try.call54 true [] [] [] trivial ?_
     refine At.a 3 ?_
     by_cases h17 : (cmdOk m.cmd) = true
     · refine At.sB 107 (!(cmdOk m.cmd)) false (sayNF (sayB h17)) ?_
       refine At.a 1 ?_
       refine At.c (spec_l8In_spec  (l8F m.kind) (100 : UInt8) (l8F_small _)) Try.call53 true [] [] [] trivial ?_
       refine At.a 2 ?_
       refine At.sB 111 (!(hasU ((100 : UInt8).toNat : Int) (l8F m.kind).data.toList)) false (sayNF (sayB h16)) ?_
       refine At.a 6 ?_
       refine At.sB 117 false (!(fits3 m)) (congrArg V.bool (by grind [fits3, hasF, zCmd])) ?_
       refine At.done rfl ⟨rfl, ?_⟩
       exact Sub.cut [(101, 101), (104, 104)] [false, true] 117 _ (by kernel_rfl) (by kernel_rfl) (by kernel_rfl) (by kernel_rfl)
     refine At.sB 107 (!(cmdOk m.cmd)) true (sayNT (sayB (Bool.eq_false_iff.2 h17))) ?_
     replace h17 := Bool.eq_false_iff.2 h17
     refine At.a 10 ?_
     refine At.sB 117 true (!(fits3 m)) (congrArg V.bool (by grind [fits3, hasF, zCmd])) ?_
     refine At.done rfl ⟨rfl, ?_⟩
     exact Sub.cut [(101, 101), (104, 104)] [false, true] 117 _ (by kernel_rfl) (by kernel_rfl) (by kernel_rfl) (by kernel_rfl)
   refine At.sB 101 (hasU ((100 : UInt8).toNat : Int) (l8F m.kind).data.toList) false (sayB (Bool.eq_false_iff.2 h16)) ?_
   replace h16 := Bool.eq_false_iff.2 h16
   refine At.a 7 ?_
   refine At.c (spec_l8In_spec  (l8F m.kind) (100 : UInt8) (l8F_small _)) Try.call53 true [] [] [] trivial ?_
   refine At.a 2 ?_
   refine At.sB 111 (!(hasU ((100 : UInt8).toNat : Int) (l8F m.kind).data.toList)) true (sayNT (sayB h16)) ?_
   refine At.a 3 ?_
   refine At.eqA (t := 31) (u := 31) (d := 115) (op := .neq) (x := .tmp 113) (y := .tmp 114) (X := [.int .i64 m.cmd.kind, .int .i64 m.cmd.release, .int .i64 m.cmd.node, .int .i64 m.cmd.size, .str m.cmd.digest]) (Y := [.int .i64 0, .int .i64 0, .int .i64 0, .int .i64 0, .str (⟨#[]⟩ : ByteArray)]) (cmdEq m.cmd (⟨0, 0, 0, 0, (⟨#[]⟩ : ByteArray)⟩ : Cmd)) (by kernel_rfl) (by kernel_rfl) (by kernel_rfl) (by kernel_rfl) (by kernel_rfl) (.bool (!(cmdEq m.cmd (⟨0, 0, 0, 0, (⟨#[]⟩ : ByteArray)⟩ : Cmd)))) (.inr ⟨rfl, rfl⟩) ?_
   refine At.a 2 ?_
   refine At.sB 117 (!(cmdEq m.cmd (⟨0, 0, 0, 0, (⟨#[]⟩ : ByteArray)⟩ : Cmd))) (!(fits3 m)) (congrArg V.bool (by grind [fits3, hasF, zCmd])) ?_
   refine At.done rfl ⟨rfl, ?_⟩
   exact Sub.cut [(101, 101), (104, 104)] [false, true] 117 _ (by kernel_rfl) (by kernel_rfl) (by kernel_rfl) (by kernel_rfl)
 refine AW.cNB (fits3 m) (fun h20 => ?_) (fun h20 => ?_)
 · refine AW.q 1 ?_
   refine AW.ret ?_
   refine ⟨_, Sub.refl _ _, ?_⟩
   refine KF.conv (fun w => .bool w) (fun w => []) (show (false) = (msgFits m) from by grind [msgFits]) ?_
   exact KF.n []
 refine AW.skip ?_
 refine AW.seq ?_
 refine AW.q 1 ?_
 refine AW.block ?_
 refine AW.loopW (fun (k : Nat) => Go.Sy.mk [.un, .ptr 101 0 0, .un, .un, .un, .int .i64 (k : Int)] [(101, .box 34 [.int .i64 m.kind, .int .i64 m.from_, .int .i64 m.term, .int .i64 m.at_, .int .i64 m.atTerm, .int .i64 m.commit, .bool m.yes, .int .i64 m.release, .int .i64 m.part, .str m.bytes, .int .i64 m.cmd.kind, .int .i64 m.cmd.release, .int .i64 m.cmd.node, .int .i64 m.cmd.size, .str m.cmd.digest, .sl false 6 (m.entries.map encEnt)])]) (fun (k : Nat) => k ≤ m.entries.length ∧ entsOk m.entries = entsOk (m.entries.drop k)) (fun (k : Nat) => m.entries.length - k) 0 ⟨by omega, by rw [List.drop_zero]⟩ (Sub.o [(101, 101)] [false, true, false, false, false, true]) ?_
 rintro k ⟨hk, hR⟩
 refine AW.seq ?_
 refine AW.r ?_
 refine At.a 4 ?_
 refine At.sL 121 encEnt m.entries ?_
 refine At.z 1 ?_
 refine AW.cD ((k : Int) < (m.entries.length : Int)) (fun h21 => ?_) (fun h21 => ?_)
 · refine AW.skip ?_
   refine AW.seq ?_
   refine AW.block ?_
   refine AW.r ?_
   refine At.a 3 ?_
   refine At.iSl 32 128 (.tmp 126) (.tmp 127) false 6 (m.entries.map encEnt) .i64 (k : Int) 56 (by omega) (by simp only [List.length_map]; omega) ?_
   refine Exists.elim (gE m.entries k (by omega)) fun e1 he1 => ?_
   refine At.lVp 56 129 (.tmp 128) false 6 (m.entries.map encEnt) k 0 true 6 (encEnt e1) (.agg [.int .i64 e1.term, .int .i64 e1.cmd.kind, .int .i64 e1.cmd.release, .int .i64 e1.cmd.node, .int .i64 e1.cmd.size, .str e1.cmd.digest]) (mapGet he1) ?_
   refine At.c (spec_l6Entry_spec  e1 ) Try.call55 true [] [] [] trivial ?_
   refine At.z 1 ?_
   refine AW.cNB (entOk e1) (fun h22 => ?_) (fun h22 => ?_)
   · refine AW.q 1 ?_
     refine AW.ret ?_
     refine ⟨_, Sub.refl _ _, ?_⟩
     refine KF.conv (fun w => .bool w) (fun w => []) (show (false) = (msgFits m) from by rw [dropCons he1] at hR; grind [msgFits, entsOk]) ?_
     exact KF.n []
   have h22n := entOk_nums h22
   refine AW.skip ?_
   refine AW.g ?_
   refine At.a 2 ?_
   refine At.sI 124 ((k : Int) + 1) (by omega) ?_
   refine At.z 1 ?_
   exact ⟨k + 1, ⟨by omega, by rw [hR, dropCons he1, entsOk]; simp only [*, Bool.true_and]⟩, (by omega), Sub.o [(101, 101)] [false, true, false, false, false, true]⟩
 refine AW.exit ?_
 refine AW.q 1 ?_
 refine AW.ret ?_
 refine ⟨_, Sub.refl _ _, ?_⟩
 refine KF.conv (fun w => .bool w) (fun w => []) (show (true) = (msgFits m) from by rw [List.drop_of_length_le (by omega)] at hR; grind [msgFits, entsOk]) ?_
 exact KF.n []
def K_spec_MsgRead (rs : List ResultVar) (b : List UInt8) (w0_ : Msg) (w1_ : Int) : Exit → Sg → Prop := KF Try.prog 0 rs (.tup [.agg [.int .i64 w0_.kind, .int .i64 w0_.from_, .int .i64 w0_.term, .int .i64 w0_.at_, .int .i64 w0_.atTerm, .int .i64 w0_.commit, .bool w0_.yes, .int .i64 w0_.release, .int .i64 w0_.part, .str w0_.bytes, .int .i64 w0_.cmd.kind, .int .i64 w0_.cmd.release, .int .i64 w0_.cmd.node, .int .i64 w0_.cmd.size, .str w0_.cmd.digest, .ref 0], .int .i64 w1_]) [.arr 56 6 (w0_.entries.map encEnt)]
theorem spec_MsgRead_spec  (b : List UInt8) (hb : b.length ≤ 1048576) : FnSpec Try.prog 15 [.sl false 1 (b.map encU8)] [] (.tup [.agg [.int .i64 (((msgR b).1).kind), .int .i64 (((msgR b).1).from_), .int .i64 (((msgR b).1).term), .int .i64 (((msgR b).1).at_), .int .i64 (((msgR b).1).atTerm), .int .i64 (((msgR b).1).commit), .bool (((msgR b).1).yes), .int .i64 (((msgR b).1).release), .int .i64 (((msgR b).1).part), .str (((msgR b).1).bytes), .int .i64 (((msgR b).1).cmd.kind), .int .i64 (((msgR b).1).cmd.release), .int .i64 (((msgR b).1).cmd.node), .int .i64 (((msgR b).1).cmd.size), .str (((msgR b).1).cmd.digest), .ref 0], .int .i64 ((msgR b).2)]) [.arr 56 6 ((((msgR b).1).entries).map encEnt)] := by
 have hul := unsealB_len b 0
 have hg0 := getN_num (unsealB b 0).1 (at_ := 0)
 have hf6 := l8F_six (getN (unsealB b 0).1 0).1
 refine FnSpec.of 82 Try.func15 rfl Try.ntmps15 (by simp) (AW.weakK ?_)
 refine AW.q 2 ?_
 refine AW.seq ?_
 refine AW.weak (Sub.nils [⟨true, 102, some 15, 5001, 56, 6⟩] (by kernel_rfl)) ?_
 refine AW.gq 3 ?_
 refine AW.seq ?_
 refine AW.weak (Sub.nils [⟨true, 104, some 15, 5002, 56, 6⟩] (by kernel_rfl)) ?_
 refine AW.g ?_
 refine At.a 1 ?_
 refine At.c (spec_Unseal_spec  b 0 hb (by omega)) Try.call43 true [] [(1400, 0)] [] trivial ?_
 refine At.z 7 ?_
 refine AW.seq ?_
 refine AW.r ?_
 refine At.a 3 ?_
 by_cases h1 : (unsealB b 0).2.2 = 0
 · refine At.sB 26 _ _ (sayUF h1) ?_
   refine At.a 3 ?_
   refine At.sL 29 encU8 b ?_
   refine At.z 2 ?_
   refine AW.cU ((unsealB b 0).2.1) (b.length : Int) (fun h2 => ?_) (fun h2 => ?_)
   · refine AW.q 3 ?_
     exact AW.ret (rf (k2 (K_spec_MsgRead _ b) (show ((⟨0, 0, 0, 0, 0, 0, false, 0, 0, (⟨#[]⟩ : ByteArray), ⟨0, 0, 0, 0, (⟨#[]⟩ : ByteArray)⟩, []⟩ : Msg)) = ((msgR b).1) from by rw [msgR_1 (by first | exact Or.inl (by assumption) | exact Or.inr (by first | assumption | (rw [← noBytes]; assumption)))]; first | done | rfl) (show (1) = ((msgR b).2) from by rw [msgR_1 (by first | exact Or.inl (by assumption) | exact Or.inr (by first | assumption | (rw [← noBytes]; assumption)))]; first | done | rfl) (KF.n [(5002, 0)])))
   refine AW.skip ?_
   refine AW.r ?_
   refine At.a 1 ?_
   refine At.c (spec_GetNum_spec  ((unsealB b 0).1) 0 (by omega) (by omega)) Try.call22 false [] [] [(1400, 1, (((unsealB b 0).1).map encU8))] ⟨rfl, ⟨5, (((unsealB b 0).1).map encU8), by kernel_rfl, FrzIs.same (allP_encU8 _)⟩, trivial⟩ ?_
   refine At.z 7 ?_
   refine AW.r ?_
   refine At.a 1 ?_
   refine At.c (spec_l8Has_spec  ((getN ((unsealB b 0).1) 0).1) ) Try.call28 true [] [] [] trivial ?_
   refine At.z 1 ?_
   refine AW.seq ?_
   refine AW.r ?_
   refine At.a 3 ?_
   by_cases h3 : ((getN ((unsealB b 0).1) 0).2.2) = true
   · refine At.sB 43 (!((getN ((unsealB b 0).1) 0).2.2)) false (sayNF (sayB h3)) ?_
     refine At.z 3 ?_
     refine AW.cE ((l8F ((getN ((unsealB b 0).1) 0).1)).toList) ((⟨#[]⟩ : ByteArray).toList) (fun h4 => ?_) (fun h4 => ?_)
     · refine AW.q 3 ?_
       exact AW.ret (rf (k2 (K_spec_MsgRead _ b) (show ((⟨0, 0, 0, 0, 0, 0, false, 0, 0, (⟨#[]⟩ : ByteArray), ⟨0, 0, 0, 0, (⟨#[]⟩ : ByteArray)⟩, []⟩ : Msg)) = ((msgR b).1) from by rw [msgR_2 (by assumption) (by assumption) (by first | exact Or.inl (by assumption) | exact Or.inr (by first | assumption | (rw [← noBytes]; assumption)))]; first | done | rfl) (show (2) = ((msgR b).2) from by rw [msgR_2 (by assumption) (by assumption) (by first | exact Or.inl (by assumption) | exact Or.inr (by first | assumption | (rw [← noBytes]; assumption)))]; first | done | rfl) (KF.n [(5002, 0)])))
     refine AW.skip ?_
     refine AW.q 4 ?_
     refine AW.seq ?_
     refine AW.seq ?_
     refine AW.weak (Sub.nils [⟨true, 112, some 15, 5003, 56, 6⟩] (by kernel_rfl)) ?_
     refine AW.gq 1 ?_
     refine AW.block ?_
     refine AW.loopW (fun (x : Nat × Int × Msg) => match x with | (k, a, q) => Go.Sy.mk [.un, .un, .ptr 102 0 0, .un, .ptr 104 0 0, .ref 1400, .un, .un, .un, .int .i64 a, .un, .str (l8F ((getN ((unsealB b 0).1) 0).1)), .ptr 112 0 0, .int .i64 (k : Int)] [(102, .box 34 [.int .i64 0, .int .i64 0, .int .i64 0, .int .i64 0, .int .i64 0, .int .i64 0, .bool false, .int .i64 0, .int .i64 0, .str (⟨#[]⟩ : ByteArray), .int .i64 0, .int .i64 0, .int .i64 0, .int .i64 0, .str (⟨#[]⟩ : ByteArray), .ref 5001]), (104, .box 34 [.int .i64 0, .int .i64 0, .int .i64 0, .int .i64 0, .int .i64 0, .int .i64 0, .bool false, .int .i64 0, .int .i64 0, .str (⟨#[]⟩ : ByteArray), .int .i64 0, .int .i64 0, .int .i64 0, .int .i64 0, .str (⟨#[]⟩ : ByteArray), .ref 5002]), (112, .box 34 [.int .i64 q.kind, .int .i64 q.from_, .int .i64 q.term, .int .i64 q.at_, .int .i64 q.atTerm, .int .i64 q.commit, .bool q.yes, .int .i64 q.release, .int .i64 q.part, .str q.bytes, .int .i64 q.cmd.kind, .int .i64 q.cmd.release, .int .i64 q.cmd.node, .int .i64 q.cmd.size, .str q.cmd.digest, .ref 5003]), (1400, .arr 5 1 (((unsealB b 0).1).map encU8)), (5001, .arr 56 6 []), (5002, .arr 56 6 []), (5003, .arr 56 6 (q.entries.map encEnt))]) (fun (x : Nat × Int × Msg) => match x with | (k, a, q) => k ≤ (l8F (getN (unsealB b 0).1 0).1).size ∧ (0 ≤ a ∧ a ≤ (unsealB b 0).1.length) ∧ q.entries.length ≤ 7 ∧ fieldsS (unsealB b 0).1 (l8F (getN (unsealB b 0).1 0).1).data.toList (kMsg (getN (unsealB b 0).1 0).1) (getN (unsealB b 0).1 0).2.1 = fieldsS (unsealB b 0).1 ((l8F (getN (unsealB b 0).1 0).1).data.toList.drop k) q a) (fun (x : Nat × Int × Msg) => match x with | (k, a, q) => (l8F (getN (unsealB b 0).1 0).1).size - k) (0, (getN (unsealB b 0).1 0).2.1, (⟨(getN ((unsealB b 0).1) 0).1, 0, 0, 0, 0, 0, false, 0, 0, (⟨#[]⟩ : ByteArray), ⟨0, 0, 0, 0, (⟨#[]⟩ : ByteArray)⟩, []⟩ : Msg)) ⟨by omega, by omega, by simp, by rw [List.drop_zero]; rfl⟩ (Sub.o [(102, 102), (104, 104), (112, 112), (1400, 1400), (5001, 5001), (5002, 5002), (5003, 5003)] [false, false, true, false, true, true, false, false, false, true, false, true, true, true]) ?_
     rintro ⟨k, a, q⟩ ⟨hk, ha, hq, hR⟩
     refine AW.seq ?_
     refine AW.q 4 ?_
     refine AW.cD ((k : Int) < ((l8F ((getN ((unsealB b 0).1) 0).1)).size : Int)) (fun h5 => ?_) (fun h5 => ?_)
     · refine AW.skip ?_
       refine AW.seq ?_
       refine AW.block ?_
       refine AW.seq ?_
       refine AW.gD Try_mix ?_
       refine At.a 3 ?_
       refine Exists.elim (show ∃ e, (l8F ((getN ((unsealB b 0).1) 0).1)).data[k]? = some e from ⟨_, Array.getElem?_eq_getElem (by show _ < (l8F ((getN ((unsealB b 0).1) 0).1)).size; omega)⟩) fun e1 he1 => ?_
       have hl1 : (l8F (getN (unsealB b 0).1 0).1).data.toList[k]? = some e1 := by simpa using he1
       refine At.idxStr (t := 9) (d := 60) (x := .tmp 58) (y := .tmp 59) (s := l8F ((getN ((unsealB b 0).1) 0).1)) (kd := .i64) (i := (k : Int)) e1 (by kernel_rfl) (by kernel_rfl) (by kernel_rfl) (by kernel_rfl) (by omega) he1 ?_
       refine At.a 2 ?_
       refine At.c (spec_l8Field_spec  q e1 ((unsealB b 0).1) a (by omega) (by omega)) Try.call44 false [(5003, 0)] [(2260, 1)] [(1400, 1, (((unsealB b 0).1).map encU8))] ⟨rfl, ⟨5, (((unsealB b 0).1).map encU8), by kernel_rfl, FrzIs.same (allP_encU8 _)⟩, trivial⟩ ?_
       refine At.zD 8 ?_
       refine AW.seq ?_
       refine AW.q 2 ?_
       refine AW.cNB ((fieldS q e1.toNat ((unsealB b 0).1) a).2.2) (fun h6 => ?_) (fun h6 => ?_)
       · refine AW.q 3 ?_
         exact AW.ret (rf (k2 (K_spec_MsgRead _ b) (show ((⟨0, 0, 0, 0, 0, 0, false, 0, 0, (⟨#[]⟩ : ByteArray), ⟨0, 0, 0, 0, (⟨#[]⟩ : ByteArray)⟩, []⟩ : Msg)) = ((msgR b).1) from by rw [msgR_3 (by assumption) (by assumption) (by assumption) (by rw [← noBytes]; assumption) (hR.trans (by rw [dropCons hl1, fieldsS, if_pos (by assumption)]))]; first | done | rfl) (show (3) = ((msgR b).2) from by rw [msgR_3 (by assumption) (by assumption) (by assumption) (by rw [← noBytes]; assumption) (hR.trans (by rw [dropCons hl1, fieldsS, if_pos (by assumption)]))]; first | done | rfl) (KF.n [(5002, 0)])))
       refine AW.skip ?_
       refine AW.q 2 ?_
       refine AW.gq 2 ?_
       refine AW.g ?_
       refine At.a 2 ?_
       refine At.sI 55 ((k : Int) + 1) (by omega) ?_
       refine At.z 1 ?_
       exact ⟨(k + 1, ((fieldS q e1.toNat ((unsealB b 0).1) a).2.1), ((fieldS q e1.toNat ((unsealB b 0).1) a).1)), ⟨by omega, by have := fieldS_in q (e1.toNat : Int) (unsealB b 0).1 (a := a); omega, fieldS_ents q _ _ _ hq, by rw [hR, dropCons hl1, fieldsS, if_neg (by simp [*])]⟩, (by simp only; omega), Sub.o [(102, 102), (104, 104), (112, 112), (1400, 1400), (5001, 5001), (5002, 5002), (2260, 5003)] [false, false, true, false, true, true, false, false, false, true, false, true, true, true]⟩
     refine AW.exit ?_
     refine AW.seq ?_
     refine AW.r ?_
     refine At.a 3 ?_
     refine At.sL 74 encU8 ((unsealB b 0).1) ?_
     refine At.z 1 ?_
     refine AW.cD (a < (((unsealB b 0).1).length : Int)) (fun h7 => ?_) (fun h7 => ?_)
     · refine AW.q 3 ?_
       exact AW.ret (rf (k2 (K_spec_MsgRead _ b) (show ((⟨0, 0, 0, 0, 0, 0, false, 0, 0, (⟨#[]⟩ : ByteArray), ⟨0, 0, 0, 0, (⟨#[]⟩ : ByteArray)⟩, []⟩ : Msg)) = ((msgR b).1) from by rw [msgR_4 (by assumption) (by assumption) (by assumption) (by rw [← noBytes]; assumption) (hR.trans (by rw [List.drop_of_length_le (by rw [Array.length_toList]; show (l8F (getN (unsealB b 0).1 0).1).size ≤ _; omega), fieldsS])) (by assumption)]; first | done | rfl) (show (4) = ((msgR b).2) from by rw [msgR_4 (by assumption) (by assumption) (by assumption) (by rw [← noBytes]; assumption) (hR.trans (by rw [List.drop_of_length_le (by rw [Array.length_toList]; show (l8F (getN (unsealB b 0).1 0).1).size ≤ _; omega), fieldsS])) (by assumption)]; first | done | rfl) (KF.n [(5002, 0)])))
     refine AW.skip ?_
     refine AW.seq ?_
     refine AW.r ?_
     refine At.a 1 ?_
     refine At.c (spec_MsgFits_spec  q (by omega)) Try.call21 false [] [] [(5003, 6, (q.entries.map encEnt))] ⟨rfl, ⟨56, (q.entries.map encEnt), by kernel_rfl, FrzIs.same (allP_encEnt _)⟩, trivial⟩ ?_
     refine At.z 1 ?_
     refine AW.cNB (msgFits q) (fun h8 => ?_) (fun h8 => ?_)
     · refine AW.q 3 ?_
       exact AW.ret (rf (k2 (K_spec_MsgRead _ b) (show ((⟨0, 0, 0, 0, 0, 0, false, 0, 0, (⟨#[]⟩ : ByteArray), ⟨0, 0, 0, 0, (⟨#[]⟩ : ByteArray)⟩, []⟩ : Msg)) = ((msgR b).1) from by rw [msgR_5 (by assumption) (by assumption) (by assumption) (by rw [← noBytes]; assumption) (hR.trans (by rw [List.drop_of_length_le (by rw [Array.length_toList]; show (l8F (getN (unsealB b 0).1 0).1).size ≤ _; omega), fieldsS])) (by assumption) (by assumption)]; first | done | rfl) (show (5) = ((msgR b).2) from by rw [msgR_5 (by assumption) (by assumption) (by assumption) (by rw [← noBytes]; assumption) (hR.trans (by rw [List.drop_of_length_le (by rw [Array.length_toList]; show (l8F (getN (unsealB b 0).1 0).1).size ≤ _; omega), fieldsS])) (by assumption) (by assumption)]; first | done | rfl) (KF.n [(5002, 0)])))
     refine AW.skip ?_
     refine AW.q 3 ?_
     exact AW.ret (rf (k2 (K_spec_MsgRead _ b) (show (q) = ((msgR b).1) from by rw [msgR_0 (by assumption) (by assumption) (by assumption) (by rw [← noBytes]; assumption) (hR.trans (by rw [List.drop_of_length_le (by rw [Array.length_toList]; show (l8F (getN (unsealB b 0).1 0).1).size ≤ _; omega), fieldsS])) (by assumption) (by assumption)]; first | done | rfl) (show (0) = ((msgR b).2) from by rw [msgR_0 (by assumption) (by assumption) (by assumption) (by rw [← noBytes]; assumption) (hR.trans (by rw [List.drop_of_length_le (by rw [Array.length_toList]; show (l8F (getN (unsealB b 0).1 0).1).size ≤ _; omega), fieldsS])) (by assumption) (by assumption)]; first | done | rfl) (KF.n [(5003, 0)])))
   refine At.sB 43 (!((getN ((unsealB b 0).1) 0).2.2)) true (sayNT (sayB (Bool.eq_false_iff.2 h3))) ?_
   replace h3 := Bool.eq_false_iff.2 h3
   refine At.z 3 ?_
   refine AW.cond true (by kernel_rfl) (fun _ => ?_) (fun h => by cases h)
   refine AW.q 3 ?_
   exact AW.ret (rf (k2 (K_spec_MsgRead _ b) (show ((⟨0, 0, 0, 0, 0, 0, false, 0, 0, (⟨#[]⟩ : ByteArray), ⟨0, 0, 0, 0, (⟨#[]⟩ : ByteArray)⟩, []⟩ : Msg)) = ((msgR b).1) from by rw [msgR_2 (by assumption) (by assumption) (by first | exact Or.inl (by assumption) | exact Or.inr (by first | assumption | (rw [← noBytes]; assumption)))]; first | done | rfl) (show (2) = ((msgR b).2) from by rw [msgR_2 (by assumption) (by assumption) (by first | exact Or.inl (by assumption) | exact Or.inr (by first | assumption | (rw [← noBytes]; assumption)))]; first | done | rfl) (KF.n [(5002, 0)])))
 refine At.sB 26 _ _ (sayUT h1) ?_
 refine At.z 5 ?_
 refine AW.cond true (by kernel_rfl) (fun _ => ?_) (fun h => by cases h)
 refine AW.q 3 ?_
 exact AW.ret (rf (k2 (K_spec_MsgRead _ b) (show ((⟨0, 0, 0, 0, 0, 0, false, 0, 0, (⟨#[]⟩ : ByteArray), ⟨0, 0, 0, 0, (⟨#[]⟩ : ByteArray)⟩, []⟩ : Msg)) = ((msgR b).1) from by rw [msgR_1 (by first | exact Or.inl (by assumption) | exact Or.inr (by first | assumption | (rw [← noBytes]; assumption)))]; first | done | rfl) (show (1) = ((msgR b).2) from by rw [msgR_1 (by first | exact Or.inl (by assumption) | exact Or.inr (by first | assumption | (rw [← noBytes]; assumption)))]; first | done | rfl) (KF.n [(5002, 0)])))
def K_impl_GetNum (rs : List ResultVar) (b : List UInt8) (at_ : Int) (w0_ : Int) (w1_ : Int) (w2_ : Bool) : Exit → Sg → Prop := KF Try.prog 0 rs (.tup [.int .i64 w0_, .int .i64 w1_, .bool w2_]) []
theorem impl_GetNum_spec  (b : List UInt8) (at_ : Int) (hb : b.length ≤ 1048576) (ha : 0 ≤ at_ ∧ at_ ≤ 2097152) : FnSpec Try.prog 76 [.sl false 1 (b.map encU8), .int .i64 at_] [] (.tup [.int .i64 ((getN b at_).1), .int .i64 ((getN b at_).2.1), .bool ((getN b at_).2.2)]) [] := by
 refine FnSpec.of 51 Try.func76 rfl Try.ntmps76 (by simp) (AW.weakK ?_)
 refine AW.q 3 ?_
 refine AW.seq ?_
 refine AW.q 2 ?_
 refine AW.cD (at_ < 0) (fun h1 => ?_) (fun h1 => ?_)
 · refine AW.q 3 ?_
   exact AW.ret (rf (k3 (K_impl_GetNum _ b at_) (show (0) = ((getN b at_).1) from by rw [getN_neg (by omega)]) (show (0) = ((getN b at_).2.1) from by rw [getN_neg (by omega)]) (show (false) = ((getN b at_).2.2) from by rw [getN_neg (by omega)]) (KF.n [])))
 refine AW.skip ?_
 refine AW.q 1 ?_
 refine AW.seq ?_
 refine AW.q 1 ?_
 refine AW.block ?_
 refine AW.loopW (fun (x : Nat × Int) => match x with | (k, x) => Go.Sy.mk [.sl false 1 (b.map encU8), .int .i64 at_, .un, .un, .un, .un, .un, .int .i64 x, .int .i64 (k : Int)] []) (fun (x : Nat × Int) => match x with | (k, x) => GR b at_ k x) (fun (x : Nat × Int) => match x with | (k, x) => 9 - k) (0, 0) (GR.start ha.1) (Sub.o [] [true, true, false, false, false, false, false, true, true]) ?_
 rintro ⟨k, x⟩ hR
 have hk9 := hR.hk
 have hx0 := hR.h0
 refine AW.seq ?_
 refine AW.r ?_
 refine At.a 3 ?_
 by_cases h2 : (k : Int) < 9
 · refine At.sB 14 _ _ (sayT h2) ?_
   refine At.a 3 ?_
   refine At.sL 17 encU8 b ?_
   refine At.a 2 ?_
   refine At.sI 19 ((b.length : Int) - at_) (by omega) ?_
   refine At.z 2 ?_
   refine AW.cD ((k : Int) < ((b.length : Int) - at_)) (fun h3 => ?_) (fun h3 => ?_)
   · refine AW.skip ?_
     refine AW.seq ?_
     refine AW.block ?_
     refine AW.r ?_
     refine At.a 4 ?_
     refine At.sI 27 (at_ + (k : Int)) (by omega) ?_
     refine At.iSl 28 28 (.tmp 24) (.tmp 27) false 1 (b.map encU8) .i64 (at_ + (k : Int)) 5 (by omega) (by simp only [List.length_map]; omega) ?_
     refine Exists.elim (gE b ((at_ + (k : Int)).toNat) (by omega)) fun e1 he1 => ?_
     refine At.lVp 5 29 (.tmp 28) false 1 (b.map encU8) ((at_ + (k : Int)).toNat) 0 false 1 (encU8 e1) (.int .u8 (e1.toNat : Int)) (mapGet he1) ?_
     refine At.conv (s := 5) (t := 3) (d := 30) (x := .tmp 29) (kd := .u8) (kd' := .i64) (a := (e1.toNat : Int)) (.int .i64 (e1.toNat : Int)) (by kernel_rfl) (by kernel_rfl) (by kernel_rfl) (by kernel_rfl) (sayI _ (by have := UInt8.toNat_lt e1; omega)) ?_
     refine At.z 1 ?_
     refine AW.r ?_
     refine At.a 2 ?_
     refine At.bits (t := 3) (u := 3) (d := 33) (op := .and) (x := .tmp 32) (y := .const (.int .i64 127)) (kd := .i64) (a := (e1.toNat : Int)) (b := 127) ((e1.toNat : Int) % 128) (by kernel_rfl) (by kernel_rfl) (by kernel_rfl) (by kernel_rfl) (andM 7 128 _ _ (by decide) (by decide) (by decide)) ?_
     refine At.a 2 ?_
     refine At.sI 35 (7 * (k : Int)) (by omega) ?_
     refine At.shift (t := 3) (u := 3) (d := 36) (op := .shl) (x := .tmp 33) (y := .tmp 35) (kd := .i64) (kd' := .i64) (a := (e1.toNat : Int) % 128) (b := 7 * (k : Int)) (shV .shl .i64 ((e1.toNat : Int) % 128) (7 * (k : Int))) (by kernel_rfl) (by kernel_rfl) (by kernel_rfl) (by kernel_rfl) (by omega) (shS_shl _ _ _) ?_
     refine At.bits (t := 3) (u := 3) (d := 37) (op := .or) (x := .tmp 31) (y := .tmp 36) (kd := .i64) (a := x) (b := shV .shl .i64 ((e1.toNat : Int) % 128) (7 * (k : Int))) (bitV .or .i64 x (shV .shl .i64 ((e1.toNat : Int) % 128) (7 * (k : Int)))) (by kernel_rfl) (by kernel_rfl) (by kernel_rfl) (by kernel_rfl) (bitS_or _ _ _) ?_
     refine At.z 1 ?_
     refine AW.seq ?_
     refine AW.q 2 ?_
     refine AW.cD ((e1.toNat : Int) > 127) (fun h4 => ?_) (fun h4 => ?_)
     · refine AW.exit ?_
       refine AW.g ?_
       refine At.a 2 ?_
       refine At.sI 23 ((k : Int) + 1) (by omega) ?_
       refine At.z 1 ?_
       exact ⟨(k + 1, (bitV .or .i64 x (shV .shl .i64 ((e1.toNat : Int) % 128) (7 * (k : Int))))), (by exact hR.stepB ha.1 (by omega) he1 (by omega)), (by simp only; omega), Sub.o [] [true, true, false, false, false, false, false, true, true]⟩
     refine AW.skip ?_
     refine AW.seq ?_
     refine AW.r ?_
     refine At.a 3 ?_
     by_cases h5 : (k : Int) > 0
     · refine At.sB 42 _ _ (sayT h5) ?_
       refine At.z 3 ?_
       refine AW.cE (e1.toNat : Int) (0 : Int) (fun h6 => ?_) (fun h6 => ?_)
       · refine AW.q 3 ?_
         exact AW.ret (rf (k3 (K_impl_GetNum _ b at_) (show (0) = ((getN b at_).1) from by rw [hR.zero ha.1 (by omega) he1 (by omega) (by omega)]) (show (0) = ((getN b at_).2.1) from by rw [hR.zero ha.1 (by omega) he1 (by omega) (by omega)]) (show (false) = ((getN b at_).2.2) from by rw [hR.zero ha.1 (by omega) he1 (by omega) (by omega)]) (KF.n [])))
       refine AW.skip ?_
       refine AW.r ?_
       refine At.a 4 ?_
       refine At.sI 49 (at_ + (k : Int)) (by omega) ?_
       refine At.a 1 ?_
       refine At.sI 50 ((at_ + (k : Int)) + 1) (by omega) ?_
       refine At.z 3 ?_
       exact AW.ret (rf (k3 (K_impl_GetNum _ b at_) (show (bitV .or .i64 x (shV .shl .i64 ((e1.toNat : Int) % 128) (7 * (k : Int)))) = ((getN b at_).1) from by rw [hR.stopB ha.1 (by omega) he1 (by omega) (by omega)]) (show ((at_ + (k : Int)) + 1) = ((getN b at_).2.1) from by rw [hR.stop ha.1 (by omega) he1 (by omega) (by omega)]) (show (true) = ((getN b at_).2.2) from by rw [hR.stop ha.1 (by omega) he1 (by omega) (by omega)]) (KF.n [])))
     refine At.sB 42 _ _ (sayF h5) ?_
     refine At.z 3 ?_
     refine AW.cond false (by kernel_rfl) (fun h => by cases h) (fun _ => ?_)
     refine AW.skip ?_
     refine AW.r ?_
     refine At.a 4 ?_
     refine At.sI 49 (at_ + (k : Int)) (by omega) ?_
     refine At.a 1 ?_
     refine At.sI 50 ((at_ + (k : Int)) + 1) (by omega) ?_
     refine At.z 3 ?_
     exact AW.ret (rf (k3 (K_impl_GetNum _ b at_) (show (bitV .or .i64 x (shV .shl .i64 ((e1.toNat : Int) % 128) (7 * (k : Int)))) = ((getN b at_).1) from by rw [hR.stopB ha.1 (by omega) he1 (by omega) (by omega)]) (show ((at_ + (k : Int)) + 1) = ((getN b at_).2.1) from by rw [hR.stop ha.1 (by omega) he1 (by omega) (by omega)]) (show (true) = ((getN b at_).2.2) from by rw [hR.stop ha.1 (by omega) he1 (by omega) (by omega)]) (KF.n [])))
   refine AW.exit ?_
   refine AW.q 3 ?_
   exact AW.ret (rf (k3 (K_impl_GetNum _ b at_) (show (0) = ((getN b at_).1) from by rw [hR.over ha.1 (by omega)]) (show (0) = ((getN b at_).2.1) from by rw [hR.over ha.1 (by omega)]) (show (false) = ((getN b at_).2.2) from by rw [hR.over ha.1 (by omega)]) (KF.n [])))
 refine At.sB 14 _ _ (sayF h2) ?_
 refine At.z 7 ?_
 refine AW.cond false (by kernel_rfl) (fun h => by cases h) (fun _ => ?_)
 refine AW.exit ?_
 refine AW.q 3 ?_
 exact AW.ret (rf (k3 (K_impl_GetNum _ b at_) (show (0) = ((getN b at_).1) from by rw [hR.nine (by omega)]) (show (0) = ((getN b at_).2.1) from by rw [hR.nine (by omega)]) (show (false) = ((getN b at_).2.2) from by rw [hR.nine (by omega)]) (KF.n [])))
theorem impl_Sum_spec  (b : List UInt8) (hb : b.length ≤ 1048576) : FnSpec Try.prog 91 [.sl false 1 (b.map encU8)] [] (.int .i64 (sumB b)) [] := by
 refine FnSpec.of 27 Try.func91 rfl Try.ntmps91 (by simp) (AW.weakK ?_)
 refine AW.q 1 ?_
 refine AW.q 2 ?_
 refine AW.seq ?_
 refine AW.r ?_
 refine At.a 2 ?_
 refine At.sL 8 encU8 b ?_
 refine At.z 1 ?_
 refine AW.block ?_
 refine AW.loopW (fun (x : Nat × Int × Int) => match x with | (k, x, y) => Go.Sy.mk [.un, .un, .un, .int .i64 x, .int .i64 y, .un, .un, .sl false 1 (b.map encU8), .int .i64 (b.length : Int), .int .i64 (k : Int)] []) (fun (x : Nat × Int × Int) => match x with | (k, x, y) => k ≤ b.length ∧ (0 ≤ x ∧ x < 65521) ∧ (0 ≤ y ∧ y < 65521) ∧ sumGo b 1 0 = sumGo (b.drop k) x y) (fun (x : Nat × Int × Int) => match x with | (k, x, y) => b.length - k) (0, 1, 0) ⟨by omega, by omega, by omega, by rw [List.drop_zero]⟩ (Sub.o [] [false, false, false, true, true, false, false, true, true, true]) ?_
 rintro ⟨k, x, y⟩ ⟨hk, hx, hy, hR⟩
 refine AW.q 1 ?_
 refine AW.seq ?_
 refine AW.cD ((k : Int) < (b.length : Int)) (fun h1 => ?_) (fun h1 => ?_)
 · refine AW.skip ?_
   refine AW.seq ?_
   refine AW.block ?_
   refine AW.r ?_
   refine At.iSl 28 11 (.tmp 7) (.tmp 9) false 1 (b.map encU8) .i64 (k : Int) 5 (by omega) (by simp only [List.length_map]; omega) ?_
   refine Exists.elim (gE b k (by omega)) fun e1 he1 => ?_
   have hbe1 := UInt8.toNat_lt e1
   refine At.lVp 5 12 (.tmp 11) false 1 (b.map encU8) k 0 false 1 (encU8 e1) (.int .u8 (e1.toNat : Int)) (mapGet he1) ?_
   refine At.z 1 ?_
   refine AW.r ?_
   refine At.a 2 ?_
   refine At.conv (s := 5) (t := 3) (d := 15) (x := .tmp 14) (kd := .u8) (kd' := .i64) (a := (e1.toNat : Int)) (.int .i64 (e1.toNat : Int)) (by kernel_rfl) (by kernel_rfl) (by kernel_rfl) (by kernel_rfl) (sayI _ (by have := UInt8.toNat_lt e1; omega)) ?_
   refine At.a 1 ?_
   refine At.sI 16 (x + (e1.toNat : Int)) (by omega) ?_
   refine At.div (t := 3) (u := 3) (d := 17) (op := .rem) (x := .tmp 16) (y := .const (.int .i64 65521)) (kd := .i64) (a := x + (e1.toNat : Int)) (b := 65521) (by kernel_rfl) (by kernel_rfl) (by kernel_rfl) (by kernel_rfl) (by omega) (.int .i64 ((x + (e1.toNat : Int)).tmod 65521)) (.inr ⟨rfl, rfl⟩) ?_
   refine At.say 17 (.int .i64 ((x + (e1.toNat : Int)).tmod 65521)) (.int .i64 ((x + (e1.toNat : Int)) % 65521)) (by kernel_rfl) (sayRem (by omega)) ?_
   refine At.z 1 ?_
   refine AW.g ?_
   refine At.a 3 ?_
   refine At.sI 20 (y + ((x + (e1.toNat : Int)) % 65521)) (by omega) ?_
   refine At.div (t := 3) (u := 3) (d := 21) (op := .rem) (x := .tmp 20) (y := .const (.int .i64 65521)) (kd := .i64) (a := y + ((x + (e1.toNat : Int)) % 65521)) (b := 65521) (by kernel_rfl) (by kernel_rfl) (by kernel_rfl) (by kernel_rfl) (by omega) (.int .i64 ((y + ((x + (e1.toNat : Int)) % 65521)).tmod 65521)) (.inr ⟨rfl, rfl⟩) ?_
   refine At.say 21 (.int .i64 ((y + ((x + (e1.toNat : Int)) % 65521)).tmod 65521)) (.int .i64 ((y + ((x + (e1.toNat : Int)) % 65521)) % 65521)) (by kernel_rfl) (sayRem (by omega)) ?_
   refine At.z 1 ?_
   refine AW.g ?_
   refine At.a 1 ?_
   refine At.sI 22 ((k : Int) + 1) (by omega) ?_
   refine At.z 1 ?_
   exact ⟨(k + 1, ((x + (e1.toNat : Int)) % 65521), ((y + ((x + (e1.toNat : Int)) % 65521)) % 65521)), ⟨by omega, by omega, by omega, sum_step hR he1⟩, (by simp only; omega), Sub.o [] [false, false, false, true, true, false, false, true, true, true]⟩
 refine AW.exit ?_
 refine AW.r ?_
 refine At.a 2 ?_
 refine At.sI 24 (65536 * y) (by omega) ?_
 refine At.a 2 ?_
 refine At.sI 26 ((65536 * y) + x) (by omega) ?_
 refine At.z 1 ?_
 refine AW.ret ?_
 refine ⟨_, Sub.refl _ _, ?_⟩
 refine KF.conv (fun w => .int .i64 w) (fun w => []) (show ((65536 * y) + x) = (sumB b) from sum_end hR (by omega)) ?_
 exact KF.n []
theorem impl_sumBytes_spec  (b : List UInt8) (hb : b.length ≤ 1048576) : FnSpec Try.prog 70 [.sl false 1 (b.map encU8)] [] (.ref 0) [.arr 5 1 ((sum4 (sumB b)).map encU8)] := by
 refine FnSpec.of 22 Try.func70 rfl Try.ntmps70 (by simp) (AW.weakK ?_)
 refine AW.q 1 ?_
 refine AW.r ?_
 refine At.a 1 ?_
 refine At.c (impl_Sum_spec  b hb) Try.call91 true [] [] [] trivial ?_
 refine At.z 1 ?_
 refine AW.r ?_
 refine At.a 1 ?_
 refine At.bits (t := 3) (u := 3) (d := 7) (op := .and) (x := .tmp 6) (y := .const (.int .i64 255)) (kd := .i64) (a := sumB b) (b := 255) ((sumB b) % 256) (by kernel_rfl) (by kernel_rfl) (by kernel_rfl) (by kernel_rfl) (andM 8 256 _ _ (by decide) (by decide) (by decide)) ?_
 refine At.conv (s := 3) (t := 5) (d := 8) (x := .tmp 7) (kd := .i64) (kd' := .u8) (a := (sumB b) % 256) (.int .u8 ((u8Of ((sumB b) % 256)).toNat : Int)) (by kernel_rfl) (by kernel_rfl) (by kernel_rfl) (by kernel_rfl) (sayByte _) ?_
 refine At.a 1 ?_
 refine At.shift (t := 3) (u := 93) (d := 10) (op := .shr) (x := .tmp 9) (y := .const (.int .u64 8)) (kd := .i64) (kd' := .u64) (a := sumB b) (b := 8) (shV .shr .i64 (sumB b) 8) (by kernel_rfl) (by kernel_rfl) (by kernel_rfl) (by kernel_rfl) (by omega) (shS_shr _ _ _) ?_
 refine At.bits (t := 3) (u := 3) (d := 11) (op := .and) (x := .tmp 10) (y := .const (.int .i64 255)) (kd := .i64) (a := shV .shr .i64 (sumB b) 8) (b := 255) ((shV .shr .i64 (sumB b) 8) % 256) (by kernel_rfl) (by kernel_rfl) (by kernel_rfl) (by kernel_rfl) (andM 8 256 _ _ (by decide) (by decide) (by decide)) ?_
 refine At.conv (s := 3) (t := 5) (d := 12) (x := .tmp 11) (kd := .i64) (kd' := .u8) (a := (shV .shr .i64 (sumB b) 8) % 256) (.int .u8 ((u8Of ((shV .shr .i64 (sumB b) 8) % 256)).toNat : Int)) (by kernel_rfl) (by kernel_rfl) (by kernel_rfl) (by kernel_rfl) (sayByte _) ?_
 refine At.a 1 ?_
 refine At.shift (t := 3) (u := 93) (d := 14) (op := .shr) (x := .tmp 13) (y := .const (.int .u64 16)) (kd := .i64) (kd' := .u64) (a := sumB b) (b := 16) (shV .shr .i64 (sumB b) 16) (by kernel_rfl) (by kernel_rfl) (by kernel_rfl) (by kernel_rfl) (by omega) (shS_shr _ _ _) ?_
 refine At.bits (t := 3) (u := 3) (d := 15) (op := .and) (x := .tmp 14) (y := .const (.int .i64 255)) (kd := .i64) (a := shV .shr .i64 (sumB b) 16) (b := 255) ((shV .shr .i64 (sumB b) 16) % 256) (by kernel_rfl) (by kernel_rfl) (by kernel_rfl) (by kernel_rfl) (andM 8 256 _ _ (by decide) (by decide) (by decide)) ?_
 refine At.conv (s := 3) (t := 5) (d := 16) (x := .tmp 15) (kd := .i64) (kd' := .u8) (a := (shV .shr .i64 (sumB b) 16) % 256) (.int .u8 ((u8Of ((shV .shr .i64 (sumB b) 16) % 256)).toNat : Int)) (by kernel_rfl) (by kernel_rfl) (by kernel_rfl) (by kernel_rfl) (sayByte _) ?_
 refine At.a 1 ?_
 refine At.shift (t := 3) (u := 93) (d := 18) (op := .shr) (x := .tmp 17) (y := .const (.int .u64 24)) (kd := .i64) (kd' := .u64) (a := sumB b) (b := 24) (shV .shr .i64 (sumB b) 24) (by kernel_rfl) (by kernel_rfl) (by kernel_rfl) (by kernel_rfl) (by omega) (shS_shr _ _ _) ?_
 refine At.bits (t := 3) (u := 3) (d := 19) (op := .and) (x := .tmp 18) (y := .const (.int .i64 255)) (kd := .i64) (a := shV .shr .i64 (sumB b) 24) (b := 255) ((shV .shr .i64 (sumB b) 24) % 256) (by kernel_rfl) (by kernel_rfl) (by kernel_rfl) (by kernel_rfl) (andM 8 256 _ _ (by decide) (by decide) (by decide)) ?_
 refine At.conv (s := 3) (t := 5) (d := 20) (x := .tmp 19) (kd := .i64) (kd' := .u8) (a := (shV .shr .i64 (sumB b) 24) % 256) (.int .u8 ((u8Of ((shV .shr .i64 (sumB b) 24) % 256)).toNat : Int)) (by kernel_rfl) (by kernel_rfl) (by kernel_rfl) (by kernel_rfl) (sayByte _) ?_
 refine At.ll 21 5 1 121 (56, 6) (([(u8Of ((sumB b) % 256)), (u8Of ((shV .shr .i64 (sumB b) 8) % 256)), (u8Of ((shV .shr .i64 (sumB b) 16) % 256)), (u8Of ((shV .shr .i64 (sumB b) 24) % 256))]).map encU8) ?_
 refine At.z 1 ?_
 refine AW.ret ?_
 refine ⟨_, Sub.refl _ _, ?_⟩
 refine KF.conv (fun w => .ref 0) (fun w => [.arr 5 1 (w.map encU8)]) (show ([(u8Of ((sumB b) % 256)), (u8Of ((shV .shr .i64 (sumB b) 8) % 256)), (u8Of ((shV .shr .i64 (sumB b) 16) % 256)), (u8Of ((shV .shr .i64 (sumB b) 24) % 256))]) = (sum4 (sumB b)) from sum4_impl _) ?_
 exact KF.n [(121, 0)]
end Go.Proofs.Ythjmbojkpkbedaa
