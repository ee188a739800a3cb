/- The contracts of the functions that FnSent reaches (each: what it answers, said over values), printed by a program of this session (wip/sy/g/gen.py). -/
import Derived.Test.YtlmadhahghiedaaGreatFFnSent1
set_option linter.unusedVariables false
set_option linter.unusedSimpArgs false
set_option maxRecDepth 100000
set_option maxHeartbeats 4000000
namespace Go.Proofs.YtlmadhahghiedaaGreat
open Go Go.Sy Go.Proofs
theorem spec_l2Keys_spec   : FnSpec Tryz.prog 203 [] [] (.ref 0) [.arr 3 1 (keysL.map encI)] := by
 refine FnSpec.of 2 Tryz.func203 rfl Tryz.ntmps203 (by simp) (AW.weakK ?_)
 refine AW.q 1 ?_
 refine AW.r ?_
 refine At.ll 1 3 1 101 (45, 6) (([1116352408, 1899447441, 3049323471, 3921009573, 961987163, 1508970993, 2453635748, 2870763221, 3624381080, 310598401, 607225278, 1426881987, 1925078388, 2162078206, 2614888103, 3248222580, 3835390401, 4022224774, 264347078, 604807628, 770255983, 1249150122, 1555081692, 1996064986, 2554220882, 2821834349, 2952996808, 3210313671, 3336571891, 3584528711, 113926993, 338241895, 666307205, 773529912, 1294757372, 1396182291, 1695183700, 1986661051, 2177026350, 2456956037, 2730485921, 2820302411, 3259730800, 3345764771, 3516065817, 3600352804, 4094571909, 275423344, 430227734, 506948616, 659060556, 883997877, 958139571, 1322822218, 1537002063, 1747873779, 1955562222, 2024104815, 2227730452, 2361852424, 2428436474, 2756734187, 3204031479, 3329325298]).map encI) ?_
 refine At.z 1 ?_
 refine AW.ret ?_
 refine ⟨_, Sub.refl _ _, ?_⟩
 refine KF.conv (fun w => .ref 0) (fun w => [.arr 3 1 (w.map encI)]) (show ([1116352408, 1899447441, 3049323471, 3921009573, 961987163, 1508970993, 2453635748, 2870763221, 3624381080, 310598401, 607225278, 1426881987, 1925078388, 2162078206, 2614888103, 3248222580, 3835390401, 4022224774, 264347078, 604807628, 770255983, 1249150122, 1555081692, 1996064986, 2554220882, 2821834349, 2952996808, 3210313671, 3336571891, 3584528711, 113926993, 338241895, 666307205, 773529912, 1294757372, 1396182291, 1695183700, 1986661051, 2177026350, 2456956037, 2730485921, 2820302411, 3259730800, 3345764771, 3516065817, 3600352804, 4094571909, 275423344, 430227734, 506948616, 659060556, 883997877, 958139571, 1322822218, 1537002063, 1747873779, 1955562222, 2024104815, 2227730452, 2361852424, 2428436474, 2756734187, 3204031479, 3329325298]) = (keysL) from rfl) ?_
 exact KF.n [(101, 0)]
theorem spec_l2Block_spec  (h : List Int) (b : List UInt8) (hh : h.length = 8) (hb : b.length = 64) : ∃ rho_ : List Int, (rho_.length = 8) ∧ FnSpec Tryz.prog 192 [.sl false 1 (h.map encI), .sl false 1 (b.map encU8)] [] (.ref 0) [.arr 3 1 (rho_.map encI)] := by
 have hkl : keysL.length = 64 := rfl
 refine dv (fun h_ => FnSpec.of 250 Tryz.func192 rfl Tryz.ntmps192 (by simp) (AW.weakK h_)) ?_
 refine dv (AW.q 1 ·) ?_
 refine dv (AW.r ·) ?_
 refine dv (At.lit0 (t := 27) (d := 21) (e := 3) (es := 1) (bytes := 8) 121 (by kernel_rfl) (by kernel_rfl) (by kernel_rfl) (by kernel_rfl) ·) ?_
 refine dv (At.z 1 ·) ?_
 refine dv (AW.seq ·) ?_
 refine dv (AW.q 1 ·) ?_
 refine dv (AW.block ·) ?_
 refine DW.loopQ (fun (x : Nat × List Int) => match x with | (k, w) => Go.Sy.mk [.sl false 1 (h.map encI), .sl false 1 (b.map encU8), .un, .un, .un, .ref 121, .int .i64 (k : Int)] [(121, .arr 3 1 (w.map encI))]) (fun (x : Nat × List Int) => match x with | (k, w) => 0 ≤ k ∧ k ≤ 16 ∧ w.length = k) (fun (x : Nat × List Int) => match x with | (k, w) => 16 - k) (0, []) (by simp) (Sub.o [(121, 121)] [true, true, false, false, false, true, true]) ?_
 rintro ⟨k, w⟩ hw ih1
 refine dv (AW.seq ·) ?_
 refine dv (AW.q 2 ·) ?_
 by_cases h1 : (k : Int) < 16
 · refine dv (AW.condT (decide ((k : Int) < 16)) (by kernel_rfl) (decide_eq_true h1) ·) ?_
   refine dv (AW.skip ·) ?_
   refine dv (AW.seq ·) ?_
   refine dv (AW.block ·) ?_
   refine dv (AW.gD Tryz_mix ·) ?_
   refine dv (At.a 4 ·) ?_
   refine dv (At.sI 29 (4 * (k : Int)) (by omega) ·) ?_
   refine dv (At.iSl 22 30 (.tmp 27) (.tmp 29) false 1 (b.map encU8) .i64 (4 * (k : Int)) 5 (by omega) (by simp only [List.length_map]; omega) ·) ?_
   refine Exists.elim (gE b ((4 * (k : Int)).toNat) (by omega)) fun e1 he1 => ?_
   refine dv (At.lVp 5 31 (.tmp 30) false 1 (b.map encU8) ((4 * (k : Int)).toNat) 0 false 1 (encU8 e1) (.int .u8 (e1.toNat : Int)) (mapGet he1) ·) ?_
   refine dv (At.conv (s := 5) (t := 3) (d := 32) (x := .tmp 31) (kd := .u8) (kd' := .i64) (a := (e1.toNat : Int)) (.int .i64 (e1.toNat : Int)) (by kernel_rfl) (by kernel_rfl) (by kernel_rfl) (by kernel_rfl) (sayI _ (by have := UInt8.toNat_lt e1; omega)) ·) ?_
   refine dv (At.shift (t := 3) (u := 162) (d := 33) (op := .shl) (x := .tmp 32) (y := .const (.int .u64 24)) (kd := .i64) (kd' := .u64) (a := (e1.toNat : Int)) (b := 24) (shV .shl .i64 (e1.toNat : Int) 24) (by kernel_rfl) (by kernel_rfl) (by kernel_rfl) (by kernel_rfl) (by omega) (shS_shl _ _ _) ·) ?_
   refine dv (At.a 3 ·) ?_
   refine dv (At.sI 36 (4 * (k : Int)) (by omega) ·) ?_
   refine dv (At.a 1 ·) ?_
   refine dv (At.sI 37 ((4 * (k : Int)) + 1) (by omega) ·) ?_
   refine dv (At.iSl 22 38 (.tmp 34) (.tmp 37) false 1 (b.map encU8) .i64 ((4 * (k : Int)) + 1) 5 (by omega) (by simp only [List.length_map]; omega) ·) ?_
   refine Exists.elim (gE b (((4 * (k : Int)) + 1).toNat) (by omega)) fun e2 he2 => ?_
   refine dv (At.lVp 5 39 (.tmp 38) false 1 (b.map encU8) (((4 * (k : Int)) + 1).toNat) 0 false 1 (encU8 e2) (.int .u8 (e2.toNat : Int)) (mapGet he2) ·) ?_
   refine dv (At.conv (s := 5) (t := 3) (d := 40) (x := .tmp 39) (kd := .u8) (kd' := .i64) (a := (e2.toNat : Int)) (.int .i64 (e2.toNat : Int)) (by kernel_rfl) (by kernel_rfl) (by kernel_rfl) (by kernel_rfl) (sayI _ (by have := UInt8.toNat_lt e2; omega)) ·) ?_
   refine dv (At.shift (t := 3) (u := 162) (d := 41) (op := .shl) (x := .tmp 40) (y := .const (.int .u64 16)) (kd := .i64) (kd' := .u64) (a := (e2.toNat : Int)) (b := 16) (shV .shl .i64 (e2.toNat : Int) 16) (by kernel_rfl) (by kernel_rfl) (by kernel_rfl) (by kernel_rfl) (by omega) (shS_shl _ _ _) ·) ?_
   refine dv (At.bits (t := 3) (u := 3) (d := 42) (op := .or) (x := .tmp 33) (y := .tmp 41) (kd := .i64) (a := shV .shl .i64 (e1.toNat : Int) 24) (b := shV .shl .i64 (e2.toNat : Int) 16) (bitV .or .i64 (shV .shl .i64 (e1.toNat : Int) 24) (shV .shl .i64 (e2.toNat : Int) 16)) (by kernel_rfl) (by kernel_rfl) (by kernel_rfl) (by kernel_rfl) (bitS_or _ _ _) ·) ?_
   refine dv (At.a 3 ·) ?_
   refine dv (At.sI 45 (4 * (k : Int)) (by omega) ·) ?_
   refine dv (At.a 1 ·) ?_
   refine dv (At.sI 46 ((4 * (k : Int)) + 2) (by omega) ·) ?_
   refine dv (At.iSl 22 47 (.tmp 43) (.tmp 46) false 1 (b.map encU8) .i64 ((4 * (k : Int)) + 2) 5 (by omega) (by simp only [List.length_map]; omega) ·) ?_
   refine Exists.elim (gE b (((4 * (k : Int)) + 2).toNat) (by omega)) fun e3 he3 => ?_
   refine dv (At.lVp 5 48 (.tmp 47) false 1 (b.map encU8) (((4 * (k : Int)) + 2).toNat) 0 false 1 (encU8 e3) (.int .u8 (e3.toNat : Int)) (mapGet he3) ·) ?_
   refine dv (At.conv (s := 5) (t := 3) (d := 49) (x := .tmp 48) (kd := .u8) (kd' := .i64) (a := (e3.toNat : Int)) (.int .i64 (e3.toNat : Int)) (by kernel_rfl) (by kernel_rfl) (by kernel_rfl) (by kernel_rfl) (sayI _ (by have := UInt8.toNat_lt e3; omega)) ·) ?_
   refine dv (At.shift (t := 3) (u := 162) (d := 50) (op := .shl) (x := .tmp 49) (y := .const (.int .u64 8)) (kd := .i64) (kd' := .u64) (a := (e3.toNat : Int)) (b := 8) (shV .shl .i64 (e3.toNat : Int) 8) (by kernel_rfl) (by kernel_rfl) (by kernel_rfl) (by kernel_rfl) (by omega) (shS_shl _ _ _) ·) ?_
   refine dv (At.bits (t := 3) (u := 3) (d := 51) (op := .or) (x := .tmp 42) (y := .tmp 50) (kd := .i64) (a := bitV .or .i64 (shV .shl .i64 (e1.toNat : Int) 24) (shV .shl .i64 (e2.toNat : Int) 16)) (b := shV .shl .i64 (e3.toNat : Int) 8) (bitV .or .i64 (bitV .or .i64 (shV .shl .i64 (e1.toNat : Int) 24) (shV .shl .i64 (e2.toNat : Int) 16)) (shV .shl .i64 (e3.toNat : Int) 8)) (by kernel_rfl) (by kernel_rfl) (by kernel_rfl) (by kernel_rfl) (bitS_or _ _ _) ·) ?_
   refine dv (At.a 3 ·) ?_
   refine dv (At.sI 54 (4 * (k : Int)) (by omega) ·) ?_
   refine dv (At.a 1 ·) ?_
   refine dv (At.sI 55 ((4 * (k : Int)) + 3) (by omega) ·) ?_
   refine dv (At.iSl 22 56 (.tmp 52) (.tmp 55) false 1 (b.map encU8) .i64 ((4 * (k : Int)) + 3) 5 (by omega) (by simp only [List.length_map]; omega) ·) ?_
   refine Exists.elim (gE b (((4 * (k : Int)) + 3).toNat) (by omega)) fun e4 he4 => ?_
   refine dv (At.lVp 5 57 (.tmp 56) false 1 (b.map encU8) (((4 * (k : Int)) + 3).toNat) 0 false 1 (encU8 e4) (.int .u8 (e4.toNat : Int)) (mapGet he4) ·) ?_
   refine dv (At.conv (s := 5) (t := 3) (d := 58) (x := .tmp 57) (kd := .u8) (kd' := .i64) (a := (e4.toNat : Int)) (.int .i64 (e4.toNat : Int)) (by kernel_rfl) (by kernel_rfl) (by kernel_rfl) (by kernel_rfl) (sayI _ (by have := UInt8.toNat_lt e4; omega)) ·) ?_
   refine dv (At.bits (t := 3) (u := 3) (d := 59) (op := .or) (x := .tmp 51) (y := .tmp 58) (kd := .i64) (a := bitV .or .i64 (bitV .or .i64 (shV .shl .i64 (e1.toNat : Int) 24) (shV .shl .i64 (e2.toNat : Int) 16)) (shV .shl .i64 (e3.toNat : Int) 8)) (b := (e4.toNat : Int)) (bitV .or .i64 (bitV .or .i64 (bitV .or .i64 (shV .shl .i64 (e1.toNat : Int) 24) (shV .shl .i64 (e2.toNat : Int) 16)) (shV .shl .i64 (e3.toNat : Int) 8)) (e4.toNat : Int)) (by kernel_rfl) (by kernel_rfl) (by kernel_rfl) (by kernel_rfl) (bitS_or _ _ _) ·) ?_
   refine dv (At.ll 60 3 1 160 (45, 6) (([bitV .or .i64 (bitV .or .i64 (bitV .or .i64 (shV .shl .i64 (e1.toNat : Int) 24) (shV .shl .i64 (e2.toNat : Int) 16)) (shV .shl .i64 (e3.toNat : Int) 8)) (e4.toNat : Int)]).map encI) ·) ?_
   refine dv (At.apK 61 3 1 8 161 121 160 encI w ([bitV .or .i64 (bitV .or .i64 (bitV .or .i64 (shV .shl .i64 (e1.toNat : Int) 24) (shV .shl .i64 (e2.toNat : Int) 16)) (shV .shl .i64 (e3.toNat : Int) 8)) (e4.toNat : Int)]) (by simp only [List.length_map, List.length_append, List.length_take, List.length_drop, List.length_replicate, List.length_set, List.length_cons, List.length_nil]; omega) ·) ?_
   refine dv (At.zD 1 ·) ?_
   refine dv (AW.g ·) ?_
   refine dv (At.a 2 ·) ?_
   refine dv (At.sI 25 ((k : Int) + 1) (by omega) ·) ?_
   refine dv (At.z 1 ·) ?_
   exact dw (fun _ h_ => AWL.weak (Sub.o [(161, 121)] [true, true, false, false, false, true, true]) h_) (ih1 (k + 1, (w ++ ([bitV .or .i64 (bitV .or .i64 (bitV .or .i64 (shV .shl .i64 (e1.toNat : Int) 24) (shV .shl .i64 (e2.toNat : Int) 16)) (shV .shl .i64 (e3.toNat : Int) 8)) (e4.toNat : Int)]))) (by simp only [List.length_append, List.length_cons, List.length_nil]; omega) (by simp only; omega))
 refine dv (AW.condF (decide ((k : Int) < 16)) (by kernel_rfl) (decide_eq_false h1) ·) ?_
 refine dv (AW.exit ·) ?_
 refine dv (AW.seq ·) ?_
 refine dv (AW.q 1 ·) ?_
 refine dv (AW.block ·) ?_
 refine DW.loopQ (fun (x : Nat × List Int) => match x with | (k, w) => Go.Sy.mk [.sl false 1 (h.map encI), .un, .un, .un, .un, .ref 121, .un, .int .i64 (k : Int)] [(121, .arr 3 1 (w.map encI))]) (fun (x : Nat × List Int) => match x with | (k, w) => 16 ≤ k ∧ k ≤ 64 ∧ w.length = k) (fun (x : Nat × List Int) => match x with | (k, w) => 64 - k) (16, w) (by simp only; omega) (Sub.o [(121, 121)] [true, false, false, false, false, true, false, true]) ?_
 rintro ⟨k, w⟩ hw ih2
 refine dv (AW.seq ·) ?_
 refine dv (AW.q 2 ·) ?_
 by_cases h2 : (k : Int) < 64
 · refine dv (AW.condT (decide ((k : Int) < 64)) (by kernel_rfl) (decide_eq_true h2) ·) ?_
   refine dv (AW.skip ·) ?_
   refine dv (AW.seq ·) ?_
   refine dv (AW.block ·) ?_
   refine dv (AW.seq ·) ?_
   refine dv (AW.gD Tryz_mix ·) ?_
   refine dv (At.a 3 ·) ?_
   refine dv (At.sI 68 ((k : Int) - 15) (by omega) ·) ?_
   refine dv (At.iRf 27 69 (.tmp 66) (.tmp 68) 121 (w.map encI) .i64 ((k : Int) - 15) 3 1 (by omega) (by simp only [List.length_map]; omega) ·) ?_
   refine Exists.elim (gE w (((k : Int) - 15).toNat) (by omega)) fun e5 he5 => ?_
   refine dv (At.lEl 3 70 (.tmp 69) 121 3 1 (w.map encI) (((k : Int) - 15).toNat) 0 false 1 (encI e5) (.int .i64 e5) (mapGet he5) ·) ?_
   refine Exists.elim (spec_l2Turn_D_spec  e5 7 (by omega)) fun r1_ hr1_ => ?_
   have qr1_ := hr1_.1
   try dsimp only at qr1_
   refine dv (At.c (hr1_.2) Tryz.call201 true [] [] [] trivial ·) ?_
   refine dv (At.a 3 ·) ?_
   refine dv (At.sI 74 ((k : Int) - 15) (by omega) ·) ?_
   refine dv (At.iRf 27 75 (.tmp 72) (.tmp 74) 121 (w.map encI) .i64 ((k : Int) - 15) 3 1 (by omega) (by simp only [List.length_map]; omega) ·) ?_
   refine dv (At.lEl 3 76 (.tmp 75) 121 3 1 (w.map encI) (((k : Int) - 15).toNat) 0 false 1 (encI e5) (.int .i64 e5) (mapGet he5) ·) ?_
   refine Exists.elim (spec_l2Turn_D_spec  e5 18 (by omega)) fun r2_ hr2_ => ?_
   have qr2_ := hr2_.1
   try dsimp only at qr2_
   refine dv (At.c (hr2_.2) Tryz.call201 true [] [] [] trivial ·) ?_
   refine dv (At.bits (t := 3) (u := 3) (d := 78) (op := .xor) (x := .tmp 71) (y := .tmp 77) (kd := .i64) (a := r1_) (b := r2_) (bitV .xor .i64 r1_ r2_) (by kernel_rfl) (by kernel_rfl) (by kernel_rfl) (by kernel_rfl) (bitS_xor _ _ _) ·) ?_
   refine dv (At.a 3 ·) ?_
   refine dv (At.sI 81 ((k : Int) - 15) (by omega) ·) ?_
   refine dv (At.iRf 27 82 (.tmp 79) (.tmp 81) 121 (w.map encI) .i64 ((k : Int) - 15) 3 1 (by omega) (by simp only [List.length_map]; omega) ·) ?_
   refine dv (At.lEl 3 83 (.tmp 82) 121 3 1 (w.map encI) (((k : Int) - 15).toNat) 0 false 1 (encI e5) (.int .i64 e5) (mapGet he5) ·) ?_
   refine dv (At.shift (t := 3) (u := 162) (d := 84) (op := .shr) (x := .tmp 83) (y := .const (.int .u64 3)) (kd := .i64) (kd' := .u64) (a := e5) (b := 3) (shV .shr .i64 e5 3) (by kernel_rfl) (by kernel_rfl) (by kernel_rfl) (by kernel_rfl) (by omega) (shS_shr _ _ _) ·) ?_
   refine dv (At.bits (t := 3) (u := 3) (d := 85) (op := .xor) (x := .tmp 78) (y := .tmp 84) (kd := .i64) (a := bitV .xor .i64 r1_ r2_) (b := shV .shr .i64 e5 3) (bitV .xor .i64 (bitV .xor .i64 r1_ r2_) (shV .shr .i64 e5 3)) (by kernel_rfl) (by kernel_rfl) (by kernel_rfl) (by kernel_rfl) (bitS_xor _ _ _) ·) ?_
   refine dv (At.zD 1 ·) ?_
   refine dv (AW.seq ·) ?_
   refine dv (AW.gD Tryz_mix ·) ?_
   refine dv (At.a 3 ·) ?_
   refine dv (At.sI 88 ((k : Int) - 2) (by omega) ·) ?_
   refine dv (At.iRf 27 89 (.tmp 86) (.tmp 88) 121 (w.map encI) .i64 ((k : Int) - 2) 3 1 (by omega) (by simp only [List.length_map]; omega) ·) ?_
   refine Exists.elim (gE w (((k : Int) - 2).toNat) (by omega)) fun e6 he6 => ?_
   refine dv (At.lEl 3 90 (.tmp 89) 121 3 1 (w.map encI) (((k : Int) - 2).toNat) 0 false 1 (encI e6) (.int .i64 e6) (mapGet he6) ·) ?_
   refine Exists.elim (spec_l2Turn_D_spec  e6 17 (by omega)) fun r3_ hr3_ => ?_
   have qr3_ := hr3_.1
   try dsimp only at qr3_
   refine dv (At.c (hr3_.2) Tryz.call201 true [] [] [] trivial ·) ?_
   refine dv (At.a 3 ·) ?_
   refine dv (At.sI 94 ((k : Int) - 2) (by omega) ·) ?_
   refine dv (At.iRf 27 95 (.tmp 92) (.tmp 94) 121 (w.map encI) .i64 ((k : Int) - 2) 3 1 (by omega) (by simp only [List.length_map]; omega) ·) ?_
   refine dv (At.lEl 3 96 (.tmp 95) 121 3 1 (w.map encI) (((k : Int) - 2).toNat) 0 false 1 (encI e6) (.int .i64 e6) (mapGet he6) ·) ?_
   refine Exists.elim (spec_l2Turn_D_spec  e6 19 (by omega)) fun r4_ hr4_ => ?_
   have qr4_ := hr4_.1
   try dsimp only at qr4_
   refine dv (At.c (hr4_.2) Tryz.call201 true [] [] [] trivial ·) ?_
   refine dv (At.bits (t := 3) (u := 3) (d := 98) (op := .xor) (x := .tmp 91) (y := .tmp 97) (kd := .i64) (a := r3_) (b := r4_) (bitV .xor .i64 r3_ r4_) (by kernel_rfl) (by kernel_rfl) (by kernel_rfl) (by kernel_rfl) (bitS_xor _ _ _) ·) ?_
   refine dv (At.a 3 ·) ?_
   refine dv (At.sI 101 ((k : Int) - 2) (by omega) ·) ?_
   refine dv (At.iRf 27 102 (.tmp 99) (.tmp 101) 121 (w.map encI) .i64 ((k : Int) - 2) 3 1 (by omega) (by simp only [List.length_map]; omega) ·) ?_
   refine dv (At.lEl 3 103 (.tmp 102) 121 3 1 (w.map encI) (((k : Int) - 2).toNat) 0 false 1 (encI e6) (.int .i64 e6) (mapGet he6) ·) ?_
   refine dv (At.shift (t := 3) (u := 162) (d := 104) (op := .shr) (x := .tmp 103) (y := .const (.int .u64 10)) (kd := .i64) (kd' := .u64) (a := e6) (b := 10) (shV .shr .i64 e6 10) (by kernel_rfl) (by kernel_rfl) (by kernel_rfl) (by kernel_rfl) (by omega) (shS_shr _ _ _) ·) ?_
   refine dv (At.bits (t := 3) (u := 3) (d := 105) (op := .xor) (x := .tmp 98) (y := .tmp 104) (kd := .i64) (a := bitV .xor .i64 r3_ r4_) (b := shV .shr .i64 e6 10) (bitV .xor .i64 (bitV .xor .i64 r3_ r4_) (shV .shr .i64 e6 10)) (by kernel_rfl) (by kernel_rfl) (by kernel_rfl) (by kernel_rfl) (bitS_xor _ _ _) ·) ?_
   refine dv (At.zD 1 ·) ?_
   refine dv (AW.gD Tryz_mix ·) ?_
   refine dv (At.a 5 ·) ?_
   refine dv (At.sI 110 ((k : Int) - 7) (by omega) ·) ?_
   refine dv (At.iRf 27 111 (.tmp 108) (.tmp 110) 121 (w.map encI) .i64 ((k : Int) - 7) 3 1 (by omega) (by simp only [List.length_map]; omega) ·) ?_
   refine Exists.elim (gE w (((k : Int) - 7).toNat) (by omega)) fun e7 he7 => ?_
   refine dv (At.lEl 3 112 (.tmp 111) 121 3 1 (w.map encI) (((k : Int) - 7).toNat) 0 false 1 (encI e7) (.int .i64 e7) (mapGet he7) ·) ?_
   refine dv (At.a 6 ·) ?_
   refine dv (At.sI 118 ((k : Int) - 16) (by omega) ·) ?_
   refine dv (At.iRf 27 119 (.tmp 116) (.tmp 118) 121 (w.map encI) .i64 ((k : Int) - 16) 3 1 (by omega) (by simp only [List.length_map]; omega) ·) ?_
   refine Exists.elim (gE w (((k : Int) - 16).toNat) (by omega)) fun e8 he8 => ?_
   refine dv (At.lEl 3 120 (.tmp 119) 121 3 1 (w.map encI) (((k : Int) - 16).toNat) 0 false 1 (encI e8) (.int .i64 e8) (mapGet he8) ·) ?_
   refine dv (At.a 1 ·) ?_
   refine Exists.elim (spec_l2Low_D_spec  (IntKind.i64.wrap ((IntKind.i64.wrap ((IntKind.i64.wrap ((bitV .xor .i64 (bitV .xor .i64 r3_ r4_) (shV .shr .i64 e6 10)) + e7)) + (bitV .xor .i64 (bitV .xor .i64 r1_ r2_) (shV .shr .i64 e5 3)))) + e8)) ) fun r5_ hr5_ => ?_
   have qr5_ := hr5_.1
   try dsimp only at qr5_
   refine dv (At.c (hr5_.2) Tryz.call202 true [] [] [] trivial ·) ?_
   refine dv (At.ll 123 3 1 223 (45, 6) (([r5_]).map encI) ·) ?_
   refine dv (At.apK 124 3 1 8 224 121 223 encI w ([r5_]) (by simp only [List.length_map, List.length_append, List.length_take, List.length_drop, List.length_replicate, List.length_set, List.length_cons, List.length_nil]; omega) ·) ?_
   refine dv (At.zD 1 ·) ?_
   refine dv (AW.g ·) ?_
   refine dv (At.a 2 ·) ?_
   refine dv (At.sI 65 ((k : Int) + 1) (by omega) ·) ?_
   refine dv (At.z 1 ·) ?_
   exact dw (fun _ h_ => AWL.weak (Sub.o [(224, 121)] [true, false, false, false, false, true, false, true]) h_) (ih2 (k + 1, (w ++ ([r5_]))) (by simp only [List.length_append, List.length_cons, List.length_nil]; omega) (by simp only; omega))
 refine dv (AW.condF (decide ((k : Int) < 64)) (by kernel_rfl) (decide_eq_false h2) ·) ?_
 refine dv (AW.exit ·) ?_
 refine dv (AW.r ·) ?_
 refine dv (At.c (spec_l2Keys_spec   ) Tryz.call203 true [] [(3500, 0)] [] trivial ·) ?_
 refine dv (At.z 1 ·) ?_
 refine dv (AW.r ·) ?_
 refine dv (At.lit0 (t := 27) (d := 126) (e := 3) (es := 1) (bytes := 8) 226 (by kernel_rfl) (by kernel_rfl) (by kernel_rfl) (by kernel_rfl) ·) ?_
 refine dv (At.a 1 ·) ?_
 refine dv (At.append (t := 27) (d := 128) (e := 3) (es := 1) (bytes := 8) (s := .tmp 126) (x := .tmp 127) (S := .ref 226) (T := .sl false 1 (h.map encI)) (xs := []) (ys := (h.map encI)) 228 [226] [] (h.map encI) (by kernel_rfl) (by kernel_rfl) (by kernel_rfl) (by kernel_rfl) ⟨by kernel_rfl, rfl⟩ ⟨rfl, rfl, (allP_encI _), rfl⟩ (by kernel_rfl) (by kernel_rfl) (by simp) (by simp only [List.length_map, List.length_append, List.length_take, List.length_drop, List.length_replicate, List.length_set, List.length_cons, List.length_nil]; omega) (by simp only [List.length_map, List.length_append, List.length_take, List.length_drop, List.length_replicate, List.length_set, List.length_cons, List.length_nil]; omega) ·) ?_
 refine dv (At.z 1 ·) ?_
 refine dv (AW.seq ·) ?_
 refine dv (AW.q 1 ·) ?_
 refine dv (AW.block ·) ?_
 refine DW.loopQ (fun (x : Nat × List Int) => match x with | (k, v) => Go.Sy.mk [.sl false 1 (h.map encI), .un, .un, .un, .un, .ref 121, .un, .un, .un, .un, .ref 3500, .ref 228, .int .i64 (k : Int)] [(121, .arr 3 1 (w.map encI)), (228, .arr 3 1 (v.map encI)), (3500, .arr 3 1 (keysL.map encI))]) (fun (x : Nat × List Int) => match x with | (k, v) => k ≤ 64 ∧ v.length = 8) (fun (x : Nat × List Int) => match x with | (k, v) => 64 - k) (0, h) (by simp only; omega) (Sub.o [(121, 121), (228, 228), (3500, 3500)] [true, false, false, false, false, true, false, false, false, false, true, true, true]) ?_
 rintro ⟨k, v⟩ hw ih3
 refine dv (AW.seq ·) ?_
 refine dv (AW.q 2 ·) ?_
 by_cases h3 : (k : Int) < 64
 · refine dv (AW.condT (decide ((k : Int) < 64)) (by kernel_rfl) (decide_eq_true h3) ·) ?_
   refine dv (AW.skip ·) ?_
   refine dv (AW.seq ·) ?_
   refine dv (AW.block ·) ?_
   refine dv (AW.seq ·) ?_
   refine dv (AW.gD Tryz_mix ·) ?_
   refine dv (At.a 1 ·) ?_
   refine dv (At.iRf 27 134 (.tmp 133) (.const (.int .i64 4)) 228 (v.map encI) .i64 4 3 1 (by omega) (by simp only [List.length_map]; omega) ·) ?_
   refine Exists.elim (gE v 4 (by omega)) fun e9 he9 => ?_
   refine dv (At.lEl 3 135 (.tmp 134) 228 3 1 (v.map encI) 4 0 false 1 (encI e9) (.int .i64 e9) (mapGet he9) ·) ?_
   refine dv (At.a 1 ·) ?_
   refine dv (At.iRf 27 137 (.tmp 136) (.const (.int .i64 0)) 228 (v.map encI) .i64 0 3 1 (by omega) (by simp only [List.length_map]; omega) ·) ?_
   refine Exists.elim (gE v 0 (by omega)) fun e10 he10 => ?_
   refine dv (At.lEl 3 138 (.tmp 137) 228 3 1 (v.map encI) 0 0 false 1 (encI e10) (.int .i64 e10) (mapGet he10) ·) ?_
   refine dv (At.zD 2 ·) ?_
   refine dv (AW.seq ·) ?_
   refine dv (AW.gD Tryz_mix ·) ?_
   refine dv (At.a 2 ·) ?_
   refine dv (At.iRf 27 141 (.tmp 140) (.const (.int .i64 5)) 228 (v.map encI) .i64 5 3 1 (by omega) (by simp only [List.length_map]; omega) ·) ?_
   refine Exists.elim (gE v 5 (by omega)) fun e11 he11 => ?_
   refine dv (At.lEl 3 142 (.tmp 141) 228 3 1 (v.map encI) 5 0 false 1 (encI e11) (.int .i64 e11) (mapGet he11) ·) ?_
   refine dv (At.bits (t := 3) (u := 3) (d := 143) (op := .and) (x := .tmp 139) (y := .tmp 142) (kd := .i64) (a := e9) (b := e11) (bitV .and .i64 e9 e11) (by kernel_rfl) (by kernel_rfl) (by kernel_rfl) (by kernel_rfl) (bitS_and _ _ _) ·) ?_
   refine dv (At.a 1 ·) ?_
   refine dv (At.bits (t := 3) (u := 3) (d := 145) (op := .xor) (x := .const (.int .i64 4294967295)) (y := .tmp 144) (kd := .i64) (a := 4294967295) (b := e9) (bitV .xor .i64 4294967295 e9) (by kernel_rfl) (by kernel_rfl) (by kernel_rfl) (by kernel_rfl) (bitS_xor _ _ _) ·) ?_
   refine dv (At.a 1 ·) ?_
   refine dv (At.iRf 27 147 (.tmp 146) (.const (.int .i64 6)) 228 (v.map encI) .i64 6 3 1 (by omega) (by simp only [List.length_map]; omega) ·) ?_
   refine Exists.elim (gE v 6 (by omega)) fun e12 he12 => ?_
   refine dv (At.lEl 3 148 (.tmp 147) 228 3 1 (v.map encI) 6 0 false 1 (encI e12) (.int .i64 e12) (mapGet he12) ·) ?_
   refine dv (At.bits (t := 3) (u := 3) (d := 149) (op := .and) (x := .tmp 145) (y := .tmp 148) (kd := .i64) (a := bitV .xor .i64 4294967295 e9) (b := e12) (bitV .and .i64 (bitV .xor .i64 4294967295 e9) e12) (by kernel_rfl) (by kernel_rfl) (by kernel_rfl) (by kernel_rfl) (bitS_and _ _ _) ·) ?_
   refine dv (At.bits (t := 3) (u := 3) (d := 150) (op := .xor) (x := .tmp 143) (y := .tmp 149) (kd := .i64) (a := bitV .and .i64 e9 e11) (b := bitV .and .i64 (bitV .xor .i64 4294967295 e9) e12) (bitV .xor .i64 (bitV .and .i64 e9 e11) (bitV .and .i64 (bitV .xor .i64 4294967295 e9) e12)) (by kernel_rfl) (by kernel_rfl) (by kernel_rfl) (by kernel_rfl) (bitS_xor _ _ _) ·) ?_
   refine dv (At.zD 1 ·) ?_
   refine dv (AW.seq ·) ?_
   refine dv (AW.gD Tryz_mix ·) ?_
   refine dv (At.a 1 ·) ?_
   refine dv (At.iRf 27 152 (.tmp 151) (.const (.int .i64 7)) 228 (v.map encI) .i64 7 3 1 (by omega) (by simp only [List.length_map]; omega) ·) ?_
   refine Exists.elim (gE v 7 (by omega)) fun e13 he13 => ?_
   refine dv (At.lEl 3 153 (.tmp 152) 228 3 1 (v.map encI) 7 0 false 1 (encI e13) (.int .i64 e13) (mapGet he13) ·) ?_
   refine dv (At.a 1 ·) ?_
   refine Exists.elim (spec_l2Turn_D_spec  e9 6 (by omega)) fun r1_ hr1_ => ?_
   have qr1_ := hr1_.1
   try dsimp only at qr1_
   refine dv (At.c (hr1_.2) Tryz.call201 true [] [] [] trivial ·) ?_
   refine dv (At.a 1 ·) ?_
   refine Exists.elim (spec_l2Turn_D_spec  e9 11 (by omega)) fun r2_ hr2_ => ?_
   have qr2_ := hr2_.1
   try dsimp only at qr2_
   refine dv (At.c (hr2_.2) Tryz.call201 true [] [] [] trivial ·) ?_
   refine dv (At.bits (t := 3) (u := 3) (d := 158) (op := .xor) (x := .tmp 155) (y := .tmp 157) (kd := .i64) (a := r1_) (b := r2_) (bitV .xor .i64 r1_ r2_) (by kernel_rfl) (by kernel_rfl) (by kernel_rfl) (by kernel_rfl) (bitS_xor _ _ _) ·) ?_
   refine dv (At.a 1 ·) ?_
   refine Exists.elim (spec_l2Turn_D_spec  e9 25 (by omega)) fun r3_ hr3_ => ?_
   have qr3_ := hr3_.1
   try dsimp only at qr3_
   refine dv (At.c (hr3_.2) Tryz.call201 true [] [] [] trivial ·) ?_
   refine dv (At.bits (t := 3) (u := 3) (d := 161) (op := .xor) (x := .tmp 158) (y := .tmp 160) (kd := .i64) (a := bitV .xor .i64 r1_ r2_) (b := r3_) (bitV .xor .i64 (bitV .xor .i64 r1_ r2_) r3_) (by kernel_rfl) (by kernel_rfl) (by kernel_rfl) (by kernel_rfl) (bitS_xor _ _ _) ·) ?_
   refine dv (At.a 5 ·) ?_
   refine dv (At.iRf 27 167 (.tmp 165) (.tmp 166) 3500 (keysL.map encI) .i64 (k : Int) 3 1 (by omega) (by simp only [List.length_map]; omega) ·) ?_
   refine Exists.elim (gE keysL k (by omega)) fun e14 he14 => ?_
   refine dv (At.lEl 3 168 (.tmp 167) 3500 3 1 (keysL.map encI) k 0 false 1 (encI e14) (.int .i64 e14) (mapGet he14) ·) ?_
   refine dv (At.a 3 ·) ?_
   refine dv (At.iRf 27 172 (.tmp 170) (.tmp 171) 121 (w.map encI) .i64 (k : Int) 3 1 (by omega) (by simp only [List.length_map]; omega) ·) ?_
   refine Exists.elim (gE w k (by omega)) fun e15 he15 => ?_
   refine dv (At.lEl 3 173 (.tmp 172) 121 3 1 (w.map encI) k 0 false 1 (encI e15) (.int .i64 e15) (mapGet he15) ·) ?_
   refine dv (At.a 1 ·) ?_
   refine Exists.elim (spec_l2Low_D_spec  (IntKind.i64.wrap ((IntKind.i64.wrap ((IntKind.i64.wrap ((IntKind.i64.wrap (e13 + (bitV .xor .i64 (bitV .xor .i64 r1_ r2_) r3_))) + (bitV .xor .i64 (bitV .and .i64 e9 e11) (bitV .and .i64 (bitV .xor .i64 4294967295 e9) e12)))) + e14)) + e15)) ) fun r4_ hr4_ => ?_
   have qr4_ := hr4_.1
   try dsimp only at qr4_
   refine dv (At.c (hr4_.2) Tryz.call202 true [] [] [] trivial ·) ?_
   refine dv (At.zD 1 ·) ?_
   refine dv (AW.seq ·) ?_
   refine dv (AW.gD Tryz_mix ·) ?_
   refine dv (At.a 2 ·) ?_
   refine dv (At.iRf 27 178 (.tmp 177) (.const (.int .i64 1)) 228 (v.map encI) .i64 1 3 1 (by omega) (by simp only [List.length_map]; omega) ·) ?_
   refine Exists.elim (gE v 1 (by omega)) fun e16 he16 => ?_
   refine dv (At.lEl 3 179 (.tmp 178) 228 3 1 (v.map encI) 1 0 false 1 (encI e16) (.int .i64 e16) (mapGet he16) ·) ?_
   refine dv (At.bits (t := 3) (u := 3) (d := 180) (op := .and) (x := .tmp 176) (y := .tmp 179) (kd := .i64) (a := e10) (b := e16) (bitV .and .i64 e10 e16) (by kernel_rfl) (by kernel_rfl) (by kernel_rfl) (by kernel_rfl) (bitS_and _ _ _) ·) ?_
   refine dv (At.a 2 ·) ?_
   refine dv (At.iRf 27 183 (.tmp 182) (.const (.int .i64 2)) 228 (v.map encI) .i64 2 3 1 (by omega) (by simp only [List.length_map]; omega) ·) ?_
   refine Exists.elim (gE v 2 (by omega)) fun e17 he17 => ?_
   refine dv (At.lEl 3 184 (.tmp 183) 228 3 1 (v.map encI) 2 0 false 1 (encI e17) (.int .i64 e17) (mapGet he17) ·) ?_
   refine dv (At.bits (t := 3) (u := 3) (d := 185) (op := .and) (x := .tmp 181) (y := .tmp 184) (kd := .i64) (a := e10) (b := e17) (bitV .and .i64 e10 e17) (by kernel_rfl) (by kernel_rfl) (by kernel_rfl) (by kernel_rfl) (bitS_and _ _ _) ·) ?_
   refine dv (At.bits (t := 3) (u := 3) (d := 186) (op := .xor) (x := .tmp 180) (y := .tmp 185) (kd := .i64) (a := bitV .and .i64 e10 e16) (b := bitV .and .i64 e10 e17) (bitV .xor .i64 (bitV .and .i64 e10 e16) (bitV .and .i64 e10 e17)) (by kernel_rfl) (by kernel_rfl) (by kernel_rfl) (by kernel_rfl) (bitS_xor _ _ _) ·) ?_
   refine dv (At.a 1 ·) ?_
   refine dv (At.iRf 27 188 (.tmp 187) (.const (.int .i64 1)) 228 (v.map encI) .i64 1 3 1 (by omega) (by simp only [List.length_map]; omega) ·) ?_
   refine dv (At.lEl 3 189 (.tmp 188) 228 3 1 (v.map encI) 1 0 false 1 (encI e16) (.int .i64 e16) (mapGet he16) ·) ?_
   refine dv (At.a 1 ·) ?_
   refine dv (At.iRf 27 191 (.tmp 190) (.const (.int .i64 2)) 228 (v.map encI) .i64 2 3 1 (by omega) (by simp only [List.length_map]; omega) ·) ?_
   refine dv (At.lEl 3 192 (.tmp 191) 228 3 1 (v.map encI) 2 0 false 1 (encI e17) (.int .i64 e17) (mapGet he17) ·) ?_
   refine dv (At.bits (t := 3) (u := 3) (d := 193) (op := .and) (x := .tmp 189) (y := .tmp 192) (kd := .i64) (a := e16) (b := e17) (bitV .and .i64 e16 e17) (by kernel_rfl) (by kernel_rfl) (by kernel_rfl) (by kernel_rfl) (bitS_and _ _ _) ·) ?_
   refine dv (At.bits (t := 3) (u := 3) (d := 194) (op := .xor) (x := .tmp 186) (y := .tmp 193) (kd := .i64) (a := bitV .xor .i64 (bitV .and .i64 e10 e16) (bitV .and .i64 e10 e17)) (b := bitV .and .i64 e16 e17) (bitV .xor .i64 (bitV .xor .i64 (bitV .and .i64 e10 e16) (bitV .and .i64 e10 e17)) (bitV .and .i64 e16 e17)) (by kernel_rfl) (by kernel_rfl) (by kernel_rfl) (by kernel_rfl) (bitS_xor _ _ _) ·) ?_
   refine dv (At.zD 1 ·) ?_
   refine dv (AW.r ·) ?_
   refine dv (At.a 1 ·) ?_
   refine Exists.elim (spec_l2Turn_D_spec  e10 2 (by omega)) fun r5_ hr5_ => ?_
   have qr5_ := hr5_.1
   try dsimp only at qr5_
   refine dv (At.c (hr5_.2) Tryz.call201 true [] [] [] trivial ·) ?_
   refine dv (At.a 1 ·) ?_
   refine Exists.elim (spec_l2Turn_D_spec  e10 13 (by omega)) fun r6_ hr6_ => ?_
   have qr6_ := hr6_.1
   try dsimp only at qr6_
   refine dv (At.c (hr6_.2) Tryz.call201 true [] [] [] trivial ·) ?_
   refine dv (At.bits (t := 3) (u := 3) (d := 199) (op := .xor) (x := .tmp 196) (y := .tmp 198) (kd := .i64) (a := r5_) (b := r6_) (bitV .xor .i64 r5_ r6_) (by kernel_rfl) (by kernel_rfl) (by kernel_rfl) (by kernel_rfl) (bitS_xor _ _ _) ·) ?_
   refine dv (At.a 1 ·) ?_
   refine Exists.elim (spec_l2Turn_D_spec  e10 22 (by omega)) fun r7_ hr7_ => ?_
   have qr7_ := hr7_.1
   try dsimp only at qr7_
   refine dv (At.c (hr7_.2) Tryz.call201 true [] [] [] trivial ·) ?_
   refine dv (At.bits (t := 3) (u := 3) (d := 202) (op := .xor) (x := .tmp 199) (y := .tmp 201) (kd := .i64) (a := bitV .xor .i64 r5_ r6_) (b := r7_) (bitV .xor .i64 (bitV .xor .i64 r5_ r6_) r7_) (by kernel_rfl) (by kernel_rfl) (by kernel_rfl) (by kernel_rfl) (bitS_xor _ _ _) ·) ?_
   refine dv (At.a 2 ·) ?_
   refine Exists.elim (spec_l2Low_D_spec  (IntKind.i64.wrap ((bitV .xor .i64 (bitV .xor .i64 r5_ r6_) r7_) + (bitV .xor .i64 (bitV .xor .i64 (bitV .and .i64 e10 e16) (bitV .and .i64 e10 e17)) (bitV .and .i64 e16 e17)))) ) fun r8_ hr8_ => ?_
   have qr8_ := hr8_.1
   try dsimp only at qr8_
   refine dv (At.c (hr8_.2) Tryz.call202 true [] [] [] trivial ·) ?_
   refine dv (At.z 1 ·) ?_
   refine dv (AW.gD Tryz_mix ·) ?_
   refine dv (At.a 3 ·) ?_
   refine Exists.elim (spec_l2Low_D_spec  (IntKind.i64.wrap (r4_ + r8_)) ) fun r9_ hr9_ => ?_
   have qr9_ := hr9_.1
   try dsimp only at qr9_
   refine dv (At.c (hr9_.2) Tryz.call202 true [] [] [] trivial ·) ?_
   refine dv (At.a 2 ·) ?_
   refine dv (At.iRf 27 212 (.tmp 211) (.const (.int .i64 1)) 228 (v.map encI) .i64 1 3 1 (by omega) (by simp only [List.length_map]; omega) ·) ?_
   refine dv (At.lEl 3 213 (.tmp 212) 228 3 1 (v.map encI) 1 0 false 1 (encI e16) (.int .i64 e16) (mapGet he16) ·) ?_
   refine dv (At.a 1 ·) ?_
   refine dv (At.iRf 27 215 (.tmp 214) (.const (.int .i64 2)) 228 (v.map encI) .i64 2 3 1 (by omega) (by simp only [List.length_map]; omega) ·) ?_
   refine dv (At.lEl 3 216 (.tmp 215) 228 3 1 (v.map encI) 2 0 false 1 (encI e17) (.int .i64 e17) (mapGet he17) ·) ?_
   refine dv (At.a 1 ·) ?_
   refine dv (At.iRf 27 218 (.tmp 217) (.const (.int .i64 3)) 228 (v.map encI) .i64 3 3 1 (by omega) (by simp only [List.length_map]; omega) ·) ?_
   refine Exists.elim (gE v 3 (by omega)) fun e18 he18 => ?_
   refine dv (At.lEl 3 219 (.tmp 218) 228 3 1 (v.map encI) 3 0 false 1 (encI e18) (.int .i64 e18) (mapGet he18) ·) ?_
   refine dv (At.a 2 ·) ?_
   refine Exists.elim (spec_l2Low_D_spec  (IntKind.i64.wrap (e18 + r4_)) ) fun r10_ hr10_ => ?_
   have qr10_ := hr10_.1
   try dsimp only at qr10_
   refine dv (At.c (hr10_.2) Tryz.call202 true [] [] [] trivial ·) ?_
   refine dv (At.a 2 ·) ?_
   refine dv (At.iRf 27 225 (.tmp 224) (.const (.int .i64 5)) 228 (v.map encI) .i64 5 3 1 (by omega) (by simp only [List.length_map]; omega) ·) ?_
   refine dv (At.lEl 3 226 (.tmp 225) 228 3 1 (v.map encI) 5 0 false 1 (encI e11) (.int .i64 e11) (mapGet he11) ·) ?_
   refine dv (At.a 1 ·) ?_
   refine dv (At.iRf 27 228 (.tmp 227) (.const (.int .i64 6)) 228 (v.map encI) .i64 6 3 1 (by omega) (by simp only [List.length_map]; omega) ·) ?_
   refine dv (At.lEl 3 229 (.tmp 228) 228 3 1 (v.map encI) 6 0 false 1 (encI e12) (.int .i64 e12) (mapGet he12) ·) ?_
   refine dv (At.ll 230 3 1 330 (45, 6) (([r9_, e10, e16, e17, r10_, e9, e11, e12]).map encI) ·) ?_
   refine dv (At.zD 1 ·) ?_
   refine dv (AW.g ·) ?_
   refine dv (At.a 2 ·) ?_
   refine dv (At.sI 132 ((k : Int) + 1) (by omega) ·) ?_
   refine dv (At.z 1 ·) ?_
   exact dw (fun _ h_ => AWL.weak (Sub.o [(121, 121), (330, 228), (3500, 3500)] [true, false, false, false, false, true, false, false, false, false, true, true, true]) h_) (ih3 (k + 1, ([r9_, e10, e16, e17, r10_, e9, e11, e12])) (⟨by omega, rfl⟩) (by simp only; omega))
 refine dv (AW.condF (decide ((k : Int) < 64)) (by kernel_rfl) (decide_eq_false h3) ·) ?_
 refine dv (AW.exit ·) ?_
 refine dv (AW.r ·) ?_
 refine dv (At.lit0 (t := 27) (d := 231) (e := 3) (es := 1) (bytes := 8) 331 (by kernel_rfl) (by kernel_rfl) (by kernel_rfl) (by kernel_rfl) ·) ?_
 refine dv (At.z 1 ·) ?_
 refine dv (AW.seq ·) ?_
 refine dv (AW.q 1 ·) ?_
 refine dv (AW.block ·) ?_
 refine DW.loopQ (fun (x : Nat × List Int) => match x with | (k, o) => Go.Sy.mk [.sl false 1 (h.map encI), .un, .un, .un, .un, .un, .un, .un, .un, .un, .un, .ref 228, .un, .un, .un, .un, .un, .un, .un, .ref 331, .int .i64 (k : Int)] [(228, .arr 3 1 (v.map encI)), (331, .arr 3 1 (o.map encI))]) (fun (x : Nat × List Int) => match x with | (k, o) => 0 ≤ k ∧ k ≤ 8 ∧ o.length = k) (fun (x : Nat × List Int) => match x with | (k, o) => 8 - k) (0, []) (by simp) (Sub.o [(228, 228), (331, 331)] [true, false, false, false, false, false, false, false, false, false, false, true, false, false, false, false, false, false, false, true, true]) ?_
 rintro ⟨k, o⟩ hw ih4
 refine dv (AW.seq ·) ?_
 refine dv (AW.q 2 ·) ?_
 by_cases h4 : (k : Int) < 8
 · refine dv (AW.condT (decide ((k : Int) < 8)) (by kernel_rfl) (decide_eq_true h4) ·) ?_
   refine dv (AW.skip ·) ?_
   refine dv (AW.seq ·) ?_
   refine dv (AW.block ·) ?_
   refine dv (AW.gD Tryz_mix ·) ?_
   refine dv (At.a 3 ·) ?_
   refine dv (At.iSl 27 239 (.tmp 237) (.tmp 238) false 1 (h.map encI) .i64 (k : Int) 3 (by omega) (by simp only [List.length_map]; omega) ·) ?_
   refine Exists.elim (gE h k (by omega)) fun e19 he19 => ?_
   refine dv (At.lVp 3 240 (.tmp 239) false 1 (h.map encI) k 0 false 1 (encI e19) (.int .i64 e19) (mapGet he19) ·) ?_
   refine dv (At.a 2 ·) ?_
   refine dv (At.iRf 27 243 (.tmp 241) (.tmp 242) 228 (v.map encI) .i64 (k : Int) 3 1 (by omega) (by simp only [List.length_map]; omega) ·) ?_
   refine Exists.elim (gE v k (by omega)) fun e20 he20 => ?_
   refine dv (At.lEl 3 244 (.tmp 243) 228 3 1 (v.map encI) k 0 false 1 (encI e20) (.int .i64 e20) (mapGet he20) ·) ?_
   refine dv (At.a 1 ·) ?_
   refine Exists.elim (spec_l2Low_D_spec  (IntKind.i64.wrap (e19 + e20)) ) fun r1_ hr1_ => ?_
   have qr1_ := hr1_.1
   try dsimp only at qr1_
   refine dv (At.c (hr1_.2) Tryz.call202 true [] [] [] trivial ·) ?_
   refine dv (At.ll 247 3 1 347 (45, 6) (([r1_]).map encI) ·) ?_
   refine dv (At.apK 248 3 1 8 348 331 347 encI o ([r1_]) (by simp only [List.length_map, List.length_append, List.length_take, List.length_drop, List.length_replicate, List.length_set, List.length_cons, List.length_nil]; omega) ·) ?_
   refine dv (At.zD 1 ·) ?_
   refine dv (AW.g ·) ?_
   refine dv (At.a 2 ·) ?_
   refine dv (At.sI 235 ((k : Int) + 1) (by omega) ·) ?_
   refine dv (At.z 1 ·) ?_
   exact dw (fun _ h_ => AWL.weak (Sub.o [(228, 228), (348, 331)] [true, false, false, false, false, false, false, false, false, false, false, true, false, false, false, false, false, false, false, true, true]) h_) (ih4 (k + 1, (o ++ ([r1_]))) (by simp only [List.length_append, List.length_cons, List.length_nil]; omega) (by simp only; omega))
 refine dv (AW.condF (decide ((k : Int) < 8)) (by kernel_rfl) (decide_eq_false h4) ·) ?_
 refine dv (AW.exit ·) ?_
 refine dv (AW.q 2 ·) ?_
 refine dv (AW.ret ·) ?_
 refine dv (⟨_, Sub.refl _ _, ·⟩) ?_
 exact ⟨(o), (by omega), KF.mk (.inr rfl) [(331, 0)] [.ref 331] (by kernel_rfl) (by kernel_rfl) (by kernel_rfl) (by kernel_rfl) (by kernel_rfl)⟩
theorem spec_Sha_spec  (b : List UInt8) (hb : b.length ≤ 1048576) : ∃ rho_ : List UInt8, ((b.length ≤ 4000 → rho_.length = 32) ∧ rho_.length ≤ 32) ∧ FnSpec Tryz.prog 173 [.sl false 1 (b.map encU8)] [] (.ref 0) [.arr 5 1 (rho_.map encU8)] := by
 refine dv (fun h_ => FnSpec.of 85 Tryz.func173 rfl Tryz.ntmps173 (by simp) (AW.weakK h_)) ?_
 refine dv (AW.q 1 ·) ?_
 refine dv (AW.r ·) ?_
 refine dv (At.lit0 (t := 22) (d := 9) (e := 5) (es := 1) (bytes := 1) 109 (by kernel_rfl) (by kernel_rfl) (by kernel_rfl) (by kernel_rfl) ·) ?_
 refine dv (At.z 1 ·) ?_
 refine dv (AW.seq ·) ?_
 refine dv (AW.r ·) ?_
 refine dv (At.a 2 ·) ?_
 refine dv (At.sL 11 encU8 b ·) ?_
 refine dv (At.z 1 ·) ?_
 by_cases h1 : (b.length : Int) > 4000
 · refine dv (AW.condT (decide ((b.length : Int) > 4000)) (by kernel_rfl) (decide_eq_true h1) ·) ?_
   refine dv (AW.q 2 ·) ?_
   refine dv (AW.ret ·) ?_
   refine dv (⟨_, Sub.refl _ _, ·⟩) ?_
   exact ⟨([]), (by (try dsimp only); (try simp only [List.length_nil]); omega), KF.mk (.inr rfl) [(109, 0)] [.ref 109] (by kernel_rfl) (by kernel_rfl) (by kernel_rfl) (by kernel_rfl) (by kernel_rfl)⟩
 refine dv (AW.condF (decide ((b.length : Int) > 4000)) (by kernel_rfl) (decide_eq_false h1) ·) ?_
 refine dv (AW.skip ·) ?_
 refine dv (AW.r ·) ?_
 refine dv (At.lit0 (t := 22) (d := 14) (e := 5) (es := 1) (bytes := 1) 114 (by kernel_rfl) (by kernel_rfl) (by kernel_rfl) (by kernel_rfl) ·) ?_
 refine dv (At.a 1 ·) ?_
 refine dv (At.append (t := 22) (d := 16) (e := 5) (es := 1) (bytes := 1) (s := .tmp 14) (x := .tmp 15) (S := .ref 114) (T := .sl false 1 (b.map encU8)) (xs := []) (ys := (b.map encU8)) 116 [114] [] (b.map encU8) (by kernel_rfl) (by kernel_rfl) (by kernel_rfl) (by kernel_rfl) ⟨by kernel_rfl, rfl⟩ ⟨rfl, rfl, (allP_encU8 _), rfl⟩ (by kernel_rfl) (by kernel_rfl) (by simp) (by simp only [List.length_map, List.length_append, List.length_take, List.length_drop, List.length_replicate, List.length_set, List.length_cons, List.length_nil]; omega) (by simp only [List.length_map, List.length_append, List.length_take, List.length_drop, List.length_replicate, List.length_set, List.length_cons, List.length_nil]; omega) ·) ?_
 refine dv (At.ll 17 5 1 117 (45, 6) (([(128 : UInt8)]).map encU8) ·) ?_
 refine dv (At.apK 18 5 1 1 118 116 117 encU8 b ([(128 : UInt8)]) (by simp only [List.length_map, List.length_append, List.length_take, List.length_drop, List.length_replicate, List.length_set, List.length_cons, List.length_nil]; omega) ·) ?_
 refine dv (At.z 1 ·) ?_
 refine dv (AW.seq ·) ?_
 refine dv (AW.block ·) ?_
 refine DW.loopQ (fun (mm : List UInt8) => Go.Sy.mk [.sl false 1 (b.map encU8), .un, .un, .ref 109, .ref 118] [(109, .arr 5 1 []), (118, .arr 5 1 (mm.map encU8))]) (fun (mm : List UInt8) => mm.length + (120 - mm.length % 64) % 64 ≤ b.length + 64 ∧ b.length < mm.length) (fun (mm : List UInt8) => (120 - mm.length % 64) % 64) (b ++ [(128 : UInt8)]) (by simp only [List.length_append, List.length_cons, List.length_nil]; omega) (Sub.o [(109, 109), (118, 118)] [true, false, false, true, true]) ?_
 rintro mm hm ih1
 refine dv (AW.seq ·) ?_
 refine dv (AW.r ·) ?_
 refine dv (At.a 2 ·) ?_
 refine dv (At.sL 20 encU8 mm ·) ?_
 refine dv (At.div (t := 3) (u := 3) (d := 21) (op := .rem) (x := .tmp 20) (y := .const (.int .i64 64)) (kd := .i64) (a := (mm.length : Int)) (b := 64) (by kernel_rfl) (by kernel_rfl) (by kernel_rfl) (by kernel_rfl) (by omega) (.int .i64 ((mm.length : Int).tmod 64)) (.inr ⟨rfl, rfl⟩) ·) ?_
 refine dv (At.say 21 (.int .i64 ((mm.length : Int).tmod 64)) (.int .i64 ((mm.length : Int) % 64)) (by kernel_rfl) (sayRem (by omega)) ·) ?_
 refine dv (At.z 1 ·) ?_
 by_cases h2 : (mm.length : Int) % 64 = 56
 · refine dv (AW.condF (((mm.length : Int) % 64) != 56) (by kernel_rfl) (by rw [bne_eq_false_iff_eq]; exact h2) ·) ?_
   refine dv (AW.exit ·) ?_
   refine dv (AW.seq ·) ?_
   refine dv (AW.q 1 ·) ?_
   refine dv (AW.block ·) ?_
   refine DW.loopQ (fun (x : Int × List UInt8) => match x with | (i, mm) => Go.Sy.mk [.sl false 1 (b.map encU8), .un, .un, .ref 109, .ref 118, .int .i64 i] [(109, .arr 5 1 []), (118, .arr 5 1 (mm.map encU8))]) (fun (x : Int × List UInt8) => match x with | (i, mm) => (-1 ≤ i ∧ i ≤ 7) ∧ ((mm.length : Int) + i + 1) % 64 = 0 ∧ (mm.length : Int) + i ≤ 4500) (fun (x : Int × List UInt8) => match x with | (i, mm) => (i + 1).toNat) (7, mm) (by simp only; omega) (Sub.o [(109, 109), (118, 118)] [true, false, false, true, true, true]) ?_
   rintro ⟨i, mm⟩ hm ih2
   refine dv (AW.seq ·) ?_
   refine dv (AW.q 2 ·) ?_
   by_cases h3 : i ≥ 0
   · refine dv (AW.condT (decide (i ≥ 0)) (by kernel_rfl) (decide_eq_true h3) ·) ?_
     refine dv (AW.skip ·) ?_
     refine dv (AW.seq ·) ?_
     refine dv (AW.block ·) ?_
     refine dv (AW.g ·) ?_
     refine dv (At.a 3 ·) ?_
     refine dv (At.sL 32 encU8 b ·) ?_
     refine dv (At.a 1 ·) ?_
     refine dv (At.sI 33 (8 * (b.length : Int)) (by omega) ·) ?_
     refine dv (At.a 2 ·) ?_
     refine dv (At.sI 35 (8 * i) (by omega) ·) ?_
     refine dv (At.shift (t := 3) (u := 3) (d := 36) (op := .shr) (x := .tmp 33) (y := .tmp 35) (kd := .i64) (kd' := .i64) (a := 8 * (b.length : Int)) (b := 8 * i) (shV .shr .i64 (8 * (b.length : Int)) (8 * i)) (by kernel_rfl) (by kernel_rfl) (by kernel_rfl) (by kernel_rfl) (by omega) (shS_shr _ _ _) ·) ?_
     refine dv (At.conv (s := 3) (t := 5) (d := 37) (x := .tmp 36) (kd := .i64) (kd' := .u8) (a := shV .shr .i64 (8 * (b.length : Int)) (8 * i)) (.int .u8 ((u8Of (shV .shr .i64 (8 * (b.length : Int)) (8 * i))).toNat : Int)) (by kernel_rfl) (by kernel_rfl) (by kernel_rfl) (by kernel_rfl) (sayByte _) ·) ?_
     refine dv (At.ll 38 5 1 138 (45, 6) (([(u8Of (shV .shr .i64 (8 * (b.length : Int)) (8 * i)))]).map encU8) ·) ?_
     refine dv (At.apK 39 5 1 1 139 118 138 encU8 mm ([(u8Of (shV .shr .i64 (8 * (b.length : Int)) (8 * i)))]) (by simp only [List.length_map, List.length_append, List.length_take, List.length_drop, List.length_replicate, List.length_set, List.length_cons, List.length_nil]; omega) ·) ?_
     refine dv (At.z 1 ·) ?_
     refine dv (AW.g ·) ?_
     refine dv (At.a 2 ·) ?_
     refine dv (At.sI 29 (i - 1) (by omega) ·) ?_
     refine dv (At.z 1 ·) ?_
     exact dw (fun _ h_ => AWL.weak (Sub.o [(109, 109), (139, 118)] [true, false, false, true, true, true]) h_) (ih2 (i - 1, (mm ++ ([(u8Of (shV .shr .i64 (8 * (b.length : Int)) (8 * i)))]))) (by simp only [List.length_append, List.length_cons, List.length_nil]; omega) (by simp only; omega))
   refine dv (AW.condF (decide (i ≥ 0)) (by kernel_rfl) (decide_eq_false h3) ·) ?_
   refine dv (AW.exit ·) ?_
   refine dv (AW.r ·) ?_
   refine dv (At.ll 40 3 1 140 (45, 6) (([1779033703, 3144134277, 1013904242, 2773480762, 1359893119, 2600822924, 528734635, 1541459225]).map encI) ·) ?_
   refine dv (At.z 1 ·) ?_
   refine dv (AW.seq ·) ?_
   refine dv (AW.q 1 ·) ?_
   refine dv (AW.block ·) ?_
   refine DW.loopQ (fun (x : Nat × List Int) => match x with | (i, h) => Go.Sy.mk [.un, .un, .un, .ref 109, .ref 118, .un, .ref 140, .int .i64 (i : Int)] [(109, .arr 5 1 []), (118, .arr 5 1 (mm.map encU8)), (140, .arr 3 1 (h.map encI))]) (fun (x : Nat × List Int) => match x with | (i, h) => i % 64 = 0 ∧ i ≤ mm.length ∧ h.length = 8) (fun (x : Nat × List Int) => match x with | (i, h) => mm.length - i) (0, [1779033703, 3144134277, 1013904242, 2773480762, 1359893119, 2600822924, 528734635, 1541459225]) ⟨by omega, by omega, rfl⟩ (Sub.o [(109, 109), (118, 118), (140, 140)] [false, false, false, true, true, false, true, true]) ?_
   rintro ⟨i, h⟩ hi ih3
   refine dv (AW.seq ·) ?_
   refine dv (AW.r ·) ?_
   refine dv (At.a 3 ·) ?_
   refine dv (At.sL 43 encU8 mm ·) ?_
   refine dv (At.z 1 ·) ?_
   by_cases h4 : (i : Int) < (mm.length : Int)
   · refine dv (AW.condT (decide ((i : Int) < (mm.length : Int))) (by kernel_rfl) (decide_eq_true h4) ·) ?_
     refine dv (AW.skip ·) ?_
     refine dv (AW.seq ·) ?_
     refine dv (AW.block ·) ?_
     refine dv (AW.g ·) ?_
     refine dv (At.a 5 ·) ?_
     refine dv (At.sI 51 ((i : Int) + 64) (by omega) ·) ?_
     refine dv (At.sliceRef (t := 22) (d := 52) (e := 5) (es := 1) (i := 118) (x := .tmp 48) (lx := some (.tmp 49)) (hx := some (.tmp 51)) (xs := (mm.map encU8)) (vl := .int .i64 (i : Int)) (vh := .int .i64 ((i : Int) + 64)) i (((i : Int) + 64).toNat) (by kernel_rfl) (by kernel_rfl) (by kernel_rfl) (by kernel_rfl) (by kernel_rfl) (.inr ⟨_, _, rfl, rfl⟩) (.inr ⟨_, _, rfl, sayNat (by omega)⟩) (by omega) (by simp only [List.length_map]; omega) ·) ?_
     refine Exists.elim (spec_l2Block_spec  h ((mm.drop i).take ((((i : Int) + 64).toNat) - i)) (by omega) (by simp only [List.length_map, List.length_append, List.length_take, List.length_drop, List.length_replicate, List.length_set, List.length_cons, List.length_nil]; omega)) fun r1_ hr1_ => ?_
     have qr1_ := hr1_.1
     try dsimp only at qr1_
     refine dv (At.call (hr1_.2) Tryz.call192 false [] [(2060, 0)] [(140, 1, (h.map encI)), (118, 1, (mm.map encU8))] (by kernel_rfl) (by kernel_rfl) (Eq.trans (b := [.sl false 1 (h.map encI), .sl false 1 (((mm.map encU8).drop i).take ((((i : Int) + 64).toNat) - i))]) (by kernel_rfl) (by simp only [List.map_take, List.map_drop])) (by kernel_rfl) (by kernel_rfl) ⟨rfl, ⟨3, (h.map encI), by kernel_rfl, FrzIs.same (allP_encI _)⟩, rfl, ⟨5, (mm.map encU8), by kernel_rfl, FrzIs.same (allP_encU8 _)⟩, trivial⟩ ·) ?_
     refine dv (At.z 1 ·) ?_
     refine dv (AW.g ·) ?_
     refine dv (At.a 2 ·) ?_
     refine dv (At.sI 46 ((i : Int) + 64) (by omega) ·) ?_
     refine dv (At.z 1 ·) ?_
     exact dw (fun _ h_ => AWL.weak (Sub.o [(109, 109), (118, 118), (2060, 140)] [false, false, false, true, true, false, true, true]) h_) (ih3 (i + 64, r1_) (by simp only; omega) (by simp only; omega))
   refine dv (AW.condF (decide ((i : Int) < (mm.length : Int))) (by kernel_rfl) (decide_eq_false h4) ·) ?_
   refine dv (AW.exit ·) ?_
   refine dv (AW.seq ·) ?_
   refine dv (AW.q 1 ·) ?_
   refine dv (AW.block ·) ?_
   refine DW.loopQ (fun (x : Nat × List UInt8) => match x with | (k, o) => Go.Sy.mk [.un, .un, .un, .ref 109, .un, .un, .ref 140, .un, .int .i64 (k : Int)] [(109, .arr 5 1 (o.map encU8)), (140, .arr 3 1 (h.map encI))]) (fun (x : Nat × List UInt8) => match x with | (k, o) => k ≤ 8 ∧ o.length = 4 * k) (fun (x : Nat × List UInt8) => match x with | (k, o) => 8 - k) (0, []) (by simp) (Sub.o [(109, 109), (140, 140)] [false, false, false, true, false, false, true, false, true]) ?_
   rintro ⟨k, o⟩ ho ih4
   refine dv (AW.seq ·) ?_
   refine dv (AW.q 2 ·) ?_
   by_cases h5 : (k : Int) < 8
   · refine dv (AW.condT (decide ((k : Int) < 8)) (by kernel_rfl) (decide_eq_true h5) ·) ?_
     refine dv (AW.skip ·) ?_
     refine dv (AW.seq ·) ?_
     refine dv (AW.block ·) ?_
     refine dv (AW.gD Tryz_mix ·) ?_
     refine dv (At.a 3 ·) ?_
     refine dv (At.iRf 27 61 (.tmp 59) (.tmp 60) 140 (h.map encI) .i64 (k : Int) 3 1 (by omega) (by simp only [List.length_map]; omega) ·) ?_
     refine Exists.elim (gE h k (by omega)) fun e1 he1 => ?_
     refine dv (At.lEl 3 62 (.tmp 61) 140 3 1 (h.map encI) k 0 false 1 (encI e1) (.int .i64 e1) (mapGet he1) ·) ?_
     refine dv (At.shift (t := 3) (u := 162) (d := 63) (op := .shr) (x := .tmp 62) (y := .const (.int .u64 24)) (kd := .i64) (kd' := .u64) (a := e1) (b := 24) (shV .shr .i64 e1 24) (by kernel_rfl) (by kernel_rfl) (by kernel_rfl) (by kernel_rfl) (by omega) (shS_shr _ _ _) ·) ?_
     refine dv (At.conv (s := 3) (t := 5) (d := 64) (x := .tmp 63) (kd := .i64) (kd' := .u8) (a := shV .shr .i64 e1 24) (.int .u8 ((u8Of (shV .shr .i64 e1 24)).toNat : Int)) (by kernel_rfl) (by kernel_rfl) (by kernel_rfl) (by kernel_rfl) (sayByte _) ·) ?_
     refine dv (At.a 2 ·) ?_
     refine dv (At.iRf 27 67 (.tmp 65) (.tmp 66) 140 (h.map encI) .i64 (k : Int) 3 1 (by omega) (by simp only [List.length_map]; omega) ·) ?_
     refine dv (At.lEl 3 68 (.tmp 67) 140 3 1 (h.map encI) k 0 false 1 (encI e1) (.int .i64 e1) (mapGet he1) ·) ?_
     refine dv (At.shift (t := 3) (u := 162) (d := 69) (op := .shr) (x := .tmp 68) (y := .const (.int .u64 16)) (kd := .i64) (kd' := .u64) (a := e1) (b := 16) (shV .shr .i64 e1 16) (by kernel_rfl) (by kernel_rfl) (by kernel_rfl) (by kernel_rfl) (by omega) (shS_shr _ _ _) ·) ?_
     refine dv (At.conv (s := 3) (t := 5) (d := 70) (x := .tmp 69) (kd := .i64) (kd' := .u8) (a := shV .shr .i64 e1 16) (.int .u8 ((u8Of (shV .shr .i64 e1 16)).toNat : Int)) (by kernel_rfl) (by kernel_rfl) (by kernel_rfl) (by kernel_rfl) (sayByte _) ·) ?_
     refine dv (At.a 2 ·) ?_
     refine dv (At.iRf 27 73 (.tmp 71) (.tmp 72) 140 (h.map encI) .i64 (k : Int) 3 1 (by omega) (by simp only [List.length_map]; omega) ·) ?_
     refine dv (At.lEl 3 74 (.tmp 73) 140 3 1 (h.map encI) k 0 false 1 (encI e1) (.int .i64 e1) (mapGet he1) ·) ?_
     refine dv (At.shift (t := 3) (u := 162) (d := 75) (op := .shr) (x := .tmp 74) (y := .const (.int .u64 8)) (kd := .i64) (kd' := .u64) (a := e1) (b := 8) (shV .shr .i64 e1 8) (by kernel_rfl) (by kernel_rfl) (by kernel_rfl) (by kernel_rfl) (by omega) (shS_shr _ _ _) ·) ?_
     refine dv (At.conv (s := 3) (t := 5) (d := 76) (x := .tmp 75) (kd := .i64) (kd' := .u8) (a := shV .shr .i64 e1 8) (.int .u8 ((u8Of (shV .shr .i64 e1 8)).toNat : Int)) (by kernel_rfl) (by kernel_rfl) (by kernel_rfl) (by kernel_rfl) (sayByte _) ·) ?_
     refine dv (At.a 2 ·) ?_
     refine dv (At.iRf 27 79 (.tmp 77) (.tmp 78) 140 (h.map encI) .i64 (k : Int) 3 1 (by omega) (by simp only [List.length_map]; omega) ·) ?_
     refine dv (At.lEl 3 80 (.tmp 79) 140 3 1 (h.map encI) k 0 false 1 (encI e1) (.int .i64 e1) (mapGet he1) ·) ?_
     refine dv (At.conv (s := 3) (t := 5) (d := 81) (x := .tmp 80) (kd := .i64) (kd' := .u8) (a := e1) (.int .u8 ((u8Of e1).toNat : Int)) (by kernel_rfl) (by kernel_rfl) (by kernel_rfl) (by kernel_rfl) (sayByte _) ·) ?_
     refine dv (At.ll 82 5 1 182 (45, 6) (([(u8Of (shV .shr .i64 e1 24)), (u8Of (shV .shr .i64 e1 16)), (u8Of (shV .shr .i64 e1 8)), (u8Of e1)]).map encU8) ·) ?_
     refine dv (At.apK 83 5 1 1 183 109 182 encU8 o ([(u8Of (shV .shr .i64 e1 24)), (u8Of (shV .shr .i64 e1 16)), (u8Of (shV .shr .i64 e1 8)), (u8Of e1)]) (by simp only [List.length_map, List.length_append, List.length_take, List.length_drop, List.length_replicate, List.length_set, List.length_cons, List.length_nil]; omega) ·) ?_
     refine dv (At.zD 1 ·) ?_
     refine dv (AW.g ·) ?_
     refine dv (At.a 2 ·) ?_
     refine dv (At.sI 57 ((k : Int) + 1) (by omega) ·) ?_
     refine dv (At.z 1 ·) ?_
     exact dw (fun _ h_ => AWL.weak (Sub.o [(183, 109), (140, 140)] [false, false, false, true, false, false, true, false, true]) h_) (ih4 (k + 1, (o ++ ([(u8Of (shV .shr .i64 e1 24)), (u8Of (shV .shr .i64 e1 16)), (u8Of (shV .shr .i64 e1 8)), (u8Of e1)]))) (by simp only [List.length_append, List.length_cons, List.length_nil]; omega) (by simp only; omega))
   refine dv (AW.condF (decide ((k : Int) < 8)) (by kernel_rfl) (decide_eq_false h5) ·) ?_
   refine dv (AW.exit ·) ?_
   refine dv (AW.q 2 ·) ?_
   refine dv (AW.ret ·) ?_
   refine dv (⟨_, Sub.refl _ _, ·⟩) ?_
   exact ⟨(o), (by (try dsimp only); (try simp only [List.length_nil]); omega), KF.mk (.inr rfl) [(109, 0)] [.ref 109] (by kernel_rfl) (by kernel_rfl) (by kernel_rfl) (by kernel_rfl) (by kernel_rfl)⟩
 refine dv (AW.condT (((mm.length : Int) % 64) != 56) (by kernel_rfl) (bne_iff_ne.2 h2) ·) ?_
 refine dv (AW.skip ·) ?_
 refine dv (AW.block ·) ?_
 refine dv (AW.g ·) ?_
 refine dv (At.a 1 ·) ?_
 refine dv (At.ll 24 5 1 124 (45, 6) (([(0 : UInt8)]).map encU8) ·) ?_
 refine dv (At.apK 25 5 1 1 125 118 124 encU8 mm ([(0 : UInt8)]) (by simp only [List.length_map, List.length_append, List.length_take, List.length_drop, List.length_replicate, List.length_set, List.length_cons, List.length_nil]; omega) ·) ?_
 refine dv (At.z 1 ·) ?_
 exact dw (fun _ h_ => AWL.weak (Sub.o [(109, 109), (125, 118)] [true, false, false, true, true]) h_) (ih1 (mm ++ ([(0 : UInt8)])) (by simp only [List.length_append, List.length_cons, List.length_nil]; omega) (by simp only [List.length_append, List.length_cons, List.length_nil]; omega))
theorem spec_l5DrawDigest_spec  (c : Cur) (hp : 0 ≤ c.pos ∧ c.pos ≤ c.data.length ∧ c.data.length ≤ 1048576) : ∃ rho_ : Int × Int × ByteArray, (0 ≤ rho_.1 ∧ rho_.1 ≤ c.data.length ∧ rho_.2.2.size = 32) ∧ FnSpec Tryz.prog 147 [.ptr 0 0 0] [.box 141 [.sl false 1 (c.data.map encU8), .int .i64 c.pos, .int .i64 c.seed]] (.str rho_.2.2) [.box 141 [.sl false 1 (c.data.map encU8), .int .i64 rho_.1, .int .i64 rho_.2.1]] := by
 refine dv (fun h_ => FnSpec.of 9 Tryz.func147 rfl Tryz.ntmps147 (by simp) (AW.weakK h_)) ?_
 refine dv (AW.q 1 ·) ?_
 refine dv (AW.r ·) ?_
 refine dv (At.a 1 ·) ?_
 refine Exists.elim (spec_l1Below_spec  c 4 (by omega)) fun r1_ hr1_ => ?_
 have qr1_ := hr1_.1
 try dsimp only at qr1_
 refine dv (At.c (hr1_.2) Tryz.call143 true [(0, 0)] [] [] trivial ·) ?_
 refine dv (At.conv (s := 3) (t := 5) (d := 5) (x := .tmp 4) (kd := .i64) (kd' := .u8) (a := r1_.2.2) (.int .u8 ((u8Of r1_.2.2).toNat : Int)) (by kernel_rfl) (by kernel_rfl) (by kernel_rfl) (by kernel_rfl) (sayByte _) ·) ?_
 refine dv (At.ll 6 5 1 106 (45, 6) (([(u8Of r1_.2.2)]).map encU8) ·) ?_
 refine Exists.elim (spec_Sha_spec  ([(u8Of r1_.2.2)]) (by simp only [List.length_map, List.length_append, List.length_take, List.length_drop, List.length_replicate, List.length_set, List.length_cons, List.length_nil]; omega)) fun r2_ hr2_ => ?_
 have qr2_ := hr2_.1
 try dsimp only at qr2_
 refine dv (At.c (hr2_.2) Tryz.call173 false [] [(1140, 0)] [(106, 1, (([(u8Of r1_.2.2)]).map encU8))] ⟨rfl, ⟨5, (([(u8Of r1_.2.2)]).map encU8), by kernel_rfl, FrzIs.same (allP_encU8 _)⟩, trivial⟩ ·) ?_
 refine dv (At.b2s (s := 22) (t := 9) (e := 5) (d := 8) (x := .tmp 7) (T := .ref 1140) (r2_) [] (by kernel_rfl) (by kernel_rfl) (by kernel_rfl) (by kernel_rfl) ⟨by kernel_rfl, .inl ⟨rfl, (allP_encU8 _)⟩⟩ ·) ?_
 refine dv (At.z 1 ·) ?_
 refine dv (AW.ret ·) ?_
 refine dv (⟨_, Sub.refl _ _, ·⟩) ?_
 exact ⟨(r1_.1, r1_.2.1, strOf r2_), (by dsimp only; rw [strOf_size]; simp only [List.length_cons, List.length_nil] at *; omega), KF.mk (.inr rfl) [(0, 0)] [.str (strOf r2_)] (by kernel_rfl) (by kernel_rfl) (by kernel_rfl) (by kernel_rfl) (by kernel_rfl)⟩
theorem spec_l5DrawRight_spec  (c : Cur) (hp : 0 ≤ c.pos ∧ c.pos ≤ c.data.length ∧ c.data.length ≤ 1048576) : ∃ rho_ : Int × Int × Cmd, (0 ≤ rho_.1 ∧ rho_.1 ≤ c.data.length ∧ rho_.2.2.digest.size ≤ 32) ∧ FnSpec Tryz.prog 61 [.ptr 0 0 0] [.box 141 [.sl false 1 (c.data.map encU8), .int .i64 c.pos, .int .i64 c.seed]] (.agg [.int .i64 rho_.2.2.kind, .int .i64 rho_.2.2.release, .int .i64 rho_.2.2.node, .int .i64 rho_.2.2.size, .str rho_.2.2.digest]) [.box 141 [.sl false 1 (c.data.map encU8), .int .i64 rho_.1, .int .i64 rho_.2.1]] := by
 refine dv (fun h_ => FnSpec.of 31 Tryz.func61 rfl Tryz.ntmps61 (by simp) (AW.weakK h_)) ?_
 refine dv (AW.q 1 ·) ?_
 refine dv (AW.r ·) ?_
 refine dv (At.a 1 ·) ?_
 refine Exists.elim (spec_l1Below_spec  c 5 (by omega)) fun r1_ hr1_ => ?_
 have qr1_ := hr1_.1
 try dsimp only at qr1_
 refine dv (At.c (hr1_.2) Tryz.call143 true [(0, 0)] [] [] trivial ·) ?_
 refine dv (At.a 1 ·) ?_
 refine dv (At.sI 6 (1 + r1_.2.2) (by omega) ·) ?_
 refine dv (At.z 3 ·) ?_
 refine dv (AW.seq ·) ?_
 refine dv (AW.q 3 ·) ?_
 by_cases h1 : 1 + r1_.2.2 = 1
 · refine dv (AW.condF ((1 + r1_.2.2) != 1) (by kernel_rfl) (by rw [bne_eq_false_iff_eq]; exact h1) ·) ?_
   refine dv (AW.skip ·) ?_
   refine dv (AW.seq ·) ?_
   refine dv (AW.q 2 ·) ?_
   refine dv (AW.block ·) ?_
   refine dv (AW.q 2 ·) ?_
   by_cases h2 : 1 + r1_.2.2 = 3
   · refine dv (AW.condT ((1 + r1_.2.2) == 3) (by kernel_rfl) (beq_iff_eq.2 h2) ·) ?_
     refine dv (AW.g ·) ?_
     refine dv (At.a 1 ·) ?_
     refine Exists.elim (spec_l1Below_spec  (⟨c.data, r1_.1, r1_.2.1⟩ : Cur) 3 (by omega)) fun r2_ hr2_ => ?_
     have qr2_ := hr2_.1
     try dsimp only at qr2_
     refine dv (At.c (hr2_.2) Tryz.call143 true [(0, 0)] [] [] trivial ·) ?_
     refine dv (At.z 2 ·) ?_
     refine dv (AW.q 2 ·) ?_
     refine dv (AW.ret ·) ?_
     refine dv (⟨_, Sub.refl _ _, ·⟩) ?_
     exact ⟨(r2_.1, r2_.2.1, (⟨1 + r1_.2.2, 0, r2_.2.2, 0, (⟨#[]⟩ : ByteArray)⟩ : Cmd)), (by dsimp only; first | omega | (refine ⟨by omega, by omega, ?_⟩; first | omega | exact (show (0 : Nat) ≤ 32 by omega))), KF.mk (.inr rfl) [(0, 0)] [.agg [.int .i64 (1 + r1_.2.2), .int .i64 0, .int .i64 r2_.2.2, .int .i64 0, .str (⟨#[]⟩ : ByteArray)]] (by kernel_rfl) (by kernel_rfl) (by kernel_rfl) (by kernel_rfl) (by kernel_rfl)⟩
   refine dv (AW.condF ((1 + r1_.2.2) == 3) (by kernel_rfl) (beq_eq_false_iff_ne.2 h2) ·) ?_
   refine dv (AW.q 2 ·) ?_
   by_cases h3 : 1 + r1_.2.2 = 2
   · refine dv (AW.condT ((1 + r1_.2.2) == 2) (by kernel_rfl) (beq_iff_eq.2 h3) ·) ?_
     refine dv (AW.r ·) ?_
     refine dv (At.a 1 ·) ?_
     refine Exists.elim (spec_l1Below_spec  (⟨c.data, r1_.1, r1_.2.1⟩ : Cur) 40 (by omega)) fun r2_ hr2_ => ?_
     have qr2_ := hr2_.1
     try dsimp only at qr2_
     refine dv (At.c (hr2_.2) Tryz.call143 true [(0, 0)] [] [] trivial ·) ?_
     refine dv (At.z 2 ·) ?_
     refine dv (AW.g ·) ?_
     refine dv (At.a 1 ·) ?_
     refine Exists.elim (spec_l5DrawDigest_spec  (⟨c.data, r2_.1, r2_.2.1⟩ : Cur) (by omega)) fun r3_ hr3_ => ?_
     have qr3_ := hr3_.1
     try dsimp only at qr3_
     refine dv (At.c (hr3_.2) Tryz.call147 true [(0, 0)] [] [] trivial ·) ?_
     refine dv (At.z 2 ·) ?_
     refine dv (AW.q 2 ·) ?_
     refine dv (AW.ret ·) ?_
     refine dv (⟨_, Sub.refl _ _, ·⟩) ?_
     exact ⟨(r3_.1, r3_.2.1, (⟨1 + r1_.2.2, 0, 0, r2_.2.2, r3_.2.2⟩ : Cmd)), (by dsimp only; first | omega | (refine ⟨by omega, by omega, ?_⟩; first | omega | exact (show (0 : Nat) ≤ 32 by omega))), KF.mk (.inr rfl) [(0, 0)] [.agg [.int .i64 (1 + r1_.2.2), .int .i64 0, .int .i64 0, .int .i64 r2_.2.2, .str r3_.2.2]] (by kernel_rfl) (by kernel_rfl) (by kernel_rfl) (by kernel_rfl) (by kernel_rfl)⟩
   refine dv (AW.condF ((1 + r1_.2.2) == 2) (by kernel_rfl) (beq_eq_false_iff_ne.2 h3) ·) ?_
   refine dv (AW.skip ·) ?_
   refine dv (AW.q 2 ·) ?_
   refine dv (AW.ret ·) ?_
   refine dv (⟨_, Sub.refl _ _, ·⟩) ?_
   exact ⟨(r1_.1, r1_.2.1, (⟨1 + r1_.2.2, 0, 0, 0, (⟨#[]⟩ : ByteArray)⟩ : Cmd)), (by dsimp only; first | omega | (refine ⟨by omega, by omega, ?_⟩; first | omega | exact (show (0 : Nat) ≤ 32 by omega))), KF.mk (.inr rfl) [(0, 0)] [.agg [.int .i64 (1 + r1_.2.2), .int .i64 0, .int .i64 0, .int .i64 0, .str (⟨#[]⟩ : ByteArray)]] (by kernel_rfl) (by kernel_rfl) (by kernel_rfl) (by kernel_rfl) (by kernel_rfl)⟩
 refine dv (AW.condT ((1 + r1_.2.2) != 1) (by kernel_rfl) (bne_iff_ne.2 h1) ·) ?_
 refine dv (AW.g ·) ?_
 refine dv (At.a 1 ·) ?_
 refine Exists.elim (spec_l1Below_spec  (⟨c.data, r1_.1, r1_.2.1⟩ : Cur) 4 (by dsimp only; omega)) fun r2_ hr2_ => ?_
 have qr2_ := hr2_.1
 try dsimp only at qr2_
 refine dv (At.c (hr2_.2) Tryz.call143 true [(0, 0)] [] [] trivial ·) ?_
 refine dv (At.a 1 ·) ?_
 refine dv (At.sI 13 (1 + r2_.2.2) (by omega) ·) ?_
 refine dv (At.z 2 ·) ?_
 refine dv (AW.seq ·) ?_
 refine dv (AW.q 2 ·) ?_
 refine dv (AW.block ·) ?_
 refine dv (AW.q 2 ·) ?_
 by_cases h4 : 1 + r1_.2.2 = 3
 · refine dv (AW.condT ((1 + r1_.2.2) == 3) (by kernel_rfl) (beq_iff_eq.2 h4) ·) ?_
   refine dv (AW.g ·) ?_
   refine dv (At.a 1 ·) ?_
   refine Exists.elim (spec_l1Below_spec  (⟨c.data, r2_.1, r2_.2.1⟩ : Cur) 3 (by dsimp only; omega)) fun r3_ hr3_ => ?_
   have qr3_ := hr3_.1
   try dsimp only at qr3_
   refine dv (At.c (hr3_.2) Tryz.call143 true [(0, 0)] [] [] trivial ·) ?_
   refine dv (At.z 2 ·) ?_
   refine dv (AW.q 2 ·) ?_
   refine dv (AW.ret ·) ?_
   refine dv (⟨_, Sub.refl _ _, ·⟩) ?_
   exact ⟨(r3_.1, r3_.2.1, (⟨1 + r1_.2.2, 1 + r2_.2.2, r3_.2.2, 0, (⟨#[]⟩ : ByteArray)⟩ : Cmd)), (by dsimp only; first | omega | (refine ⟨by omega, by omega, ?_⟩; first | omega | exact (show (0 : Nat) ≤ 32 by omega))), KF.mk (.inr rfl) [(0, 0)] [.agg [.int .i64 (1 + r1_.2.2), .int .i64 (1 + r2_.2.2), .int .i64 r3_.2.2, .int .i64 0, .str (⟨#[]⟩ : ByteArray)]] (by kernel_rfl) (by kernel_rfl) (by kernel_rfl) (by kernel_rfl) (by kernel_rfl)⟩
 refine dv (AW.condF ((1 + r1_.2.2) == 3) (by kernel_rfl) (beq_eq_false_iff_ne.2 h4) ·) ?_
 refine dv (AW.q 2 ·) ?_
 by_cases h5 : 1 + r1_.2.2 = 2
 · refine dv (AW.condT ((1 + r1_.2.2) == 2) (by kernel_rfl) (beq_iff_eq.2 h5) ·) ?_
   refine dv (AW.r ·) ?_
   refine dv (At.a 1 ·) ?_
   refine Exists.elim (spec_l1Below_spec  (⟨c.data, r2_.1, r2_.2.1⟩ : Cur) 40 (by dsimp only; omega)) fun r3_ hr3_ => ?_
   have qr3_ := hr3_.1
   try dsimp only at qr3_
   refine dv (At.c (hr3_.2) Tryz.call143 true [(0, 0)] [] [] trivial ·) ?_
   refine dv (At.z 2 ·) ?_
   refine dv (AW.g ·) ?_
   refine dv (At.a 1 ·) ?_
   refine Exists.elim (spec_l5DrawDigest_spec  (⟨c.data, r3_.1, r3_.2.1⟩ : Cur) (by dsimp only; omega)) fun r4_ hr4_ => ?_
   have qr4_ := hr4_.1
   try dsimp only at qr4_
   refine dv (At.c (hr4_.2) Tryz.call147 true [(0, 0)] [] [] trivial ·) ?_
   refine dv (At.z 2 ·) ?_
   refine dv (AW.q 2 ·) ?_
   refine dv (AW.ret ·) ?_
   refine dv (⟨_, Sub.refl _ _, ·⟩) ?_
   exact ⟨(r4_.1, r4_.2.1, (⟨1 + r1_.2.2, 1 + r2_.2.2, 0, r3_.2.2, r4_.2.2⟩ : Cmd)), (by dsimp only; first | omega | (refine ⟨by omega, by omega, ?_⟩; first | omega | exact (show (0 : Nat) ≤ 32 by omega))), KF.mk (.inr rfl) [(0, 0)] [.agg [.int .i64 (1 + r1_.2.2), .int .i64 (1 + r2_.2.2), .int .i64 0, .int .i64 r3_.2.2, .str r4_.2.2]] (by kernel_rfl) (by kernel_rfl) (by kernel_rfl) (by kernel_rfl) (by kernel_rfl)⟩
 refine dv (AW.condF ((1 + r1_.2.2) == 2) (by kernel_rfl) (beq_eq_false_iff_ne.2 h5) ·) ?_
 refine dv (AW.skip ·) ?_
 refine dv (AW.q 2 ·) ?_
 refine dv (AW.ret ·) ?_
 refine dv (⟨_, Sub.refl _ _, ·⟩) ?_
 exact ⟨(r2_.1, r2_.2.1, (⟨1 + r1_.2.2, 1 + r2_.2.2, 0, 0, (⟨#[]⟩ : ByteArray)⟩ : Cmd)), (by dsimp only; first | omega | (refine ⟨by omega, by omega, ?_⟩; first | omega | exact (show (0 : Nat) ≤ 32 by omega))), KF.mk (.inr rfl) [(0, 0)] [.agg [.int .i64 (1 + r1_.2.2), .int .i64 (1 + r2_.2.2), .int .i64 0, .int .i64 0, .str (⟨#[]⟩ : ByteArray)]] (by kernel_rfl) (by kernel_rfl) (by kernel_rfl) (by kernel_rfl) (by kernel_rfl)⟩
def K_spec_RaftPropose (rs : List ResultVar) (r : Raft) (c : Cmd) (w0_ : Raft) (w1_ : List Rec) (w2_ : List Out) (w3_ : Bool) : Exit → Sg → Prop := KF Tryz.prog 0 rs (.tup [.agg [.int .i64 w0_.id, .int .i64 w0_.of_, .int .i64 w0_.role, .int .i64 w0_.commit, .int .i64 w0_.hard.term, .int .i64 w0_.hard.vote, .ref 0, .ref 1, .ref 2, .ref 3], .ref 4, .ref 5, .bool w3_]) [.arr 45 6 (w0_.hard.log.map encEnt), .arr 3 1 (w0_.yes.map encI), .arr 3 1 (w0_.next.map encI), .arr 3 1 (w0_.match_.map encI), .arr 47 10 (w1_.map encRec), .arr 51 17 (w2_.map encOut)]
theorem spec_RaftPropose_spec  (r : Raft) (c : Cmd) (hz : SmallR r) : FnSpec Tryz.prog 33 [(raftA r), .agg [.int .i64 c.kind, .int .i64 c.release, .int .i64 c.node, .int .i64 c.size, .str c.digest]] [] (.tup [.agg [.int .i64 ((propR r c).id), .int .i64 ((propR r c).of_), .int .i64 ((propR r c).role), .int .i64 ((propR r c).commit), .int .i64 ((propR r c).hard.term), .int .i64 ((propR r c).hard.vote), .ref 0, .ref 1, .ref 2, .ref 3], .ref 4, .ref 5, .bool (propOk r c)]) [.arr 45 6 (((propR r c).hard.log).map encEnt), .arr 3 1 (((propR r c).yes).map encI), .arr 3 1 (((propR r c).next).map encI), .arr 3 1 (((propR r c).match_).map encI), .arr 47 10 ((propRecs r c).map encRec), .arr 51 17 ((propOuts r c).map encOut)] := by
 obtain ⟨z1, z2, z3, z4⟩ := id hz
 refine FnSpec.of 62 Tryz.func33 rfl Tryz.ntmps33 (by simp) (AW.weakK ?_)
 by_cases hok : raftOk r = true
 · have hokn := raftOk1_nums (raftOk_1 hok)
   refine AW.q 6 ?_
   refine AW.seq ?_
   refine AW.weak (Sub.nils [⟨true, 104, some 6, 5001, 45, 6⟩, ⟨true, 104, some 7, 5002, 3, 1⟩, ⟨true, 104, some 8, 5003, 3, 1⟩, ⟨true, 104, some 9, 5004, 3, 1⟩] (by kernel_rfl)) ?_
   refine AW.g ?_
   refine At.a 1 ?_
   refine At.c (spec_l10Same_T_spec  r (by exact hz) hok) Tryz.call97 true [] [(1220, 0), (1221, 1), (1222, 2), (1223, 3)] [] trivial ?_
   refine At.lit0 (t := 37) (d := 12) (e := 47) (es := 10) (bytes := 88) 112 (by kernel_rfl) (by kernel_rfl) (by kernel_rfl) (by kernel_rfl) ?_
   refine At.z 3 ?_
   refine AW.seq ?_
   refine AW.r ?_
   refine At.a 1 ?_
   refine At.c (spec_RaftOk_spec  r (by exact hz)) Tryz.call18 true [] [] [] trivial ?_
   refine At.a 2 ?_
   refine At.sB 16 (!(raftOk r)) false (sayB (by rw [show (raftOk r) = true from hok]; rfl)) ?_
   refine At.a 5 ?_
   by_cases h1 : r.role = 3
   · refine At.sB 21 _ _ (sayUF h1) ?_
     have hnx := raftOk_next hok h1
     refine At.a 1 ?_
     refine At.c (spec_CmdOk_spec  c ) Tryz.call104 true [] [] [] trivial ?_
     refine At.a 3 ?_
     by_cases h2 : (cmdOk c) = true
     · refine At.sB 26 (!(cmdOk c)) false (sayNF (sayB h2)) ?_
       refine At.a 1 ?_
       refine At.c (spec_l10End_spec  r ) Tryz.call65 true [] [] [] trivial ?_
       refine At.z 2 ?_
       refine AW.cE (r.hard.log.length : Int) (80 : Int) (fun h3 => ?_) (fun h3 => ?_)
       · refine AW.r ?_
         refine At.a 2 ?_
         refine At.lit0 (t := 38) (d := 33) (e := 51) (es := 17) (bytes := 168) 133 (by kernel_rfl) (by kernel_rfl) (by kernel_rfl) (by kernel_rfl) ?_
         refine At.z 4 ?_
         exact AW.ret (rf (k4 (K_spec_RaftPropose _ r c) (show (r) = (propR r c) from by have q : propOk r c = false := (by grind [propOk]); simp [propR, propRecs, propOuts, same, hok, q]) (show ([]) = (propRecs r c) from by have q : propOk r c = false := (by grind [propOk]); simp [propR, propRecs, propOuts, same, hok, q]) (show ([]) = (propOuts r c) from by have q : propOk r c = false := (by grind [propOk]); simp [propR, propRecs, propOuts, same, hok, q]) (show (false) = (propOk r c) from by have q : propOk r c = false := (by grind [propOk]); simp [propR, propRecs, propOuts, same, hok, q]) (KF.n [(1220, 0), (1221, 1), (1222, 2), (1223, 3), (112, 4), (133, 5)])))
       refine AW.skip ?_
       refine AW.r ?_
       refine At.a 7 ?_
       refine At.c (spec_l10Put_spec  r (⟨r.hard.term, c⟩ : Ent) ([]) (by omega) (by simp only [List.length_map, List.length_append, List.length_take, List.length_drop, List.length_replicate, List.length_set, List.length_cons, List.length_nil]; omega)) Tryz.call105 true [(1220, 0), (1221, 1), (1222, 2), (1223, 3), (112, 4)] [(1840, 5), (1841, 6)] [] trivial ?_
       refine At.z 5 ?_
       refine AW.seq ?_
       refine AW.gD Tryz_mix ?_
       refine At.a 5 ?_
       refine At.c (spec_l10End_spec  (⟨r.id, r.of_, r.role, r.commit, ⟨r.hard.term, r.hard.vote, r.hard.log ++ [(⟨r.hard.term, c⟩ : Ent)]⟩, r.yes, r.next, r.match_⟩ : Raft) ) Tryz.call65 false [] [] [(1840, 6, ((r.hard.log ++ [(⟨r.hard.term, c⟩ : Ent)]).map encEnt)), (1221, 1, (r.yes.map encI)), (1222, 1, (r.next.map encI)), (1223, 1, (r.match_.map encI))] ⟨rfl, ⟨45, ((r.hard.log ++ [(⟨r.hard.term, c⟩ : Ent)]).map encEnt), by kernel_rfl, FrzIs.same (allP_encEnt _)⟩, rfl, ⟨3, (r.yes.map encI), by kernel_rfl, FrzIs.same (allP_encI _)⟩, rfl, ⟨3, (r.next.map encI), by kernel_rfl, FrzIs.same (allP_encI _)⟩, rfl, ⟨3, (r.match_.map encI), by kernel_rfl, FrzIs.same (allP_encI _)⟩, trivial⟩ ?_
       refine At.iRf 27 51 (.tmp 46) (.tmp 48) 1223 (r.match_.map encI) .i64 r.id 3 1 (by omega) (by simp only [List.length_map]; omega) ?_
       refine Exists.elim (gE r.match_ ((r.id).toNat) (by omega)) fun e1 he1 => ?_
       refine At.sEl 3 1223 3 1 ((r.id).toNat) 0 (.tmp 51) (.tmp 50) (r.match_.map encI) ((r.match_.set ((r.id).toNat) ((r.hard.log ++ [(⟨r.hard.term, c⟩ : Ent)]).length : Int)).map encI) [.int .i64 ((r.hard.log ++ [(⟨r.hard.term, c⟩ : Ent)]).length : Int)] (.int .i64 ((r.hard.log ++ [(⟨r.hard.term, c⟩ : Ent)]).length : Int)) (encI e1) (encI ((r.hard.log ++ [(⟨r.hard.term, c⟩ : Ent)]).length : Int)) (mapGet he1) setV ?_
       refine At.done rfl ⟨by kernel_rfl, ?_⟩
       refine AW.seq ?_
       refine AW.q 3 ?_
       refine AW.cE r.of_ (1 : Int) (fun h4 => ?_) (fun h4 => ?_)
       · refine AW.g ?_
         refine At.a 1 ?_
         refine At.c (spec_l10End_spec  (⟨r.id, r.of_, r.role, r.commit, ⟨r.hard.term, r.hard.vote, r.hard.log ++ [(⟨r.hard.term, c⟩ : Ent)]⟩, r.yes, r.next, r.match_.set ((r.id).toNat) ((r.hard.log ++ [(⟨r.hard.term, c⟩ : Ent)]).length : Int)⟩ : Raft) ) Tryz.call65 false [] [] [(1840, 6, ((r.hard.log ++ [(⟨r.hard.term, c⟩ : Ent)]).map encEnt)), (1221, 1, (r.yes.map encI)), (1222, 1, (r.next.map encI)), (1223, 1, ((r.match_.set ((r.id).toNat) ((r.hard.log ++ [(⟨r.hard.term, c⟩ : Ent)]).length : Int)).map encI))] ⟨rfl, ⟨45, ((r.hard.log ++ [(⟨r.hard.term, c⟩ : Ent)]).map encEnt), by kernel_rfl, FrzIs.same (allP_encEnt _)⟩, rfl, ⟨3, (r.yes.map encI), by kernel_rfl, FrzIs.same (allP_encI _)⟩, rfl, ⟨3, (r.next.map encI), by kernel_rfl, FrzIs.same (allP_encI _)⟩, rfl, ⟨3, ((r.match_.set ((r.id).toNat) ((r.hard.log ++ [(⟨r.hard.term, c⟩ : Ent)]).length : Int)).map encI), by kernel_rfl, FrzIs.same (allP_encI _)⟩, trivial⟩ ?_
         refine At.z 2 ?_
         refine AW.seq ?_
         refine AW.gD Tryz_mix ?_
         refine At.a 3 ?_
         refine At.c (spec_l10SendAll_spec  (⟨r.id, r.of_, r.role, ((r.hard.log ++ [(⟨r.hard.term, c⟩ : Ent)]).length : Int), ⟨r.hard.term, r.hard.vote, r.hard.log ++ [(⟨r.hard.term, c⟩ : Ent)]⟩, r.yes, r.next, r.match_.set ((r.id).toNat) ((r.hard.log ++ [(⟨r.hard.term, c⟩ : Ent)]).length : Int)⟩ : Raft) (by unfold SmallR; simp only [List.length_append, List.length_set, List.length_cons, List.length_nil]; omega) (by dsimp only; omega) (by dsimp only; omega) (had_next (e := propE (⟨r.id, r.of_, r.role, ((r.hard.log ++ [(⟨r.hard.term, c⟩ : Ent)]).length : Int), ⟨r.hard.term, r.hard.vote, r.hard.log ++ [(⟨r.hard.term, c⟩ : Ent)]⟩, r.yes, r.next, r.match_.set ((r.id).toNat) ((r.hard.log ++ [(⟨r.hard.term, c⟩ : Ent)]).length : Int)⟩ : Raft) c) hnx.2.1)) Tryz.call83 false [] [(2220, 0)] [(1840, 6, ((r.hard.log ++ [(⟨r.hard.term, c⟩ : Ent)]).map encEnt)), (1221, 1, (r.yes.map encI)), (1222, 1, (r.next.map encI)), (1223, 1, ((r.match_.set ((r.id).toNat) ((r.hard.log ++ [(⟨r.hard.term, c⟩ : Ent)]).length : Int)).map encI))] ⟨rfl, ⟨45, ((r.hard.log ++ [(⟨r.hard.term, c⟩ : Ent)]).map encEnt), by kernel_rfl, FrzIs.same (allP_encEnt _)⟩, rfl, ⟨3, (r.yes.map encI), by kernel_rfl, FrzIs.same (allP_encI _)⟩, rfl, ⟨3, (r.next.map encI), by kernel_rfl, FrzIs.same (allP_encI _)⟩, rfl, ⟨3, ((r.match_.set ((r.id).toNat) ((r.hard.log ++ [(⟨r.hard.term, c⟩ : Ent)]).length : Int)).map encI), by kernel_rfl, FrzIs.same (allP_encI _)⟩, trivial⟩ ?_
         refine At.zD 4 ?_
         exact AW.ret (rf (k4 (K_spec_RaftPropose _ r c) (show ((⟨r.id, r.of_, r.role, ((r.hard.log ++ [(⟨r.hard.term, c⟩ : Ent)]).length : Int), ⟨r.hard.term, r.hard.vote, r.hard.log ++ [(⟨r.hard.term, c⟩ : Ent)]⟩, r.yes, r.next, r.match_.set ((r.id).toNat) ((r.hard.log ++ [(⟨r.hard.term, c⟩ : Ent)]).length : Int)⟩ : Raft)) = (propR r c) from by have q : propOk r c = true := (by grind [propOk]); first | exact q.symm | (simp only [propR, propRecs, propOuts, if_pos q]; done) | (simp only [propR, propRecs, propOuts, if_pos q]; first | rfl | (simp [endRecs, had, put, propE, putRec, h1, h2, h3, h4]; done) | simp [endRecs, had, put, propE, putRec])) (show (([]) ++ [(⟨2, 0, 0, ((r.hard.log ++ [(⟨r.hard.term, c⟩ : Ent)]).length : Int), (⟨r.hard.term, c⟩ : Ent)⟩ : Rec)]) = (propRecs r c) from by have q : propOk r c = true := (by grind [propOk]); first | exact q.symm | (simp only [propR, propRecs, propOuts, if_pos q]; done) | (simp only [propR, propRecs, propOuts, if_pos q]; first | rfl | (simp [endRecs, had, put, propE, putRec, h1, h2, h3, h4]; done) | simp [endRecs, had, put, propE, putRec])) (show (sendAll (⟨r.id, r.of_, r.role, ((r.hard.log ++ [(⟨r.hard.term, c⟩ : Ent)]).length : Int), ⟨r.hard.term, r.hard.vote, r.hard.log ++ [(⟨r.hard.term, c⟩ : Ent)]⟩, r.yes, r.next, r.match_.set ((r.id).toNat) ((r.hard.log ++ [(⟨r.hard.term, c⟩ : Ent)]).length : Int)⟩ : Raft)) = (propOuts r c) from by have q : propOk r c = true := (by grind [propOk]); first | exact q.symm | (simp only [propR, propRecs, propOuts, if_pos q]; done) | (simp only [propR, propRecs, propOuts, if_pos q]; first | rfl | (simp [endRecs, had, put, propE, putRec, h1, h2, h3, h4]; done) | simp [endRecs, had, put, propE, putRec])) (show (true) = (propOk r c) from by have q : propOk r c = true := (by grind [propOk]); first | exact q.symm | (simp only [propR, propRecs, propOuts, if_pos q]; done) | (simp only [propR, propRecs, propOuts, if_pos q]; first | rfl | (simp [endRecs, had, put, propE, putRec, h1, h2, h3, h4]; done) | simp [endRecs, had, put, propE, putRec])) (KF.n [(1840, 0), (1221, 1), (1222, 2), (1223, 3), (1841, 4), (2220, 5)])))
       refine AW.skip ?_
       refine AW.seq ?_
       refine AW.gD Tryz_mix ?_
       refine At.a 3 ?_
       refine At.c (spec_l10SendAll_spec  (⟨r.id, r.of_, r.role, r.commit, ⟨r.hard.term, r.hard.vote, r.hard.log ++ [(⟨r.hard.term, c⟩ : Ent)]⟩, r.yes, r.next, r.match_.set ((r.id).toNat) ((r.hard.log ++ [(⟨r.hard.term, c⟩ : Ent)]).length : Int)⟩ : Raft) (by unfold SmallR; simp only [List.length_append, List.length_set, List.length_cons, List.length_nil]; omega) (by dsimp only; omega) (by dsimp only; omega) (had_next (e := propE (⟨r.id, r.of_, r.role, r.commit, ⟨r.hard.term, r.hard.vote, r.hard.log ++ [(⟨r.hard.term, c⟩ : Ent)]⟩, r.yes, r.next, r.match_.set ((r.id).toNat) ((r.hard.log ++ [(⟨r.hard.term, c⟩ : Ent)]).length : Int)⟩ : Raft) c) hnx.2.1)) Tryz.call83 false [] [(2220, 0)] [(1840, 6, ((r.hard.log ++ [(⟨r.hard.term, c⟩ : Ent)]).map encEnt)), (1221, 1, (r.yes.map encI)), (1222, 1, (r.next.map encI)), (1223, 1, ((r.match_.set ((r.id).toNat) ((r.hard.log ++ [(⟨r.hard.term, c⟩ : Ent)]).length : Int)).map encI))] ⟨rfl, ⟨45, ((r.hard.log ++ [(⟨r.hard.term, c⟩ : Ent)]).map encEnt), by kernel_rfl, FrzIs.same (allP_encEnt _)⟩, rfl, ⟨3, (r.yes.map encI), by kernel_rfl, FrzIs.same (allP_encI _)⟩, rfl, ⟨3, (r.next.map encI), by kernel_rfl, FrzIs.same (allP_encI _)⟩, rfl, ⟨3, ((r.match_.set ((r.id).toNat) ((r.hard.log ++ [(⟨r.hard.term, c⟩ : Ent)]).length : Int)).map encI), by kernel_rfl, FrzIs.same (allP_encI _)⟩, trivial⟩ ?_
       refine At.zD 4 ?_
       exact AW.ret (rf (k4 (K_spec_RaftPropose _ r c) (show ((⟨r.id, r.of_, r.role, r.commit, ⟨r.hard.term, r.hard.vote, r.hard.log ++ [(⟨r.hard.term, c⟩ : Ent)]⟩, r.yes, r.next, r.match_.set ((r.id).toNat) ((r.hard.log ++ [(⟨r.hard.term, c⟩ : Ent)]).length : Int)⟩ : Raft)) = (propR r c) from by have q : propOk r c = true := (by grind [propOk]); first | exact q.symm | (simp only [propR, propRecs, propOuts, if_pos q]; done) | (simp only [propR, propRecs, propOuts, if_pos q]; first | rfl | (simp [endRecs, had, put, propE, putRec, h1, h2, h3, h4]; done) | simp [endRecs, had, put, propE, putRec])) (show (([]) ++ [(⟨2, 0, 0, ((r.hard.log ++ [(⟨r.hard.term, c⟩ : Ent)]).length : Int), (⟨r.hard.term, c⟩ : Ent)⟩ : Rec)]) = (propRecs r c) from by have q : propOk r c = true := (by grind [propOk]); first | exact q.symm | (simp only [propR, propRecs, propOuts, if_pos q]; done) | (simp only [propR, propRecs, propOuts, if_pos q]; first | rfl | (simp [endRecs, had, put, propE, putRec, h1, h2, h3, h4]; done) | simp [endRecs, had, put, propE, putRec])) (show (sendAll (⟨r.id, r.of_, r.role, r.commit, ⟨r.hard.term, r.hard.vote, r.hard.log ++ [(⟨r.hard.term, c⟩ : Ent)]⟩, r.yes, r.next, r.match_.set ((r.id).toNat) ((r.hard.log ++ [(⟨r.hard.term, c⟩ : Ent)]).length : Int)⟩ : Raft)) = (propOuts r c) from by have q : propOk r c = true := (by grind [propOk]); first | exact q.symm | (simp only [propR, propRecs, propOuts, if_pos q]; done) | (simp only [propR, propRecs, propOuts, if_pos q]; first | rfl | (simp [endRecs, had, put, propE, putRec, h1, h2, h3, h4]; done) | simp [endRecs, had, put, propE, putRec])) (show (true) = (propOk r c) from by have q : propOk r c = true := (by grind [propOk]); first | exact q.symm | (simp only [propR, propRecs, propOuts, if_pos q]; done) | (simp only [propR, propRecs, propOuts, if_pos q]; first | rfl | (simp [endRecs, had, put, propE, putRec, h1, h2, h3, h4]; done) | simp [endRecs, had, put, propE, putRec])) (KF.n [(1840, 0), (1221, 1), (1222, 2), (1223, 3), (1841, 4), (2220, 5)])))
     refine At.sB 26 (!(cmdOk c)) true (sayNT (sayB (Bool.eq_false_iff.2 h2))) ?_
     replace h2 := Bool.eq_false_iff.2 h2
     refine At.z 4 ?_
     refine AW.cond true (by kernel_rfl) (fun _ => ?_) (fun h => by cases h)
     refine AW.r ?_
     refine At.a 2 ?_
     refine At.lit0 (t := 38) (d := 33) (e := 51) (es := 17) (bytes := 168) 133 (by kernel_rfl) (by kernel_rfl) (by kernel_rfl) (by kernel_rfl) ?_
     refine At.z 4 ?_
     exact AW.ret (rf (k4 (K_spec_RaftPropose _ r c) (show (r) = (propR r c) from by have q : propOk r c = false := (by grind [propOk]); simp [propR, propRecs, propOuts, same, hok, q]) (show ([]) = (propRecs r c) from by have q : propOk r c = false := (by grind [propOk]); simp [propR, propRecs, propOuts, same, hok, q]) (show ([]) = (propOuts r c) from by have q : propOk r c = false := (by grind [propOk]); simp [propR, propRecs, propOuts, same, hok, q]) (show (false) = (propOk r c) from by have q : propOk r c = false := (by grind [propOk]); simp [propR, propRecs, propOuts, same, hok, q]) (KF.n [(1220, 0), (1221, 1), (1222, 2), (1223, 3), (112, 4), (133, 5)])))
   refine At.sB 21 _ _ (sayUT h1) ?_
   refine At.z 9 ?_
   refine AW.cond true (by kernel_rfl) (fun _ => ?_) (fun h => by cases h)
   refine AW.r ?_
   refine At.a 2 ?_
   refine At.lit0 (t := 38) (d := 33) (e := 51) (es := 17) (bytes := 168) 133 (by kernel_rfl) (by kernel_rfl) (by kernel_rfl) (by kernel_rfl) ?_
   refine At.z 4 ?_
   exact AW.ret (rf (k4 (K_spec_RaftPropose _ r c) (show (r) = (propR r c) from by have q : propOk r c = false := (by grind [propOk]); simp [propR, propRecs, propOuts, same, hok, q]) (show ([]) = (propRecs r c) from by have q : propOk r c = false := (by grind [propOk]); simp [propR, propRecs, propOuts, same, hok, q]) (show ([]) = (propOuts r c) from by have q : propOk r c = false := (by grind [propOk]); simp [propR, propRecs, propOuts, same, hok, q]) (show (false) = (propOk r c) from by have q : propOk r c = false := (by grind [propOk]); simp [propR, propRecs, propOuts, same, hok, q]) (KF.n [(1220, 0), (1221, 1), (1222, 2), (1223, 3), (112, 4), (133, 5)])))
 refine AW.q 6 ?_
 refine AW.seq ?_
 refine AW.weak (Sub.nils [⟨true, 104, some 6, 5001, 45, 6⟩, ⟨true, 104, some 7, 5002, 3, 1⟩, ⟨true, 104, some 8, 5003, 3, 1⟩, ⟨true, 104, some 9, 5004, 3, 1⟩] (by kernel_rfl)) ?_
 refine AW.g ?_
 refine At.a 1 ?_
 refine At.c (spec_l10Same_F_spec  r (by exact hz) hok) Tryz.call97 true [] [(1220, 0), (1221, 1), (1222, 2), (1223, 3)] [] trivial ?_
 refine At.lit0 (t := 37) (d := 12) (e := 47) (es := 10) (bytes := 88) 112 (by kernel_rfl) (by kernel_rfl) (by kernel_rfl) (by kernel_rfl) ?_
 refine At.z 3 ?_
 refine AW.seq ?_
 refine AW.r ?_
 refine At.a 1 ?_
 refine At.c (spec_RaftOk_spec  r (by exact hz)) Tryz.call18 true [] [] [] trivial ?_
 refine At.a 2 ?_
 refine At.sB 16 (!(raftOk r)) true (sayB (by rw [show (raftOk r) = false from (Bool.eq_false_iff.2 hok)]; rfl)) ?_
 refine At.z 14 ?_
 refine AW.cond true (by kernel_rfl) (fun _ => ?_) (fun h => by cases h)
 refine AW.r ?_
 refine At.a 2 ?_
 refine At.lit0 (t := 38) (d := 33) (e := 51) (es := 17) (bytes := 168) 133 (by kernel_rfl) (by kernel_rfl) (by kernel_rfl) (by kernel_rfl) ?_
 refine At.z 4 ?_
 exact AW.ret (rf (k4 (K_spec_RaftPropose _ r c) (show ((⟨0, 0, 0, 0, ⟨0, 0, []⟩, [], [], []⟩ : Raft)) = (propR r c) from by simp [propR, propRecs, propOuts, propOk, same, hok]; try rfl) (show ([]) = (propRecs r c) from by simp [propR, propRecs, propOuts, propOk, same, hok]; try rfl) (show ([]) = (propOuts r c) from by simp [propR, propRecs, propOuts, propOk, same, hok]; try rfl) (show (false) = (propOk r c) from by simp [propR, propRecs, propOuts, propOk, same, hok]; try rfl) (KF.n [(1220, 0), (1221, 1), (1222, 2), (1223, 3), (112, 4), (133, 5)])))
def K_spec_RaftBeat (rs : List ResultVar) (r : Raft) (w0_ : List Out) : Exit → Sg → Prop := KF Tryz.prog 0 rs (.ref 0) [.arr 51 17 (w0_.map encOut)]
theorem spec_RaftBeat_spec  (r : Raft) (hz : SmallR r) : FnSpec Tryz.prog 25 [(raftA r)] [] (.ref 0) [.arr 51 17 ((beat r).map encOut)] := by
 obtain ⟨z1, z2, z3, z4⟩ := id hz
 refine FnSpec.of 21 Tryz.func25 rfl Tryz.ntmps25 (by simp) (AW.weakK ?_)
 refine AW.q 2 ?_
 refine AW.seq ?_
 refine AW.block ?_
 refine AW.r ?_
 refine At.a 1 ?_
 refine At.c (spec_RaftOk_spec  r hz) Tryz.call18 true [] [] [] trivial ?_
 refine At.z 2 ?_
 refine AW.cNB (raftOk r) (fun h1 => ?_) (fun h1 => ?_)
 · refine AW.r ?_
   refine At.lit0 (t := 38) (d := 7) (e := 51) (es := 17) (bytes := 168) 107 (by kernel_rfl) (by kernel_rfl) (by kernel_rfl) (by kernel_rfl) ?_
   refine At.z 1 ?_
   exact AW.ret (rf (k1 (K_spec_RaftBeat _ r) (show ([]) = (beat r) from by simp [beat, *]) (KF.n [(107, 0)])))
 have h1n := raftOk1_nums (raftOk_1 h1)
 refine AW.q 4 ?_
 refine AW.cE r.role (3 : Int) (fun h2 => ?_) (fun h2 => ?_)
 · refine AW.r ?_
   refine At.a 1 ?_
   refine At.c (spec_l10SendAll_spec  r hz (by omega) (by have := raftOk_next h1 h2; omega) (raftOk_next h1 h2).2.1) Tryz.call83 true [] [(1260, 0)] [] trivial ?_
   refine At.z 1 ?_
   exact AW.ret (rf (k1 (K_spec_RaftBeat _ r) (show (sendAll r) = (beat r) from by simp [beat, *]) (KF.n [(1260, 0)])))
 refine AW.q 4 ?_
 refine AW.cE r.role (2 : Int) (fun h3 => ?_) (fun h3 => ?_)
 · refine AW.r ?_
   refine At.a 1 ?_
   refine At.c (spec_l10Asks_spec  r hz (by omega)) Tryz.call84 true [] [(1380, 0)] [] trivial ?_
   refine At.z 1 ?_
   exact AW.ret (rf (k1 (K_spec_RaftBeat _ r) (show (asks r) = (beat r) from by simp [beat, *]) (KF.n [(1380, 0)])))
 refine AW.skip ?_
 refine AW.r ?_
 refine At.lit0 (t := 38) (d := 20) (e := 51) (es := 17) (bytes := 168) 120 (by kernel_rfl) (by kernel_rfl) (by kernel_rfl) (by kernel_rfl) ?_
 refine At.z 1 ?_
 exact AW.ret (rf (k1 (K_spec_RaftBeat _ r) (show ([]) = (beat r) from by simp [beat, *]) (KF.n [(120, 0)])))
theorem spec_l8Has_spec  (kind : Int) : FnSpec Tryz.prog 171 [.int .i64 kind] [] (.str (l8F kind)) [] := by
 refine FnSpec.of 10 Tryz.func171 rfl Tryz.ntmps171 (by simp) (AW.weakK ?_)
 refine AW.q 1 ?_
 refine AW.seq ?_
 refine AW.r ?_
 refine At.a 1 ?_
 refine At.c (spec_l1In_spec  kind 1 7 ) Tryz.call63 true [] [] [] trivial ?_
 refine At.z 1 ?_
 refine AW.cNB (inR kind 1 7) (fun h1 => ?_) (fun h1 => ?_)
 · refine AW.q 1 ?_
   refine AW.ret ?_
   refine ⟨_, Sub.refl _ _, ?_⟩
   refine KF.conv (fun w => .str w) (fun w => []) (show ((⟨#[]⟩ : ByteArray)) = (l8F kind) from by simp [l8F, h1]; done) ?_
   exact KF.n []
 have h1i := inR_iff.1 h1
 refine AW.skip ?_
 refine AW.r ?_
 refine At.ll 6 9 1 106 (45, 6) (([(⟨#[]⟩ : ByteArray), (⟨#[102, 116, 97, 115]⟩ : ByteArray), (⟨#[102, 116, 121]⟩ : ByteArray), (⟨#[102, 116, 97, 115, 99, 101]⟩ : ByteArray), (⟨#[102, 116, 121, 97]⟩ : ByteArray), (⟨#[102, 114, 112]⟩ : ByteArray), (⟨#[102, 114, 112, 98]⟩ : ByteArray), (⟨#[102, 100]⟩ : ByteArray)]).map encS) ?_
 refine At.a 1 ?_
 refine At.iRf 183 8 (.tmp 6) (.tmp 7) 106 (([(⟨#[]⟩ : ByteArray), (⟨#[102, 116, 97, 115]⟩ : ByteArray), (⟨#[102, 116, 121]⟩ : ByteArray), (⟨#[102, 116, 97, 115, 99, 101]⟩ : ByteArray), (⟨#[102, 116, 121, 97]⟩ : ByteArray), (⟨#[102, 114, 112]⟩ : ByteArray), (⟨#[102, 114, 112, 98]⟩ : ByteArray), (⟨#[102, 100]⟩ : ByteArray)]).map encS) .i64 kind 9 1 (by omega) (by simp only [List.length_map, List.length_append, List.length_take, List.length_drop, List.length_replicate, List.length_set, List.length_cons, List.length_nil]; omega) ?_
 refine Exists.elim (gE ([(⟨#[]⟩ : ByteArray), (⟨#[102, 116, 97, 115]⟩ : ByteArray), (⟨#[102, 116, 121]⟩ : ByteArray), (⟨#[102, 116, 97, 115, 99, 101]⟩ : ByteArray), (⟨#[102, 116, 121, 97]⟩ : ByteArray), (⟨#[102, 114, 112]⟩ : ByteArray), (⟨#[102, 114, 112, 98]⟩ : ByteArray), (⟨#[102, 100]⟩ : ByteArray)]) ((kind).toNat) (by simp only [List.length_map, List.length_append, List.length_take, List.length_drop, List.length_replicate, List.length_set, List.length_cons, List.length_nil]; omega)) fun e1 he1 => ?_
 refine At.lEl 9 9 (.tmp 8) 106 9 1 (([(⟨#[]⟩ : ByteArray), (⟨#[102, 116, 97, 115]⟩ : ByteArray), (⟨#[102, 116, 121]⟩ : ByteArray), (⟨#[102, 116, 97, 115, 99, 101]⟩ : ByteArray), (⟨#[102, 116, 121, 97]⟩ : ByteArray), (⟨#[102, 114, 112]⟩ : ByteArray), (⟨#[102, 114, 112, 98]⟩ : ByteArray), (⟨#[102, 100]⟩ : ByteArray)]).map encS) ((kind).toNat) 0 false 1 (encS e1) (.str e1) (mapGet he1) ?_
 refine At.z 1 ?_
 refine AW.ret ?_
 refine ⟨_, Sub.refl _ _, ?_⟩
 refine KF.conv (fun w => .str w) (fun w => []) (show (e1) = (l8F kind) from by rw [l8F, if_pos (by assumption)]; simp only [l8L, he1, Option.getD_some]) ?_
 exact KF.n []
theorem spec_l8In_spec  (s : ByteArray) (b : UInt8) (hs : s.size ≤ 1048576) : FnSpec Tryz.prog 179 [.str s, .int .u8 (b.toNat : Int)] [] (.bool (hasU (b.toNat : Int) s.data.toList)) [] := by
 refine FnSpec.of 17 Tryz.func179 rfl Tryz.ntmps179 (by simp) (AW.weakK ?_)
 refine AW.q 1 ?_
 refine AW.seq ?_
 refine AW.q 1 ?_
 refine AW.block ?_
 refine AW.loopW (fun (k : Nat) => Go.Sy.mk [.str s, .int .u8 (b.toNat : Int), .un, .un, .un, .int .i64 (k : Int)] []) (fun (k : Nat) => k ≤ s.size ∧ hasU (b.toNat : Int) s.data.toList = hasU (b.toNat : Int) (s.data.toList.drop k)) (fun (k : Nat) => s.size - k) 0 ⟨by omega, by rw [List.drop_zero]⟩ (Sub.o [] [true, true, false, false, false, true]) ?_
 rintro k ⟨hk, hR⟩
 refine AW.seq ?_
 refine AW.q 4 ?_
 refine AW.cD ((k : Int) < (s.size : Int)) (fun h1 => ?_) (fun h1 => ?_)
 · refine AW.skip ?_
   refine AW.seq ?_
   refine AW.block ?_
   refine AW.r ?_
   refine At.a 2 ?_
   refine Exists.elim (show ∃ e, s.data[k]? = some e from ⟨_, Array.getElem?_eq_getElem (by show _ < s.size; omega)⟩) fun e1 he1 => ?_
   have hl1 : s.data.toList[k]? = some e1 := by simpa using he1
   refine At.idxStr (t := 9) (d := 14) (x := .tmp 12) (y := .tmp 13) (s := s) (kd := .i64) (i := (k : Int)) e1 (by kernel_rfl) (by kernel_rfl) (by kernel_rfl) (by kernel_rfl) (by omega) he1 ?_
   refine At.z 2 ?_
   refine AW.cE (e1.toNat : Int) (b.toNat : Int) (fun h2 => ?_) (fun h2 => ?_)
   · refine AW.q 1 ?_
     refine AW.ret ?_
     refine ⟨_, Sub.refl _ _, ?_⟩
     refine KF.conv (fun w => .bool w) (fun w => []) (show (true) = (hasU (b.toNat : Int) s.data.toList) from by rw [hR, dropCons hl1]; simp [hasU, h1, h2]) ?_
     exact KF.n []
   refine AW.skip ?_
   refine AW.g ?_
   refine At.a 2 ?_
   refine At.sI 11 ((k : Int) + 1) (by omega) ?_
   refine At.z 1 ?_
   exact ⟨k + 1, ⟨by omega, by rw [hR, dropCons hl1]; simp [hasU, h1, h2]⟩, (by omega), Sub.o [] [true, true, false, false, false, true]⟩
 refine AW.exit ?_
 refine AW.q 1 ?_
 refine AW.ret ?_
 refine ⟨_, Sub.refl _ _, ?_⟩
 refine KF.conv (fun w => .bool w) (fun w => []) (show (false) = (hasU (b.toNat : Int) s.data.toList) from by rw [hR, List.drop_of_length_le (by rw [Array.length_toList]; show s.size ≤ _; omega)]; rfl) ?_
 exact KF.n []
theorem spec_l8Num_spec  (has : Bool) (x : Int) (lo : Int) (hi : Int) : FnSpec Tryz.prog 178 [.bool has, .int .i64 x, .int .i64 lo, .int .i64 hi] [] (.bool (num8 has x lo hi)) [] := by
 refine FnSpec.of 24 Tryz.func178 rfl Tryz.ntmps178 (by simp) (AW.weakK ?_)
 refine AW.q 1 ?_
 refine AW.r ?_
 refine At.a 2 ?_
 by_cases h1 : has = true
 · refine At.sB 10 has true (sayB h1) ?_
   refine At.a 3 ?_
   refine At.c (spec_l1In_spec  x lo hi ) Tryz.call63 true [] [] [] trivial ?_
   refine At.a 2 ?_
   by_cases h2 : (inR x lo hi) = true
   · refine At.sB 16 (inR x lo hi) true (sayB h2) ?_
     have h2i := inR_iff.1 h2
     refine At.z 8 ?_
     refine AW.ret ?_
     refine ⟨_, Sub.refl _ _, ?_⟩
     refine KF.conv (fun w => .bool w) (fun w => []) (show (true) = (num8 has x lo hi) from by grind [num8]) ?_
     exact KF.n []
   refine At.sB 16 (inR x lo hi) false (sayB (Bool.eq_false_iff.2 h2)) ?_
   replace h2 := Bool.eq_false_iff.2 h2
   refine At.a 3 ?_
   refine At.sB 19 (!has) false (sayNF (sayB h1)) ?_
   refine At.z 5 ?_
   refine AW.ret ?_
   refine ⟨_, Sub.refl _ _, ?_⟩
   refine KF.conv (fun w => .bool w) (fun w => []) (show (false) = (num8 has x lo hi) from by grind [num8]) ?_
   exact KF.n []
 refine At.sB 10 has false (sayB (Bool.eq_false_iff.2 h1)) ?_
 replace h1 := Bool.eq_false_iff.2 h1
 refine At.a 9 ?_
 refine At.sB 19 (!has) true (sayNT (sayB h1)) ?_
 refine At.z 5 ?_
 refine AW.ret ?_
 refine ⟨_, Sub.refl _ _, ?_⟩
 refine KF.conv (fun w => .bool w) (fun w => []) (show (x == 0) = (num8 has x lo hi) from by grind [num8]) ?_
 exact KF.n []
theorem spec_MsgFits_spec  (m : Msg) (hl : m.entries.length ≤ 1048576) : FnSpec Tryz.prog 163 [(msgA m)] [] (.bool (msgFits m)) [] := by
 refine FnSpec.of 132 Tryz.func163 rfl Tryz.ntmps163 (by simp) (AW.weakK ?_)
 refine AW.q 2 ?_
 refine AW.r ?_
 refine At.a 2 ?_
 refine At.c (spec_l8Has_spec  m.kind ) Tryz.call171 true [] [] [] trivial ?_
 refine At.z 1 ?_
 refine AW.seq ?_
 refine AW.seq ?_
 refine AW.cut [(101, 101)] [false, true, false, true] 50 (!(fits1 m)) ?_ ?_
 · refine AW.gD Tryz_mix ?_
   refine At.a 3 ?_
   by_cases h1 : (l8F m.kind).toList = (⟨#[]⟩ : ByteArray).toList
   · refine At.sB 11 _ _ (sayET h1) ?_
     refine At.a 39 ?_
     refine At.sB 50 true (!(fits1 m)) (congrArg V.bool (by simp only [noBytes] at *; grind [fits1, hasF])) ?_
     refine At.done rfl ⟨by kernel_rfl, rfl, ?_⟩
     exact Sub.cut [(101, 101)] [false, true, false, true] 50 _ (by kernel_rfl) (by kernel_rfl) (by kernel_rfl) (by kernel_rfl)
   refine At.sB 11 _ _ (sayEF h1) ?_
   refine At.a 1 ?_
   refine At.c (spec_l8In_spec  (l8F m.kind) (102 : UInt8) (l8F_small _)) Tryz.call179 true [] [] [] trivial ?_
   refine At.a 2 ?_
   refine At.c (spec_l8Num_spec  (hasU ((102 : UInt8).toNat : Int) (l8F m.kind).data.toList) m.from_ 0 4 ) Tryz.call178 true [] [] [] trivial ?_
   refine At.a 3 ?_
   by_cases h2 : (num8 (hasU ((102 : UInt8).toNat : Int) (l8F m.kind).data.toList) m.from_ 0 4) = true
   · refine At.sB 19 (!(num8 (hasU ((102 : UInt8).toNat : Int) (l8F m.kind).data.toList) m.from_ 0 4)) false (sayNF (sayB h2)) ?_
     refine At.a 1 ?_
     refine At.c (spec_l8In_spec  (l8F m.kind) (116 : UInt8) (l8F_small _)) Tryz.call179 true [] [] [] trivial ?_
     refine At.a 2 ?_
     refine At.c (spec_l8Num_spec  (hasU ((116 : UInt8).toNat : Int) (l8F m.kind).data.toList) m.term 0 1000000000 ) Tryz.call178 true [] [] [] trivial ?_
     refine At.a 3 ?_
     by_cases h3 : (num8 (hasU ((116 : UInt8).toNat : Int) (l8F m.kind).data.toList) m.term 0 1000000000) = true
     · refine At.sB 27 (!(num8 (hasU ((116 : UInt8).toNat : Int) (l8F m.kind).data.toList) m.term 0 1000000000)) false (sayNF (sayB h3)) ?_
       refine At.a 1 ?_
       refine At.c (spec_l8In_spec  (l8F m.kind) (97 : UInt8) (l8F_small _)) Tryz.call179 true [] [] [] trivial ?_
       refine At.a 2 ?_
       refine At.c (spec_l8Num_spec  (hasU ((97 : UInt8).toNat : Int) (l8F m.kind).data.toList) m.at_ 0 80 ) Tryz.call178 true [] [] [] trivial ?_
       refine At.a 3 ?_
       by_cases h4 : (num8 (hasU ((97 : UInt8).toNat : Int) (l8F m.kind).data.toList) m.at_ 0 80) = true
       · refine At.sB 35 (!(num8 (hasU ((97 : UInt8).toNat : Int) (l8F m.kind).data.toList) m.at_ 0 80)) false (sayNF (sayB h4)) ?_
         refine At.a 1 ?_
         refine At.c (spec_l8In_spec  (l8F m.kind) (115 : UInt8) (l8F_small _)) Tryz.call179 true [] [] [] trivial ?_
         refine At.a 2 ?_
         refine At.c (spec_l8Num_spec  (hasU ((115 : UInt8).toNat : Int) (l8F m.kind).data.toList) m.atTerm 0 1000000000 ) Tryz.call178 true [] [] [] trivial ?_
         refine At.a 3 ?_
         by_cases h5 : (num8 (hasU ((115 : UInt8).toNat : Int) (l8F m.kind).data.toList) m.atTerm 0 1000000000) = true
         · refine At.sB 43 (!(num8 (hasU ((115 : UInt8).toNat : Int) (l8F m.kind).data.toList) m.atTerm 0 1000000000)) false (sayNF (sayB h5)) ?_
           refine At.a 1 ?_
           refine At.c (spec_l8In_spec  (l8F m.kind) (99 : UInt8) (l8F_small _)) Tryz.call179 true [] [] [] trivial ?_
           refine At.a 2 ?_
           refine At.c (spec_l8Num_spec  (hasU ((99 : UInt8).toNat : Int) (l8F m.kind).data.toList) m.commit 0 80 ) Tryz.call178 true [] [] [] trivial ?_
           refine At.a 2 ?_
           refine At.sB 50 (!(num8 (hasU ((99 : UInt8).toNat : Int) (l8F m.kind).data.toList) m.commit 0 80)) (!(fits1 m)) (congrArg V.bool (by simp only [noBytes] at *; grind [fits1, hasF])) ?_
           refine At.done rfl ⟨by kernel_rfl, rfl, ?_⟩
           exact Sub.cut [(101, 101)] [false, true, false, true] 50 _ (by kernel_rfl) (by kernel_rfl) (by kernel_rfl) (by kernel_rfl)
         refine At.sB 43 (!(num8 (hasU ((115 : UInt8).toNat : Int) (l8F m.kind).data.toList) m.atTerm 0 1000000000)) true (sayNT (sayB (Bool.eq_false_iff.2 h5))) ?_
         replace h5 := Bool.eq_false_iff.2 h5
         refine At.a 7 ?_
         refine At.sB 50 true (!(fits1 m)) (congrArg V.bool (by simp only [noBytes] at *; grind [fits1, hasF])) ?_
         refine At.done rfl ⟨by kernel_rfl, rfl, ?_⟩
         exact Sub.cut [(101, 101)] [false, true, false, true] 50 _ (by kernel_rfl) (by kernel_rfl) (by kernel_rfl) (by kernel_rfl)
       refine At.sB 35 (!(num8 (hasU ((97 : UInt8).toNat : Int) (l8F m.kind).data.toList) m.at_ 0 80)) true (sayNT (sayB (Bool.eq_false_iff.2 h4))) ?_
       replace h4 := Bool.eq_false_iff.2 h4
       refine At.a 15 ?_
       refine At.sB 50 true (!(fits1 m)) (congrArg V.bool (by simp only [noBytes] at *; grind [fits1, hasF])) ?_
       refine At.done rfl ⟨by kernel_rfl, rfl, ?_⟩
       exact Sub.cut [(101, 101)] [false, true, false, true] 50 _ (by kernel_rfl) (by kernel_rfl) (by kernel_rfl) (by kernel_rfl)
     refine At.sB 27 (!(num8 (hasU ((116 : UInt8).toNat : Int) (l8F m.kind).data.toList) m.term 0 1000000000)) true (sayNT (sayB (Bool.eq_false_iff.2 h3))) ?_
     replace h3 := Bool.eq_false_iff.2 h3
     refine At.a 23 ?_
     refine At.sB 50 true (!(fits1 m)) (congrArg V.bool (by simp only [noBytes] at *; grind [fits1, hasF])) ?_
     refine At.done rfl ⟨by kernel_rfl, rfl, ?_⟩
     exact Sub.cut [(101, 101)] [false, true, false, true] 50 _ (by kernel_rfl) (by kernel_rfl) (by kernel_rfl) (by kernel_rfl)
   refine At.sB 19 (!(num8 (hasU ((102 : UInt8).toNat : Int) (l8F m.kind).data.toList) m.from_ 0 4)) true (sayNT (sayB (Bool.eq_false_iff.2 h2))) ?_
   replace h2 := Bool.eq_false_iff.2 h2
   refine At.a 31 ?_
   refine At.sB 50 true (!(fits1 m)) (congrArg V.bool (by simp only [noBytes] at *; grind [fits1, hasF])) ?_
   refine At.done rfl ⟨by kernel_rfl, rfl, ?_⟩
   exact Sub.cut [(101, 101)] [false, true, false, true] 50 _ (by kernel_rfl) (by kernel_rfl) (by kernel_rfl) (by kernel_rfl)
 refine AW.cNB (fits1 m) (fun h6 => ?_) (fun h6 => ?_)
 · refine AW.q 1 ?_
   refine AW.ret ?_
   refine ⟨_, Sub.refl _ _, ?_⟩
   refine KF.conv (fun w => .bool w) (fun w => []) (show (false) = (msgFits m) from by grind [msgFits]) ?_
   exact KF.n []
 refine AW.skip ?_
 refine AW.seq ?_
 refine AW.seq ?_
 refine AW.cut [(101, 101)] [false, true, false, true] 97 (!(fits2 m)) ?_ ?_
 · refine AW.gD Tryz_mix ?_
   refine At.a 1 ?_
   refine At.c (spec_l8In_spec  (l8F m.kind) (114 : UInt8) (l8F_small _)) Tryz.call179 true [] [] [] trivial ?_
   refine At.a 2 ?_
   refine At.c (spec_l8Num_spec  (hasU ((114 : UInt8).toNat : Int) (l8F m.kind).data.toList) m.release 1 1000 ) Tryz.call178 true [] [] [] trivial ?_
   refine At.a 2 ?_
   by_cases h7 : (num8 (hasU ((114 : UInt8).toNat : Int) (l8F m.kind).data.toList) m.release 1 1000) = true
   · refine At.sB 57 (!(num8 (hasU ((114 : UInt8).toNat : Int) (l8F m.kind).data.toList) m.release 1 1000)) false (sayNF (sayB h7)) ?_
     refine At.a 1 ?_
     refine At.c (spec_l8In_spec  (l8F m.kind) (112 : UInt8) (l8F_small _)) Tryz.call179 true [] [] [] trivial ?_
     refine At.a 2 ?_
     refine At.c (spec_l8Num_spec  (hasU ((112 : UInt8).toNat : Int) (l8F m.kind).data.toList) m.part 0 1000 ) Tryz.call178 true [] [] [] trivial ?_
     refine At.a 3 ?_
     by_cases h8 : (num8 (hasU ((112 : UInt8).toNat : Int) (l8F m.kind).data.toList) m.part 0 1000) = true
     · refine At.sB 65 (!(num8 (hasU ((112 : UInt8).toNat : Int) (l8F m.kind).data.toList) m.part 0 1000)) false (sayNF (sayB h8)) ?_
       refine At.a 3 ?_
       by_cases h9 : m.yes = true
       · refine At.sB 68 m.yes true (sayB h9) ?_
         refine At.a 1 ?_
         refine At.c (spec_l8In_spec  (l8F m.kind) (121 : UInt8) (l8F_small _)) Tryz.call179 true [] [] [] trivial ?_
         refine At.a 4 ?_
         by_cases h10 : (hasU ((121 : UInt8).toNat : Int) (l8F m.kind).data.toList) = true
         · refine At.sB 74 (!(hasU ((121 : UInt8).toNat : Int) (l8F m.kind).data.toList)) false (sayNF (sayB h10)) ?_
           refine At.a 1 ?_
           refine At.c (spec_l8In_spec  (l8F m.kind) (98 : UInt8) (l8F_small _)) Tryz.call179 true [] [] [] trivial ?_
           refine At.a 3 ?_
           refine At.c (spec_l8Num_spec  (hasU ((98 : UInt8).toNat : Int) (l8F m.kind).data.toList) (m.bytes.size : Int) 1 16 ) Tryz.call178 true [] [] [] trivial ?_
           refine At.a 3 ?_
           by_cases h11 : (num8 (hasU ((98 : UInt8).toNat : Int) (l8F m.kind).data.toList) (m.bytes.size : Int) 1 16) = true
           · refine At.sB 83 (!(num8 (hasU ((98 : UInt8).toNat : Int) (l8F m.kind).data.toList) (m.bytes.size : Int) 1 16)) false (sayNF (sayB h11)) ?_
             refine At.a 1 ?_
             refine At.c (spec_l8In_spec  (l8F m.kind) (101 : UInt8) (l8F_small _)) Tryz.call179 true [] [] [] trivial ?_
             refine At.a 1 ?_
             by_cases h12 : (hasU ((101 : UInt8).toNat : Int) (l8F m.kind).data.toList) = true
             · refine At.sB 86 (hasU ((101 : UInt8).toNat : Int) (l8F m.kind).data.toList) true (sayB h12) ?_
               refine At.a 8 ?_
               refine At.sL 94 encEnt m.entries ?_
               refine At.c (spec_l8Num_spec  true (m.entries.length : Int) 0 6 ) Tryz.call178 true [] [] [] trivial ?_
               refine At.a 2 ?_
               refine At.sB 97 (!(num8 true (m.entries.length : Int) 0 6)) (!(fits2 m)) (congrArg V.bool (by grind [fits2, hasF])) ?_
               refine At.done rfl ⟨by kernel_rfl, rfl, ?_⟩
               exact Sub.cut [(101, 101)] [false, true, false, true] 97 _ (by kernel_rfl) (by kernel_rfl) (by kernel_rfl) (by kernel_rfl)
             refine At.sB 86 (hasU ((101 : UInt8).toNat : Int) (l8F m.kind).data.toList) false (sayB (Bool.eq_false_iff.2 h12)) ?_
             replace h12 := Bool.eq_false_iff.2 h12
             refine At.a 3 ?_
             refine At.sL 89 encEnt m.entries ?_
             refine At.a 5 ?_
             refine At.sL 94 encEnt m.entries ?_
             refine At.c (spec_l8Num_spec  ((m.entries.length : Int) == 0) (m.entries.length : Int) 0 6 ) Tryz.call178 true [] [] [] trivial ?_
             refine At.a 2 ?_
             refine At.sB 97 (!(num8 ((m.entries.length : Int) == 0) (m.entries.length : Int) 0 6)) (!(fits2 m)) (congrArg V.bool (by grind [fits2, hasF])) ?_
             refine At.done rfl ⟨by kernel_rfl, rfl, ?_⟩
             exact Sub.cut [(101, 101)] [false, true, false, true] 97 _ (by kernel_rfl) (by kernel_rfl) (by kernel_rfl) (by kernel_rfl)
           refine At.sB 83 (!(num8 (hasU ((98 : UInt8).toNat : Int) (l8F m.kind).data.toList) (m.bytes.size : Int) 1 16)) true (sayNT (sayB (Bool.eq_false_iff.2 h11))) ?_
           replace h11 := Bool.eq_false_iff.2 h11
           refine At.a 14 ?_
           refine At.sB 97 true (!(fits2 m)) (congrArg V.bool (by grind [fits2, hasF])) ?_
           refine At.done rfl ⟨by kernel_rfl, rfl, ?_⟩
           exact Sub.cut [(101, 101)] [false, true, false, true] 97 _ (by kernel_rfl) (by kernel_rfl) (by kernel_rfl) (by kernel_rfl)
         refine At.sB 74 (!(hasU ((121 : UInt8).toNat : Int) (l8F m.kind).data.toList)) true (sayNT (sayB (Bool.eq_false_iff.2 h10))) ?_
         replace h10 := Bool.eq_false_iff.2 h10
         refine At.a 23 ?_
         refine At.sB 97 true (!(fits2 m)) (congrArg V.bool (by grind [fits2, hasF])) ?_
         refine At.done rfl ⟨by kernel_rfl, rfl, ?_⟩
         exact Sub.cut [(101, 101)] [false, true, false, true] 97 _ (by kernel_rfl) (by kernel_rfl) (by kernel_rfl) (by kernel_rfl)
       refine At.sB 68 m.yes false (sayB (Bool.eq_false_iff.2 h9)) ?_
       replace h9 := Bool.eq_false_iff.2 h9
       refine At.a 7 ?_
       refine At.c (spec_l8In_spec  (l8F m.kind) (98 : UInt8) (l8F_small _)) Tryz.call179 true [] [] [] trivial ?_
       refine At.a 3 ?_
       refine At.c (spec_l8Num_spec  (hasU ((98 : UInt8).toNat : Int) (l8F m.kind).data.toList) (m.bytes.size : Int) 1 16 ) Tryz.call178 true [] [] [] trivial ?_
       refine At.a 3 ?_
       by_cases h13 : (num8 (hasU ((98 : UInt8).toNat : Int) (l8F m.kind).data.toList) (m.bytes.size : Int) 1 16) = true
       · refine At.sB 83 (!(num8 (hasU ((98 : UInt8).toNat : Int) (l8F m.kind).data.toList) (m.bytes.size : Int) 1 16)) false (sayNF (sayB h13)) ?_
         refine At.a 1 ?_
         refine At.c (spec_l8In_spec  (l8F m.kind) (101 : UInt8) (l8F_small _)) Tryz.call179 true [] [] [] trivial ?_
         refine At.a 1 ?_
         by_cases h14 : (hasU ((101 : UInt8).toNat : Int) (l8F m.kind).data.toList) = true
         · refine At.sB 86 (hasU ((101 : UInt8).toNat : Int) (l8F m.kind).data.toList) true (sayB h14) ?_
           refine At.a 8 ?_
           refine At.sL 94 encEnt m.entries ?_
           refine At.c (spec_l8Num_spec  true (m.entries.length : Int) 0 6 ) Tryz.call178 true [] [] [] trivial ?_
           refine At.a 2 ?_
           refine At.sB 97 (!(num8 true (m.entries.length : Int) 0 6)) (!(fits2 m)) (congrArg V.bool (by grind [fits2, hasF])) ?_
           refine At.done rfl ⟨by kernel_rfl, rfl, ?_⟩
           exact Sub.cut [(101, 101)] [false, true, false, true] 97 _ (by kernel_rfl) (by kernel_rfl) (by kernel_rfl) (by kernel_rfl)
         refine At.sB 86 (hasU ((101 : UInt8).toNat : Int) (l8F m.kind).data.toList) false (sayB (Bool.eq_false_iff.2 h14)) ?_
         replace h14 := Bool.eq_false_iff.2 h14
         refine At.a 3 ?_
         refine At.sL 89 encEnt m.entries ?_
         refine At.a 5 ?_
         refine At.sL 94 encEnt m.entries ?_
         refine At.c (spec_l8Num_spec  ((m.entries.length : Int) == 0) (m.entries.length : Int) 0 6 ) Tryz.call178 true [] [] [] trivial ?_
         refine At.a 2 ?_
         refine At.sB 97 (!(num8 ((m.entries.length : Int) == 0) (m.entries.length : Int) 0 6)) (!(fits2 m)) (congrArg V.bool (by grind [fits2, hasF])) ?_
         refine At.done rfl ⟨by kernel_rfl, rfl, ?_⟩
         exact Sub.cut [(101, 101)] [false, true, false, true] 97 _ (by kernel_rfl) (by kernel_rfl) (by kernel_rfl) (by kernel_rfl)
       refine At.sB 83 (!(num8 (hasU ((98 : UInt8).toNat : Int) (l8F m.kind).data.toList) (m.bytes.size : Int) 1 16)) true (sayNT (sayB (Bool.eq_false_iff.2 h13))) ?_
       replace h13 := Bool.eq_false_iff.2 h13
       refine At.a 14 ?_
       refine At.sB 97 true (!(fits2 m)) (congrArg V.bool (by grind [fits2, hasF])) ?_
       refine At.done rfl ⟨by kernel_rfl, rfl, ?_⟩
       exact Sub.cut [(101, 101)] [false, true, false, true] 97 _ (by kernel_rfl) (by kernel_rfl) (by kernel_rfl) (by kernel_rfl)
     refine At.sB 65 (!(num8 (hasU ((112 : UInt8).toNat : Int) (l8F m.kind).data.toList) m.part 0 1000)) true (sayNT (sayB (Bool.eq_false_iff.2 h8))) ?_
     replace h8 := Bool.eq_false_iff.2 h8
     refine At.a 32 ?_
     refine At.sB 97 true (!(fits2 m)) (congrArg V.bool (by grind [fits2, hasF])) ?_
     refine At.done rfl ⟨by kernel_rfl, rfl, ?_⟩
     exact Sub.cut [(101, 101)] [false, true, false, true] 97 _ (by kernel_rfl) (by kernel_rfl) (by kernel_rfl) (by kernel_rfl)
   refine At.sB 57 (!(num8 (hasU ((114 : UInt8).toNat : Int) (l8F m.kind).data.toList) m.release 1 1000)) true (sayNT (sayB (Bool.eq_false_iff.2 h7))) ?_
   replace h7 := Bool.eq_false_iff.2 h7
   refine At.a 40 ?_
   refine At.sB 97 true (!(fits2 m)) (congrArg V.bool (by grind [fits2, hasF])) ?_
   refine At.done rfl ⟨by kernel_rfl, rfl, ?_⟩
   exact Sub.cut [(101, 101)] [false, true, false, true] 97 _ (by kernel_rfl) (by kernel_rfl) (by kernel_rfl) (by kernel_rfl)
 refine AW.cNB (fits2 m) (fun h15 => ?_) (fun h15 => ?_)
 · refine AW.q 1 ?_
   refine AW.ret ?_
   refine ⟨_, Sub.refl _ _, ?_⟩
   refine KF.conv (fun w => .bool w) (fun w => []) (show (false) = (msgFits m) from by grind [msgFits]) ?_
   exact KF.n []
 refine AW.skip ?_
 refine AW.q 3 ?_
 refine AW.seq ?_
 refine AW.seq ?_
 refine AW.cut [(101, 101), (104, 104)] [false, true] 117 (!(fits3 m)) ?_ ?_
 · refine AW.g ?_
   refine At.a 1 ?_
   refine At.c (spec_l8In_spec  (l8F m.kind) (100 : UInt8) (l8F_small _)) Tryz.call179 true [] [] [] trivial ?_
   refine At.a 1 ?_
   by_cases h16 : (hasU ((100 : UInt8).toNat : Int) (l8F m.kind).data.toList) = true
   · refine At.sB 101 (hasU ((100 : UInt8).toNat : Int) (l8F m.kind).data.toList) true (sayB h16) ?_
     refine At.a 2 ?_
     refine At.c (spec_CmdOk_spec  m.cmd ) Tryz.call104 true [] [] [] trivial ?_
     refine At.a 3 ?_
     by_cases h17 : (cmdOk m.cmd) = true
     · refine At.sB 107 (!(cmdOk m.cmd)) false (sayNF (sayB h17)) ?_
       refine At.a 1 ?_
       refine At.c (spec_l8In_spec  (l8F m.kind) (100 : UInt8) (l8F_small _)) Tryz.call179 true [] [] [] trivial ?_
       refine At.a 2 ?_
       refine At.sB 111 (!(hasU ((100 : UInt8).toNat : Int) (l8F m.kind).data.toList)) false (sayNF (sayB h16)) ?_
       refine At.a 6 ?_
       refine At.sB 117 false (!(fits3 m)) (congrArg V.bool (by grind [fits3, hasF, zCmd])) ?_
       refine At.done rfl ⟨rfl, ?_⟩
       exact Sub.cut [(101, 101), (104, 104)] [false, true] 117 _ (by kernel_rfl) (by kernel_rfl) (by kernel_rfl) (by kernel_rfl)
     refine At.sB 107 (!(cmdOk m.cmd)) true (sayNT (sayB (Bool.eq_false_iff.2 h17))) ?_
     replace h17 := Bool.eq_false_iff.2 h17
     refine At.a 10 ?_
     refine At.sB 117 true (!(fits3 m)) (congrArg V.bool (by grind [fits3, hasF, zCmd])) ?_
     refine At.done rfl ⟨rfl, ?_⟩
     exact Sub.cut [(101, 101), (104, 104)] [false, true] 117 _ (by kernel_rfl) (by kernel_rfl) (by kernel_rfl) (by kernel_rfl)
   refine At.sB 101 (hasU ((100 : UInt8).toNat : Int) (l8F m.kind).data.toList) false (sayB (Bool.eq_false_iff.2 h16)) ?_
   replace h16 := Bool.eq_false_iff.2 h16
   refine At.a 7 ?_
   refine At.c (spec_l8In_spec  (l8F m.kind) (100 : UInt8) (l8F_small _)) Tryz.call179 true [] [] [] trivial ?_
   refine At.a 2 ?_
   refine At.sB 111 (!(hasU ((100 : UInt8).toNat : Int) (l8F m.kind).data.toList)) true (sayNT (sayB h16)) ?_
   refine At.a 3 ?_
   refine At.eqA (t := 31) (u := 31) (d := 115) (op := .neq) (x := .tmp 113) (y := .tmp 114) (X := [.int .i64 m.cmd.kind, .int .i64 m.cmd.release, .int .i64 m.cmd.node, .int .i64 m.cmd.size, .str m.cmd.digest]) (Y := [.int .i64 0, .int .i64 0, .int .i64 0, .int .i64 0, .str (⟨#[]⟩ : ByteArray)]) (cmdEq m.cmd (⟨0, 0, 0, 0, (⟨#[]⟩ : ByteArray)⟩ : Cmd)) (by kernel_rfl) (by kernel_rfl) (by kernel_rfl) (by kernel_rfl) (by kernel_rfl) (.bool (!(cmdEq m.cmd (⟨0, 0, 0, 0, (⟨#[]⟩ : ByteArray)⟩ : Cmd)))) (.inr ⟨rfl, rfl⟩) ?_
   refine At.a 2 ?_
   refine At.sB 117 (!(cmdEq m.cmd (⟨0, 0, 0, 0, (⟨#[]⟩ : ByteArray)⟩ : Cmd))) (!(fits3 m)) (congrArg V.bool (by grind [fits3, hasF, zCmd])) ?_
   refine At.done rfl ⟨rfl, ?_⟩
   exact Sub.cut [(101, 101), (104, 104)] [false, true] 117 _ (by kernel_rfl) (by kernel_rfl) (by kernel_rfl) (by kernel_rfl)
 refine AW.cNB (fits3 m) (fun h20 => ?_) (fun h20 => ?_)
 · refine AW.q 1 ?_
   refine AW.ret ?_
   refine ⟨_, Sub.refl _ _, ?_⟩
   refine KF.conv (fun w => .bool w) (fun w => []) (show (false) = (msgFits m) from by grind [msgFits]) ?_
   exact KF.n []
 refine AW.skip ?_
 refine AW.seq ?_
 refine AW.q 1 ?_
 refine AW.block ?_
 refine AW.loopW (fun (k : Nat) => Go.Sy.mk [.un, .ptr 101 0 0, .un, .un, .un, .int .i64 (k : Int)] [(101, .box 33 [.int .i64 m.kind, .int .i64 m.from_, .int .i64 m.term, .int .i64 m.at_, .int .i64 m.atTerm, .int .i64 m.commit, .bool m.yes, .int .i64 m.release, .int .i64 m.part, .str m.bytes, .int .i64 m.cmd.kind, .int .i64 m.cmd.release, .int .i64 m.cmd.node, .int .i64 m.cmd.size, .str m.cmd.digest, .sl false 6 (m.entries.map encEnt)])]) (fun (k : Nat) => k ≤ m.entries.length ∧ entsOk m.entries = entsOk (m.entries.drop k)) (fun (k : Nat) => m.entries.length - k) 0 ⟨by omega, by rw [List.drop_zero]⟩ (Sub.o [(101, 101)] [false, true, false, false, false, true]) ?_
 rintro k ⟨hk, hR⟩
 refine AW.seq ?_
 refine AW.r ?_
 refine At.a 4 ?_
 refine At.sL 121 encEnt m.entries ?_
 refine At.z 1 ?_
 refine AW.cD ((k : Int) < (m.entries.length : Int)) (fun h21 => ?_) (fun h21 => ?_)
 · refine AW.skip ?_
   refine AW.seq ?_
   refine AW.block ?_
   refine AW.r ?_
   refine At.a 3 ?_
   refine At.iSl 24 128 (.tmp 126) (.tmp 127) false 6 (m.entries.map encEnt) .i64 (k : Int) 45 (by omega) (by simp only [List.length_map]; omega) ?_
   refine Exists.elim (gE m.entries k (by omega)) fun e1 he1 => ?_
   refine At.lVp 45 129 (.tmp 128) false 6 (m.entries.map encEnt) k 0 true 6 (encEnt e1) (.agg [.int .i64 e1.term, .int .i64 e1.cmd.kind, .int .i64 e1.cmd.release, .int .i64 e1.cmd.node, .int .i64 e1.cmd.size, .str e1.cmd.digest]) (mapGet he1) ?_
   refine At.c (spec_l6Entry_spec  e1 ) Tryz.call149 true [] [] [] trivial ?_
   refine At.z 1 ?_
   refine AW.cNB (entOk e1) (fun h22 => ?_) (fun h22 => ?_)
   · refine AW.q 1 ?_
     refine AW.ret ?_
     refine ⟨_, Sub.refl _ _, ?_⟩
     refine KF.conv (fun w => .bool w) (fun w => []) (show (false) = (msgFits m) from by rw [dropCons he1] at hR; grind [msgFits, entsOk]) ?_
     exact KF.n []
   have h22n := entOk_nums h22
   refine AW.skip ?_
   refine AW.g ?_
   refine At.a 2 ?_
   refine At.sI 124 ((k : Int) + 1) (by omega) ?_
   refine At.z 1 ?_
   exact ⟨k + 1, ⟨by omega, by rw [hR, dropCons he1, entsOk]; simp only [*, Bool.true_and]⟩, (by omega), Sub.o [(101, 101)] [false, true, false, false, false, true]⟩
 refine AW.exit ?_
 refine AW.q 1 ?_
 refine AW.ret ?_
 refine ⟨_, Sub.refl _ _, ?_⟩
 refine KF.conv (fun w => .bool w) (fun w => []) (show (true) = (msgFits m) from by rw [List.drop_of_length_le (by omega)] at hR; grind [msgFits, entsOk]) ?_
 exact KF.n []
theorem spec_l10Hears_spec  (r : Raft) (m : Msg) (kind : Int) (hz : SmallR r) (hm : m.entries.length ≤ 1048576) : FnSpec Tryz.prog 108 [(raftA r), (msgA m), .int .i64 kind] [] (.bool (hears r m kind)) [] := by
 obtain ⟨z1, z2, z3, z4⟩ := id hz
 refine FnSpec.of 33 Tryz.func108 rfl Tryz.ntmps108 (by simp) (AW.weakK ?_)
 refine AW.q 3 ?_
 refine AW.r ?_
 refine At.a 1 ?_
 refine At.c (spec_RaftOk_spec  r hz) Tryz.call18 true [] [] [] trivial ?_
 refine At.a 1 ?_
 by_cases h1 : (raftOk r) = true
 · refine At.sB 9 (raftOk r) true (sayB h1) ?_
   have h1n := raftOk1_nums (raftOk_1 h1)
   refine At.a 1 ?_
   refine At.c (spec_MsgFits_spec  m hm) Tryz.call163 true [] [] [] trivial ?_
   refine At.a 2 ?_
   by_cases h2 : (msgFits m) = true
   · refine At.sB 13 (msgFits m) true (sayB h2) ?_
     refine At.a 6 ?_
     by_cases h3 : m.kind = kind
     · refine At.sB 19 _ _ (sayET h3) ?_
       refine At.a 7 ?_
       by_cases h4 : m.from_ < r.of_
       · refine At.sB 26 _ _ (sayT h4) ?_
         refine At.z 7 ?_
         refine AW.ret ?_
         refine ⟨_, Sub.refl _ _, ?_⟩
         refine KF.conv (fun w => .bool w) (fun w => []) (show (m.from_ != r.id) = (hears r m kind) from by grind [hears]) ?_
         exact KF.n []
       refine At.sB 26 _ _ (sayF h4) ?_
       refine At.z 7 ?_
       refine AW.ret ?_
       refine ⟨_, Sub.refl _ _, ?_⟩
       refine KF.conv (fun w => .bool w) (fun w => []) (show (false) = (hears r m kind) from by grind [hears]) ?_
       exact KF.n []
     refine At.sB 19 _ _ (sayEF h3) ?_
     refine At.z 14 ?_
     refine AW.ret ?_
     refine ⟨_, Sub.refl _ _, ?_⟩
     refine KF.conv (fun w => .bool w) (fun w => []) (show (false) = (hears r m kind) from by grind [hears]) ?_
     exact KF.n []
   refine At.sB 13 (msgFits m) false (sayB (Bool.eq_false_iff.2 h2)) ?_
   replace h2 := Bool.eq_false_iff.2 h2
   refine At.z 20 ?_
   refine AW.ret ?_
   refine ⟨_, Sub.refl _ _, ?_⟩
   refine KF.conv (fun w => .bool w) (fun w => []) (show (false) = (hears r m kind) from by grind [hears]) ?_
   exact KF.n []
 refine At.sB 9 (raftOk r) false (sayB (Bool.eq_false_iff.2 h1)) ?_
 replace h1 := Bool.eq_false_iff.2 h1
 refine At.z 24 ?_
 refine AW.ret ?_
 refine ⟨_, Sub.refl _ _, ?_⟩
 refine KF.conv (fun w => .bool w) (fun w => []) (show (false) = (hears r m kind) from by grind [hears]) ?_
 exact KF.n []
theorem spec_l10Rest_spec  (r : Raft) : FnSpec Tryz.prog 138 [.agg [.int .i64 r.id, .int .i64 r.of_, .int .i64 r.role, .int .i64 r.commit, .int .i64 r.hard.term, .int .i64 r.hard.vote, .ref 0, .ref 1, .ref 2, .ref 3]] [.arr 45 6 (r.hard.log.map encEnt), .arr 3 1 (r.yes.map encI), .arr 3 1 (r.next.map encI), .arr 3 1 (r.match_.map encI)] (.agg [.int .i64 r.id, .int .i64 r.of_, .int .i64 1, .int .i64 r.commit, .int .i64 r.hard.term, .int .i64 r.hard.vote, .ref 0, .ref 4, .ref 5, .ref 6]) [.arr 45 6 (r.hard.log.map encEnt), .arr 3 1 (r.yes.map encI), .arr 3 1 (r.next.map encI), .arr 3 1 (r.match_.map encI), .arr 3 1 [], .arr 3 1 [], .arr 3 1 []] := by
 refine FnSpec.of 8 Tryz.func138 rfl Tryz.ntmps138 (by simp) (AW.weakK ?_)
 refine AW.q 2 ?_
 refine AW.seq ?_
 refine AW.weak (Sub.nils [⟨true, 102, some 6, 5001, 45, 6⟩, ⟨true, 102, some 7, 5002, 3, 1⟩, ⟨true, 102, some 8, 5003, 3, 1⟩, ⟨true, 102, some 9, 5004, 3, 1⟩] (by kernel_rfl)) ?_
 refine AW.gq 2 ?_
 refine AW.q 2 ?_
 refine AW.seq ?_
 refine AW.weak (Sub.nils [⟨true, 101, some 7, 5005, 3, 1⟩] (by kernel_rfl)) ?_
 refine AW.gq 2 ?_
 refine AW.seq ?_
 refine AW.weak (Sub.nils [⟨true, 101, some 8, 5006, 3, 1⟩] (by kernel_rfl)) ?_
 refine AW.gq 2 ?_
 refine AW.seq ?_
 refine AW.weak (Sub.nils [⟨true, 101, some 9, 5007, 3, 1⟩] (by kernel_rfl)) ?_
 refine AW.gq 2 ?_
 refine AW.ret ?_
 refine ⟨_, Sub.refl _ _, ?_⟩
 refine KF.conv (fun w => .agg [.int .i64 w.id, .int .i64 w.of_, .int .i64 w.role, .int .i64 w.commit, .int .i64 w.hard.term, .int .i64 w.hard.vote, .ref 0, .ref 4, .ref 5, .ref 6]) (fun w => [.arr 45 6 (r.hard.log.map encEnt), .arr 3 1 (r.yes.map encI), .arr 3 1 (r.next.map encI), .arr 3 1 (r.match_.map encI), .arr 3 1 (w.yes.map encI), .arr 3 1 (w.next.map encI), .arr 3 1 (w.match_.map encI)]) (show ((⟨r.id, r.of_, 1, r.commit, r.hard, [], [], []⟩ : Raft)) = (({ r with role := 1, yes := [], next := [], match_ := [] } : Raft)) from by simp_all) ?_
 exact KF.n [(0, 0), (1, 1), (2, 2), (3, 3), (5005, 4), (5006, 5), (5007, 6)]
theorem spec_l10Follow_spec  (r : Raft) (t_ : Int) : FnSpec Tryz.prog 109 [.agg [.int .i64 r.id, .int .i64 r.of_, .int .i64 r.role, .int .i64 r.commit, .int .i64 r.hard.term, .int .i64 r.hard.vote, .ref 0, .ref 1, .ref 2, .ref 3], .int .i64 t_] [.arr 45 6 (r.hard.log.map encEnt), .arr 3 1 (r.yes.map encI), .arr 3 1 (r.next.map encI), .arr 3 1 (r.match_.map encI)] (.agg [.int .i64 r.id, .int .i64 r.of_, .int .i64 1, .int .i64 r.commit, .int .i64 t_, .int .i64 0, .ref 0, .ref 4, .ref 5, .ref 6]) [.arr 45 6 (r.hard.log.map encEnt), .arr 3 1 (r.yes.map encI), .arr 3 1 (r.next.map encI), .arr 3 1 (r.match_.map encI), .arr 3 1 [], .arr 3 1 [], .arr 3 1 []] := by
 refine FnSpec.of 13 Tryz.func109 rfl Tryz.ntmps109 (by simp) (AW.weakK ?_)
 refine AW.q 2 ?_
 refine AW.seq ?_
 refine AW.weak (Sub.nils [⟨true, 104, some 6, 5001, 45, 6⟩, ⟨true, 104, some 7, 5002, 3, 1⟩, ⟨true, 104, some 8, 5003, 3, 1⟩, ⟨true, 104, some 9, 5004, 3, 1⟩] (by kernel_rfl)) ?_
 refine AW.g ?_
 refine At.a 1 ?_
 refine At.c (spec_l10Rest_spec  r ) Tryz.call138 true [(0, 0), (1, 1), (2, 2), (3, 3)] [(1120, 4), (1121, 5), (1122, 6)] [] trivial ?_
 refine At.z 1 ?_
 refine AW.q 4 ?_
 refine AW.q 3 ?_
 refine AW.q 2 ?_
 refine AW.ret ?_
 refine ⟨_, Sub.refl _ _, ?_⟩
 refine KF.conv (fun w => .agg [.int .i64 w.id, .int .i64 w.of_, .int .i64 w.role, .int .i64 w.commit, .int .i64 w.hard.term, .int .i64 w.hard.vote, .ref 0, .ref 4, .ref 5, .ref 6]) (fun w => [.arr 45 6 (r.hard.log.map encEnt), .arr 3 1 (r.yes.map encI), .arr 3 1 (r.next.map encI), .arr 3 1 (r.match_.map encI), .arr 3 1 (w.yes.map encI), .arr 3 1 (w.next.map encI), .arr 3 1 (w.match_.map encI)]) (show ((⟨r.id, r.of_, 1, r.commit, ⟨t_, 0, r.hard.log⟩, [], [], []⟩ : Raft)) = (({ r with role := 1, yes := [], next := [], match_ := [], hard := { r.hard with term := t_, vote := 0 } } : Raft)) from by simp_all) ?_
 exact KF.n [(0, 0), (1, 1), (2, 2), (3, 3), (1120, 4), (1121, 5), (1122, 6)]
end Go.Proofs.YtlmadhahghiedaaGreat
