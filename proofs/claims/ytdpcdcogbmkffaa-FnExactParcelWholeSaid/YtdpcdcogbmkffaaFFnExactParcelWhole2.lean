/- The contracts of the functions that FnExactParcelWhole reaches (each: what it answers, said over values), printed by a program of this session (wip/sy/g/gen.py). -/
import Derived.Test.YtdpcdcogbmkffaaFFnExactParcelWhole1
set_option linter.unusedVariables false
set_option linter.unusedSimpArgs false
set_option maxRecDepth 100000
set_option maxHeartbeats 4000000
namespace Go.Proofs.Ytdpcdcogbmkffaa
open Go Go.Sy Go.Proofs
theorem impl_Sha_spec  (b : List UInt8) (hb : b.length ≤ 1048576) : FnSpec Try.prog 26 [.sl false 1 (b.map encU8)] [] (.ref 0) [.arr 5 1 ((shaB b).map encU8)] := by
 refine FnSpec.of 73 Try.func26 rfl Try.ntmps26 (by simp) (AW.weakK ?_)
 refine AW.q 1 ?_
 refine AW.seq ?_
 refine AW.r ?_
 refine At.a 2 ?_
 refine At.sL 10 encU8 b ?_
 refine At.z 1 ?_
 refine AW.cD ((b.length : Int) > 4000) (fun h1 => ?_) (fun h1 => ?_)
 · refine AW.q 1 ?_
   refine AW.ret ?_
   refine ⟨_, Sub.nils [⟨false, 2, none, 5001, 5, 1⟩] (by kernel_rfl), ?_⟩
   refine KF.conv (fun w => .ref 0) (fun w => [.arr 5 1 (w.map encU8)]) (show ([]) = (shaB b) from by exact (sha_no (by assumption)).symm) ?_
   exact KF.n [(5001, 0)]
 refine AW.skip ?_
 refine AW.r ?_
 refine At.lit0 (t := 32) (d := 12) (e := 5) (es := 1) (bytes := 1) 112 (by kernel_rfl) (by kernel_rfl) (by kernel_rfl) (by kernel_rfl) ?_
 refine At.a 1 ?_
 refine At.append (t := 32) (d := 14) (e := 5) (es := 1) (bytes := 1) (s := .tmp 12) (x := .tmp 13) (S := .ref 112) (T := .sl false 1 (b.map encU8)) (xs := []) (ys := (b.map encU8)) 114 [112] [] (b.map encU8) (by kernel_rfl) (by kernel_rfl) (by kernel_rfl) (by kernel_rfl) ⟨by kernel_rfl, rfl⟩ ⟨rfl, rfl, (allP_encU8 _), rfl⟩ (by kernel_rfl) (by kernel_rfl) (by simp) (by simp only [List.length_map, List.length_append, List.length_take, List.length_drop, List.length_replicate, List.length_set, List.length_cons, List.length_nil]; omega) (by simp only [List.length_map, List.length_append, List.length_take, List.length_drop, List.length_replicate, List.length_set, List.length_cons, List.length_nil]; omega) ?_
 refine At.ll 15 5 1 115 (0, 6) (([(128 : UInt8)]).map encU8) ?_
 refine At.apK 16 5 1 1 116 114 115 encU8 b ([(128 : UInt8)]) (by simp only [List.length_map, List.length_append, List.length_take, List.length_drop, List.length_replicate, List.length_set, List.length_cons, List.length_nil]; omega) ?_
 refine At.z 1 ?_
 refine AW.seq ?_
 refine AW.block ?_
 refine AW.loopW (fun (x : Nat × List UInt8) => match x with | (k, q) => Go.Sy.mk [.sl false 1 (b.map encU8), .un, .un, .ref 116] [(116, .arr 5 1 (q.map encU8))]) (fun (x : Nat × List UInt8) => match x with | (k, q) => k ≤ padZ b.length ∧ q = b ++ [128] ++ List.replicate k 0) (fun (x : Nat × List UInt8) => match x with | (k, q) => padZ b.length - k) (0, b ++ ([(128 : UInt8)])) ⟨by omega, by simp⟩ (Sub.o [(116, 116)] [true, false, false, true]) ?_
 rintro ⟨k, q⟩ ⟨hk, hq⟩
 have hql : q.length = b.length + 1 + k := by rw [hq]; simp; omega
 have hpz := pad_zero (n := b.length)
 refine AW.seq ?_
 refine AW.r ?_
 refine At.a 2 ?_
 refine At.sL 18 encU8 q ?_
 refine At.div (t := 3) (u := 3) (d := 19) (op := .rem) (x := .tmp 18) (y := .const (.int .i64 64)) (kd := .i64) (a := (q.length : Int)) (b := 64) (by kernel_rfl) (by kernel_rfl) (by kernel_rfl) (by kernel_rfl) (by omega) (.int .i64 ((q.length : Int).tmod 64)) (.inr ⟨rfl, rfl⟩) ?_
 refine At.say 19 (.int .i64 ((q.length : Int).tmod 64)) (.int .i64 ((q.length : Int) % 64)) (by kernel_rfl) (sayRem (by omega)) ?_
 refine At.z 1 ?_
 refine AW.cU ((q.length : Int) % 64) (56 : Int) (fun h2 => ?_) (fun h2 => ?_)
 · refine AW.skip ?_
   refine AW.block ?_
   refine AW.g ?_
   refine At.a 1 ?_
   refine At.ll 22 5 1 122 (0, 6) (([(0 : UInt8)]).map encU8) ?_
   refine At.apK 23 5 1 1 123 116 122 encU8 q ([(0 : UInt8)]) (by simp only [List.length_map, List.length_append, List.length_take, List.length_drop, List.length_replicate, List.length_set, List.length_cons, List.length_nil]; omega) ?_
   refine At.z 1 ?_
   exact ⟨(k + 1, (q ++ ([(0 : UInt8)]))), ⟨by have := pad_less hk (by omega); omega, pad_app hq⟩, (by have := pad_less hk (by omega); simp only; omega), Sub.o [(123, 116)] [true, false, false, true]⟩
 refine AW.exit ?_
 refine AW.seq ?_
 refine AW.q 1 ?_
 refine AW.block ?_
 have hkz := pad_end hk (by omega)
 refine AW.loopW (fun (x : Int × List UInt8) => match x with | (i, p) => Go.Sy.mk [.sl false 1 (b.map encU8), .un, .un, .ref 116, .int .i64 i] [(116, .arr 5 1 (p.map encU8))]) (fun (x : Int × List UInt8) => match x with | (i, p) => -1 ≤ i ∧ i ≤ 7 ∧ p = q ++ (lenB b.length).take (7 - i).toNat) (fun (x : Int × List UInt8) => match x with | (i, p) => (i + 1).toNat) (7, q) ⟨by omega, by omega, by simp⟩ (Sub.o [(116, 116)] [true, false, false, true, true]) ?_
 rintro ⟨i, p⟩ ⟨hi0, hi1, hp⟩
 have hpl : p.length = q.length + (7 - i).toNat := by rw [hp, List.length_append, List.length_take, lenB_len]; omega
 refine AW.seq ?_
 refine AW.q 2 ?_
 refine AW.cD (i ≥ 0) (fun h3 => ?_) (fun h3 => ?_)
 · refine AW.skip ?_
   refine AW.seq ?_
   refine AW.block ?_
   refine AW.g ?_
   refine At.a 3 ?_
   refine At.sL 30 encU8 b ?_
   refine At.a 1 ?_
   refine At.sI 31 (8 * (b.length : Int)) (by omega) ?_
   refine At.a 2 ?_
   refine At.sI 33 (8 * i) (by omega) ?_
   refine At.shift (t := 3) (u := 3) (d := 34) (op := .shr) (x := .tmp 31) (y := .tmp 33) (kd := .i64) (kd' := .i64) (a := 8 * (b.length : Int)) (b := 8 * i) (shV .shr .i64 (8 * (b.length : Int)) (8 * i)) (by kernel_rfl) (by kernel_rfl) (by kernel_rfl) (by kernel_rfl) (by omega) (shS_shr _ _ _) ?_
   refine At.bits (t := 3) (u := 3) (d := 35) (op := .and) (x := .tmp 34) (y := .const (.int .i64 255)) (kd := .i64) (a := shV .shr .i64 (8 * (b.length : Int)) (8 * i)) (b := 255) ((shV .shr .i64 (8 * (b.length : Int)) (8 * i)) % 256) (by kernel_rfl) (by kernel_rfl) (by kernel_rfl) (by kernel_rfl) (andM 8 256 _ _ (by decide) (by decide) (by decide)) ?_
   refine At.conv (s := 3) (t := 5) (d := 36) (x := .tmp 35) (kd := .i64) (kd' := .u8) (a := (shV .shr .i64 (8 * (b.length : Int)) (8 * i)) % 256) (.int .u8 ((u8Of ((shV .shr .i64 (8 * (b.length : Int)) (8 * i)) % 256)).toNat : Int)) (by kernel_rfl) (by kernel_rfl) (by kernel_rfl) (by kernel_rfl) (sayByte _) ?_
   refine At.ll 37 5 1 137 (0, 6) (([(u8Of ((shV .shr .i64 (8 * (b.length : Int)) (8 * i)) % 256))]).map encU8) ?_
   refine At.apK 38 5 1 1 138 116 137 encU8 p ([(u8Of ((shV .shr .i64 (8 * (b.length : Int)) (8 * i)) % 256))]) (by simp only [List.length_map, List.length_append, List.length_take, List.length_drop, List.length_replicate, List.length_set, List.length_cons, List.length_nil]; omega) ?_
   refine At.z 1 ?_
   refine AW.g ?_
   refine At.a 2 ?_
   refine At.sI 27 (i - 1) (by omega) ?_
   refine At.z 1 ?_
   exact ⟨((i - 1), (p ++ ([(u8Of ((shV .shr .i64 (8 * (b.length : Int)) (8 * i)) % 256))]))), ⟨by omega, by omega, by rw [u8Of_mod]; exact lenB_int (by omega) hi1 hp⟩, (by simp only; omega), Sub.o [(138, 116)] [true, false, false, true, true]⟩
 refine AW.exit ?_
 refine AW.seq ?_
 refine AW.weak (Sub.frz 116 5 1 (p.map encU8) (by kernel_rfl) flatU8) ?_
 refine AW.g ?_
 refine At.c (impl_firstWords_spec   ) Try.call44 true [] [] [] trivial ?_
 refine At.z 2 ?_
 refine AW.seq ?_
 refine AW.block ?_
 have hpd := pad_done hq hkz hp (by omega) hi0
 have hpm : p.length % 64 = 0 := by rw [hpd]; exact (padI_len b).1
 refine AW.loopW (fun (x : List Int × List UInt8) => match x with | (h, q) => Go.Sy.mk [.un, .un, .un, .sl true 1 (q.map encU8), .un, .ptr 105 0 0] [(105, .box 77 (sp8 h))]) (fun (x : List Int × List UInt8) => match x with | (h, q) => q.length % 64 = 0 ∧ q.length ≤ 1048576 ∧ h.length = 8 ∧ AllW h ∧ blocksI ((padI b).length / 64) firstI (padI b) = blocksI (q.length / 64) h q) (fun (x : List Int × List UInt8) => match x with | (h, q) => q.length) (firstI, p) ⟨hpm, by omega, rfl, firstI_all, by rw [hpd]⟩ (Sub.o [(105, 105)] [false, false, false, true, false, true]) ?_
 rintro ⟨h, q⟩ ⟨hi2, hi3, hh, ha, hR⟩
 refine AW.seq ?_
 refine AW.r ?_
 refine At.a 2 ?_
 refine At.sL 41 encU8 q ?_
 refine At.z 1 ?_
 refine AW.cD ((q.length : Int) > 0) (fun h4 => ?_) (fun h4 => ?_)
 · refine AW.skip ?_
   refine AW.seq ?_
   refine AW.block ?_
   refine AW.gD Try_mix ?_
   refine At.a 2 ?_
   refine At.sliceSl (t := 32) (d := 47) (e := 5) (es := 1) (x := .tmp 46) (lx := none) (hx := some (.const (.int .i64 64))) (p := true) (xs := (q.map encU8)) (vl := .un) (vh := .int .i64 64) 0 64 ((q.take 64).map encU8) (by kernel_rfl) (by kernel_rfl) (by kernel_rfl) (by kernel_rfl) (.inl ⟨rfl, rfl⟩) (.inr ⟨_, _, rfl, rfl⟩) (by omega) (by simp only [List.length_map]; omega) (by simp [List.map_take, List.map_drop]) ?_
   refine At.c (FnSpec.cv (As := [.agg (sp8 h), .sl true 1 ((q.take 64).map encU8)]) [0, 2] (impl_round_spec  h (q.take 64) hh ha (by rw [List.length_take]; omega))) Try.call45 true [] [] [] trivial ?_
   refine At.zD 1 ?_
   refine AW.g ?_
   refine At.a 1 ?_
   refine At.sliceSl (t := 32) (d := 44) (e := 5) (es := 1) (x := .tmp 43) (lx := some (.const (.int .i64 64))) (hx := none) (p := true) (xs := (q.map encU8)) (vl := .int .i64 64) (vh := .un) 64 ((q.map encU8).length) (((q.drop 64).take (q.length - 64)).map encU8) (by kernel_rfl) (by kernel_rfl) (by kernel_rfl) (by kernel_rfl) (.inr ⟨_, _, rfl, rfl⟩) (.inl ⟨rfl, rfl⟩) (by simp only [List.length_map]; omega) (by omega) (by simp [List.map_take, List.map_drop]) ?_
   refine At.z 1 ?_
   exact ⟨((roundI h (q.take 64)), (q.drop 64).take (q.length - 64)), ⟨by rw [List.length_take, List.length_drop]; omega, by rw [List.length_take, List.length_drop]; omega, round_len _ _ hh, round_all _ _, blk_cut hR (by omega)⟩, (by simp only [List.length_take, List.length_drop]; omega), Sub.o [(105, 105)] [false, false, false, true, false, true]⟩
 refine AW.exit ?_
 refine AW.r ?_
 refine At.lit0 (t := 32) (d := 49) (e := 5) (es := 1) (bytes := 1) 149 (by kernel_rfl) (by kernel_rfl) (by kernel_rfl) (by kernel_rfl) ?_
 refine At.z 1 ?_
 refine AW.seq ?_
 refine AW.q 2 ?_
 refine AW.block ?_
 refine AW.loopW (fun (x : Nat × List UInt8) => match x with | (k, o) => Go.Sy.mk [.un, .un, .un, .un, .un, .un, .ref 149, .un, .un, .un, .un, .un, .un, .un, .un, .un, .un, .un, .un, .un, .un, .un, .un, .un, .un, .un, .un, .un, .un, .un, .un, .un, .un, .un, .un, .un, .un, .un, .un, .un, .un, .un, .un, .un, .un, .un, .un, .un, .un, .un, .agg (sp8 h), .int .i64 (k : Int)] [(149, .arr 5 1 (o.map encU8))]) (fun (x : Nat × List UInt8) => match x with | (k, o) => k ≤ 8 ∧ o.length ≤ 4 * k ∧ outB h = o ++ outB (h.drop k)) (fun (x : Nat × List UInt8) => match x with | (k, o) => 8 - k) (0, []) ⟨by omega, by simp, rfl⟩ (Sub.o [(149, 149)] [false, false, false, false, false, false, true, false, false, false, false, false, false, false, false, false, false, false, false, false, false, false, false, false, false, false, false, false, false, false, false, false, false, false, false, false, false, false, false, false, false, false, false, false, false, false, false, false, false, false, true, true]) ?_
 rintro ⟨k, o⟩ ⟨hk2, ho, hS⟩
 refine AW.q 1 ?_
 refine AW.seq ?_
 refine AW.cD ((k : Int) < 8) (fun h5 => ?_) (fun h5 => ?_)
 · refine AW.skip ?_
   refine AW.seq ?_
   refine AW.block ?_
   refine AW.r ?_
   refine Exists.elim (gE h k (by omega)) fun e1 he1 => ?_
   refine At.idxAgg (t := 77) (d := 53) (len := 8) (x := .tmp 50) (y := .tmp 51) (kd := .i64) (n := (k : Int)) (cs := (sp8 h)) (.int .i64 e1) (by kernel_rfl) (by kernel_rfl) (by kernel_rfl) (by kernel_rfl) (by omega) (by omega) (sp8Get (by omega) he1) ?_
   refine At.z 1 ?_
   refine AW.g ?_
   refine At.a 2 ?_
   refine At.shift (t := 3) (u := 63) (d := 56) (op := .shr) (x := .tmp 55) (y := .const (.int .u64 24)) (kd := .i64) (kd' := .u64) (a := e1) (b := 24) (shV .shr .i64 e1 24) (by kernel_rfl) (by kernel_rfl) (by kernel_rfl) (by kernel_rfl) (by omega) (shS_shr _ _ _) ?_
   refine At.conv (s := 3) (t := 5) (d := 57) (x := .tmp 56) (kd := .i64) (kd' := .u8) (a := shV .shr .i64 e1 24) (.int .u8 ((u8Of (shV .shr .i64 e1 24)).toNat : Int)) (by kernel_rfl) (by kernel_rfl) (by kernel_rfl) (by kernel_rfl) (sayByte _) ?_
   refine At.a 1 ?_
   refine At.shift (t := 3) (u := 63) (d := 59) (op := .shr) (x := .tmp 58) (y := .const (.int .u64 16)) (kd := .i64) (kd' := .u64) (a := e1) (b := 16) (shV .shr .i64 e1 16) (by kernel_rfl) (by kernel_rfl) (by kernel_rfl) (by kernel_rfl) (by omega) (shS_shr _ _ _) ?_
   refine At.bits (t := 3) (u := 3) (d := 60) (op := .and) (x := .tmp 59) (y := .const (.int .i64 255)) (kd := .i64) (a := shV .shr .i64 e1 16) (b := 255) ((shV .shr .i64 e1 16) % 256) (by kernel_rfl) (by kernel_rfl) (by kernel_rfl) (by kernel_rfl) (andM 8 256 _ _ (by decide) (by decide) (by decide)) ?_
   refine At.conv (s := 3) (t := 5) (d := 61) (x := .tmp 60) (kd := .i64) (kd' := .u8) (a := (shV .shr .i64 e1 16) % 256) (.int .u8 ((u8Of ((shV .shr .i64 e1 16) % 256)).toNat : Int)) (by kernel_rfl) (by kernel_rfl) (by kernel_rfl) (by kernel_rfl) (sayByte _) ?_
   refine At.a 1 ?_
   refine At.shift (t := 3) (u := 63) (d := 63) (op := .shr) (x := .tmp 62) (y := .const (.int .u64 8)) (kd := .i64) (kd' := .u64) (a := e1) (b := 8) (shV .shr .i64 e1 8) (by kernel_rfl) (by kernel_rfl) (by kernel_rfl) (by kernel_rfl) (by omega) (shS_shr _ _ _) ?_
   refine At.bits (t := 3) (u := 3) (d := 64) (op := .and) (x := .tmp 63) (y := .const (.int .i64 255)) (kd := .i64) (a := shV .shr .i64 e1 8) (b := 255) ((shV .shr .i64 e1 8) % 256) (by kernel_rfl) (by kernel_rfl) (by kernel_rfl) (by kernel_rfl) (andM 8 256 _ _ (by decide) (by decide) (by decide)) ?_
   refine At.conv (s := 3) (t := 5) (d := 65) (x := .tmp 64) (kd := .i64) (kd' := .u8) (a := (shV .shr .i64 e1 8) % 256) (.int .u8 ((u8Of ((shV .shr .i64 e1 8) % 256)).toNat : Int)) (by kernel_rfl) (by kernel_rfl) (by kernel_rfl) (by kernel_rfl) (sayByte _) ?_
   refine At.a 1 ?_
   refine At.bits (t := 3) (u := 3) (d := 67) (op := .and) (x := .tmp 66) (y := .const (.int .i64 255)) (kd := .i64) (a := e1) (b := 255) (e1 % 256) (by kernel_rfl) (by kernel_rfl) (by kernel_rfl) (by kernel_rfl) (andM 8 256 _ _ (by decide) (by decide) (by decide)) ?_
   refine At.conv (s := 3) (t := 5) (d := 68) (x := .tmp 67) (kd := .i64) (kd' := .u8) (a := e1 % 256) (.int .u8 ((u8Of (e1 % 256)).toNat : Int)) (by kernel_rfl) (by kernel_rfl) (by kernel_rfl) (by kernel_rfl) (sayByte _) ?_
   refine At.ll 69 5 1 169 (0, 6) (([(u8Of (shV .shr .i64 e1 24)), (u8Of ((shV .shr .i64 e1 16) % 256)), (u8Of ((shV .shr .i64 e1 8) % 256)), (u8Of (e1 % 256))]).map encU8) ?_
   refine At.apK 70 5 1 1 170 149 169 encU8 o ([(u8Of (shV .shr .i64 e1 24)), (u8Of ((shV .shr .i64 e1 16) % 256)), (u8Of ((shV .shr .i64 e1 8) % 256)), (u8Of (e1 % 256))]) (by simp only [List.length_map, List.length_append, List.length_take, List.length_drop, List.length_replicate, List.length_set, List.length_cons, List.length_nil]; omega) ?_
   refine At.z 1 ?_
   refine AW.g ?_
   refine At.a 1 ?_
   refine At.sI 71 ((k : Int) + 1) (by omega) ?_
   refine At.z 1 ?_
   exact ⟨(k + 1, (o ++ ([(u8Of (shV .shr .i64 e1 24)), (u8Of ((shV .shr .i64 e1 16) % 256)), (u8Of ((shV .shr .i64 e1 8) % 256)), (u8Of (e1 % 256))]))), ⟨by omega, by simp only [List.length_append, List.length_cons, List.length_nil]; omega, out_step2 hS he1⟩, (by simp only; omega), Sub.o [(170, 149)] [false, false, false, false, false, false, true, false, false, false, false, false, false, false, false, false, false, false, false, false, false, false, false, false, false, false, false, false, false, false, false, false, false, false, false, false, false, false, false, false, false, false, false, false, false, false, false, false, false, false, true, true]⟩
 refine AW.exit ?_
 refine AW.q 2 ?_
 refine AW.ret ?_
 refine ⟨_, Sub.refl _ _, ?_⟩
 refine KF.conv (fun w => .ref 0) (fun w => [.arr 5 1 (w.map encU8)]) (show (o) = (shaB b) from by rw [sha_of (by assumption), hR, blk_end (by omega)]; exact out_end hS (by omega)) ?_
 exact KF.n [(149, 0)]
def K_impl_ParcelWhole (rs : List ResultVar) (p : Prc) (w0_ : ByteArray) (w1_ : Int) : Exit → Sg → Prop := KF Try.prog 0 rs (.tup [.str w0_, .int .i64 w1_]) []
theorem impl_ParcelWhole_spec  (p : Prc) (hp : SmallP p) : FnSpec Try.prog 8 [.agg [.int .i64 p.size, .str p.digest, .sl false 1 (p.parts.map encS)]] [] (.tup [.str ((wholeP p).1), .int .i64 ((wholeP p).2)]) [] := by
 obtain ⟨p1, p2, p3⟩ := id hp
 have hcz := strOf_size (catS p.parts)
 refine FnSpec.of 26 Try.func8 rfl Try.ntmps8 (by simp) (AW.weakK ?_)
 refine AW.q 3 ?_
 refine AW.r ?_
 refine At.a 2 ?_
 refine At.c (strings_Join_spec  p.parts (⟨#[]⟩ : ByteArray) rfl p2 p3) Try.call24 true [] [] [] trivial ?_
 refine At.z 1 ?_
 refine AW.seq ?_
 refine AW.block ?_
 refine AW.r ?_
 refine At.a 1 ?_
 refine At.c (impl_ParcelOk_spec  p hp) Try.call25 true [] [] [] trivial ?_
 refine At.z 2 ?_
 refine AW.cNB (prcOk p) (fun h1 => ?_) (fun h1 => ?_)
 · refine AW.q 2 ?_
   exact AW.ret (rf (k2 (K_impl_ParcelWhole _ p) (show ((⟨#[]⟩ : ByteArray)) = ((wholeP p).1) from by rw [whole_1 (by assumption)]) (show (1) = ((wholeP p).2) from by rw [whole_1 (by assumption)]) (KF.n [])))
 have hpc := prc_cat h1
 have hpm := prc_nums h1
 have hlk : lacksI p = lackGo 0 p.parts := by unfold lacksI; rw [if_pos h1]
 refine AW.r ?_
 refine At.a 1 ?_
 refine At.c (impl_ParcelLacks_spec  p hp) Try.call17 true [] [(1280, 0)] [] trivial ?_
 refine At.a 1 ?_
 refine At.sL 15 encI (lacksI p) ?_
 refine At.z 2 ?_
 refine AW.cD (((lacksI p).length : Int) > 0) (fun h2 => ?_) (fun h2 => ?_)
 · refine AW.q 2 ?_
   exact AW.ret (rf (k2 (K_impl_ParcelWhole _ p) (show ((⟨#[]⟩ : ByteArray)) = ((wholeP p).1) from by rw [whole_2 (by assumption) (by rw [← hlk]; omega)]) (show (2) = ((wholeP p).2) from by rw [whole_2 (by assumption) (by rw [← hlk]; omega)]) (KF.n [])))
 refine AW.seq ?_
 refine AW.gD Try_mix ?_
 refine At.a 1 ?_
 refine At.s2b (s := 9) (t := 32) (e := 5) (d := 19) (x := .tmp 18) (b := strOf (catS p.parts)) ((((strOf (catS p.parts)).data.toList).map encU8)) (by kernel_rfl) (by kernel_rfl) (by kernel_rfl) (by kernel_rfl) (by omega) rfl ?_
 refine At.c (FnSpec.cv (As := [.sl true 1 (((strOf (catS p.parts)).data.toList).map encU8)]) [2] (impl_Sha_spec  ((strOf (catS p.parts)).data.toList) (by rw [data_strOf]; omega))) Try.call26 true [] [(1400, 0)] [] trivial ?_
 refine At.b2s (s := 32) (t := 9) (e := 5) (d := 21) (x := .tmp 20) (T := .ref 1400) (shaB ((strOf (catS p.parts)).data.toList)) [] (by kernel_rfl) (by kernel_rfl) (by kernel_rfl) (by kernel_rfl) ⟨by kernel_rfl, .inl ⟨rfl, (allP_encU8 _)⟩⟩ ?_
 refine At.zD 4 ?_
 refine AW.cNE ((strOf (shaB ((strOf (catS p.parts)).data.toList))).toList) (p.digest.toList) (fun h3 => ?_) (fun h3 => ?_)
 · refine AW.q 2 ?_
   exact AW.ret (rf (k2 (K_impl_ParcelWhole _ p) (show ((⟨#[]⟩ : ByteArray)) = ((wholeP p).1) from by rw [whole_3 (by assumption) (by rw [← hlk]; omega) (by rw [← data_strOf (catS p.parts)]; assumption)]) (show (3) = ((wholeP p).2) from by rw [whole_3 (by assumption) (by rw [← hlk]; omega) (by rw [← data_strOf (catS p.parts)]; assumption)]) (KF.n [])))
 refine AW.skip ?_
 refine AW.q 3 ?_
 exact AW.ret (rf (k2 (K_impl_ParcelWhole _ p) (show (strOf (catS p.parts)) = ((wholeP p).1) from by rw [whole_0 (by assumption) (by rw [← hlk]; omega) (by rw [← data_strOf (catS p.parts)]; assumption)]) (show (0) = ((wholeP p).2) from by rw [whole_0 (by assumption) (by rw [← hlk]; omega) (by rw [← data_strOf (catS p.parts)]; assumption)]) (KF.n [])))
theorem laws_eqStringS_spec  (a : List ByteArray) (b : List ByteArray) (ha : a.length ≤ 1048576) (hb : b.length ≤ 1048576) : FnSpec Try.prog 27 [.sl false 1 (a.map encS), .sl false 1 (b.map encS)] [] (.bool (listEq eqBy a b)) [] := by
 refine FnSpec.of 26 Try.func27 rfl Try.ntmps27 (by simp) (AW.weakK ?_)
 refine AW.q 1 ?_
 refine AW.seq ?_
 refine AW.r ?_
 refine At.a 2 ?_
 refine At.sL 7 encS a ?_
 refine At.a 2 ?_
 refine At.sL 9 encS b ?_
 refine At.z 1 ?_
 refine AW.cU (a.length : Int) (b.length : Int) (fun h1 => ?_) (fun h1 => ?_)
 · refine AW.q 1 ?_
   refine AW.ret ?_
   refine ⟨_, Sub.refl _ _, ?_⟩
   refine KF.conv (fun w => .bool w) (fun w => []) (show (false) = (listEq eqBy a b) from by rw [listEq_len (by omega)]) ?_
   exact KF.n []
 refine AW.skip ?_
 refine AW.seq ?_
 refine AW.q 1 ?_
 refine AW.block ?_
 refine AW.loopW (fun (k : Nat) => Go.Sy.mk [.sl false 1 (a.map encS), .sl false 1 (b.map encS), .un, .un, .un, .int .i64 (k : Int)] []) (fun (k : Nat) => k ≤ a.length ∧ listEq eqBy a b = listEq eqBy (a.drop k) (b.drop k)) (fun (k : Nat) => a.length - k) 0 ⟨by omega, by rw [List.drop_zero, List.drop_zero]⟩ (Sub.o [] [true, true, false, false, false, true]) ?_
 rintro k ⟨hk, hR⟩
 refine AW.seq ?_
 refine AW.r ?_
 refine At.a 3 ?_
 refine At.sL 13 encS a ?_
 refine At.z 1 ?_
 refine AW.cD ((k : Int) < (a.length : Int)) (fun h2 => ?_) (fun h2 => ?_)
 · refine AW.skip ?_
   refine AW.seq ?_
   refine AW.block ?_
   refine AW.seq ?_
   refine AW.gD Try_mix ?_
   refine At.a 2 ?_
   refine At.iSl 22 19 (.tmp 17) (.tmp 18) false 1 (a.map encS) .i64 (k : Int) 9 (by omega) (by simp only [List.length_map]; omega) ?_
   refine Exists.elim (gE a k (by omega)) fun e1 he1 => ?_
   refine At.lVp 9 20 (.tmp 19) false 1 (a.map encS) k 0 false 1 (encS e1) (.str e1) (mapGet he1) ?_
   refine At.a 2 ?_
   refine At.iSl 22 23 (.tmp 21) (.tmp 22) false 1 (b.map encS) .i64 (k : Int) 9 (by omega) (by simp only [List.length_map]; omega) ?_
   refine Exists.elim (gE b k (by omega)) fun e2 he2 => ?_
   refine At.lVp 9 24 (.tmp 23) false 1 (b.map encS) k 0 false 1 (encS e2) (.str e2) (mapGet he2) ?_
   refine At.zD 1 ?_
   refine AW.cNE (e1.toList) (e2.toList) (fun h3 => ?_) (fun h3 => ?_)
   · refine AW.q 1 ?_
     refine AW.ret ?_
     refine ⟨_, Sub.refl _ _, ?_⟩
     refine KF.conv (fun w => .bool w) (fun w => []) (show (false) = (listEq eqBy a b) from by rw [hR, dropCons he1, dropCons he2, listEq]; simp [eqBy, *]) ?_
     exact KF.n []
   refine AW.skip ?_
   refine AW.g ?_
   refine At.a 2 ?_
   refine At.sI 16 ((k : Int) + 1) (by omega) ?_
   refine At.z 1 ?_
   exact ⟨k + 1, ⟨by omega, by rw [hR, dropCons he1, dropCons he2, listEq]; simp [eqBy, *]⟩, (by omega), Sub.o [] [true, true, false, false, false, true]⟩
 refine AW.exit ?_
 refine AW.q 1 ?_
 refine AW.ret ?_
 refine ⟨_, Sub.refl _ _, ?_⟩
 refine KF.conv (fun w => .bool w) (fun w => []) (show (true) = (listEq eqBy a b) from by rw [hR, List.drop_of_length_le (by omega), List.drop_of_length_le (by omega)]; rfl) ?_
 exact KF.n []
theorem laws_eqParcel_spec  (a : Prc) (b : Prc) (ha : a.parts.length ≤ 1048576) (hb : b.parts.length ≤ 1048576) : FnSpec Try.prog 9 [.agg [.int .i64 a.size, .str a.digest, .sl false 1 (a.parts.map encS)], .agg [.int .i64 b.size, .str b.digest, .sl false 1 (b.parts.map encS)]] [] (.bool (prcEq a b)) [] := by
 refine FnSpec.of 21 Try.func9 rfl Try.ntmps9 (by simp) (AW.weakK ?_)
 refine AW.q 3 ?_
 refine AW.seq ?_
 refine AW.q 5 ?_
 refine AW.cU a.size b.size (fun h1 => ?_) (fun h1 => ?_)
 · refine AW.q 1 ?_
   refine AW.ret ?_
   refine ⟨_, Sub.refl _ _, ?_⟩
   refine KF.conv (fun w => .bool w) (fun w => []) (show (false) = (prcEq a b) from by simp [prcEq, eqBy, *]) ?_
   exact KF.n []
 refine AW.skip ?_
 refine AW.seq ?_
 refine AW.q 5 ?_
 refine AW.cNE (a.digest.toList) (b.digest.toList) (fun h2 => ?_) (fun h2 => ?_)
 · refine AW.q 1 ?_
   refine AW.ret ?_
   refine ⟨_, Sub.refl _ _, ?_⟩
   refine KF.conv (fun w => .bool w) (fun w => []) (show (false) = (prcEq a b) from by simp [prcEq, eqBy, *]) ?_
   exact KF.n []
 refine AW.skip ?_
 refine AW.seq ?_
 refine AW.r ?_
 refine At.a 4 ?_
 refine At.c (laws_eqStringS_spec  a.parts b.parts ha hb) Try.call27 true [] [] [] trivial ?_
 refine At.z 1 ?_
 refine AW.cNB (listEq eqBy a.parts b.parts) (fun h3 => ?_) (fun h3 => ?_)
 · refine AW.q 1 ?_
   refine AW.ret ?_
   refine ⟨_, Sub.refl _ _, ?_⟩
   refine KF.conv (fun w => .bool w) (fun w => []) (show (false) = (prcEq a b) from by simp [prcEq, eqBy, *]) ?_
   exact KF.n []
 refine AW.skip ?_
 refine AW.q 1 ?_
 refine AW.ret ?_
 refine ⟨_, Sub.refl _ _, ?_⟩
 refine KF.conv (fun w => .bool w) (fun w => []) (show (true) = (prcEq a b) from by simp [prcEq, eqBy, *]) ?_
 exact KF.n []
theorem laws_FnExactParcelWhole_spec  (aP : Prc) (hd : BigP aP) : FnSpec Try.prog 3 [.agg [.int .i64 aP.size, .str aP.digest, .sl false 1 (aP.parts.map encS)]] [] (.bool true) [] := by
 refine FnSpec.of 40 Try.func3 rfl Try.ntmps3 (by simp) (AW.weakK ?_)
 refine AW.q 2 ?_
 refine AW.q 1 ?_
 refine AW.r ?_
 refine At.a 2 ?_
 refine At.c (laws_szParcel_spec  aP 1048576 (by omega) hd) Try.call5 true [] [] [] trivial ?_
 refine At.z 1 ?_
 refine AW.seq ?_
 refine AW.q 2 ?_
 refine AW.cD ((szP aP 1048576) < 0) (fun h1 => ?_) (fun h1 => ?_)
 · refine AW.q 1 ?_
   exact AW.ret (rf (KF.n []))
 have hsp := szP_small h1
 have hsp2 := hsp.2.1
 refine AW.skip ?_
 refine AW.r ?_
 refine At.a 1 ?_
 refine At.c (laws_toParcel_spec  aP hsp2) Try.call7 true [] [(1320, 0)] [] trivial ?_
 refine At.c (spec_ParcelWhole_spec  aP hsp) Try.call6 false [] [] [(1320, 1, (aP.parts.map encS))] ⟨rfl, ⟨9, (aP.parts.map encS), by kernel_rfl, FrzIs.same (allP_encS _)⟩, trivial⟩ ?_
 refine At.z 5 ?_
 refine AW.r ?_
 refine At.a 1 ?_
 refine At.c (laws_toParcel_spec  aP hsp2) Try.call7 true [] [(1420, 0)] [] trivial ?_
 refine At.z 2 ?_
 refine AW.r ?_
 refine At.a 1 ?_
 refine At.c (impl_ParcelWhole_spec  aP hsp) Try.call8 false [] [] [(1420, 1, (aP.parts.map encS))] ⟨rfl, ⟨9, (aP.parts.map encS), by kernel_rfl, FrzIs.same (allP_encS _)⟩, trivial⟩ ?_
 refine At.z 5 ?_
 refine AW.seq ?_
 refine AW.r ?_
 refine At.a 4 ?_
 refine At.sB 30 (!(((wholeP aP).1).toList == ((wholeP aP).1).toList)) false (sayB (by rw [show (((wholeP aP).1).toList == ((wholeP aP).1).toList) = true from (by simp)]; rfl)) ?_
 refine At.z 4 ?_
 refine AW.condF (((wholeP aP).2) != ((wholeP aP).2)) (by kernel_rfl) (by simp) ?_
 refine AW.skip ?_
 refine AW.seq ?_
 refine AW.seq ?_
 refine AW.gD Try_mix ?_
 refine At.a 2 ?_
 refine At.c (laws_toParcel_spec  aP hsp2) Try.call7 true [] [(1740, 0)] [] trivial ?_
 refine At.c (laws_eqParcel_spec  aP aP hsp2 hsp2) Try.call9 false [] [] [(1420, 1, (aP.parts.map encS)), (1740, 1, (aP.parts.map encS))] ⟨rfl, ⟨9, (aP.parts.map encS), by kernel_rfl, FrzIs.same (allP_encS _)⟩, rfl, ⟨9, (aP.parts.map encS), by kernel_rfl, FrzIs.same (allP_encS _)⟩, trivial⟩ ?_
 refine At.zD 1 ?_
 refine AW.condF (!(prcEq aP aP)) (by kernel_rfl) (by rw [show (prcEq aP aP) = true from (prcEq_refl _)]; rfl) ?_
 refine AW.skip ?_
 refine AW.q 1 ?_
 exact AW.ret (rf (KF.n []))
end Go.Proofs.Ytdpcdcogbmkffaa
