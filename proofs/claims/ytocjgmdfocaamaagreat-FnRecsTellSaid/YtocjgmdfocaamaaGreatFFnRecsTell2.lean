/- The contracts of the functions that FnRecsTell reaches (each: what it answers, said over values), printed by a program of this session (wip/sy/g/gen.py). -/
import Derived.Test.YtocjgmdfocaamaaGreatFFnRecsTell1
set_option linter.unusedVariables false
set_option linter.unusedSimpArgs false
set_option maxRecDepth 100000
set_option maxHeartbeats 4000000
namespace Go.Proofs.YtocjgmdfocaamaaGreat
open Go Go.Sy Go.Proofs
theorem spec_Sha_spec (b : List UInt8) (hb : b.length ≤ 1048576) : ∃ rho_ : List UInt8, ((b.length ≤ 4000 → rho_.length = 32) ∧ rho_.length ≤ 32) ∧ FnSpec Tryz.prog 89 [.sl false 1 (b.map encU8)] [] (.ref 0) [.arr 5 1 (rho_.map encU8)]:= by
 refine dv (fun h_ => FnSpec.of 85 Tryz.func89 rfl Tryz.ntmps89 (by simp) (AW.weakK h_)) ?_
 refine dv (AW.q 1 <| AW.r <| At.l0 22 9 5 1 1 109 <| At.z 1 <| AW.seq <| AW.r <| At.a 2 <| At.sL 11 encU8 b <| At.z 1 ·) ?_
 by_cases h1 : (b.length : Int) > 4000
 · refine dv (AW.dT h1 <| AW.q 2 <| AW.ret ·) ?_
   refine dv (⟨_, Sub.refl _ _, ·⟩) ?_
   exact ⟨([]), (by (try dsimp only); (try simp only [List.length_nil]); omega), KF.n [(109, 0)]⟩
 refine dv (AW.dF h1 <| AW.skip <| AW.r <| At.l0 22 14 5 1 1 114 <| At.a 1 ·) ?_
 refine dv (At.append (t := 22) (d := 16) (e := 5) (es := 1) (bytes := 1) (s := .tmp 14) (x := .tmp 15) (S := .ref 114) (T := .sl false 1 (b.map encU8)) (xs := []) (ys := (b.map encU8)) 116 [114] [] (b.map encU8) (by kernel_rfl) (by kernel_rfl) (by kernel_rfl) (by kernel_rfl) ⟨by kernel_rfl, rfl⟩ ⟨rfl, rfl, (allP_encU8 _), rfl⟩ (by kernel_rfl) (by kernel_rfl) (by simp) (by simp only [List.length_map, lens]; omega) (by simp only [List.length_map, lens]; omega) ·) ?_
 refine dv (At.ll 17 5 1 117 (45, 6) (([(128 : UInt8)]).map encU8) ·) ?_
 refine dv (At.apK 18 5 1 1 118 116 117 encU8 b ([(128 : UInt8)]) (by simp only [List.length_map, lens]; omega) ·) ?_
 refine dv (At.z 1 <| AW.seq <| AW.block ·) ?_
 refine DW.loopQ (fun (mm : List UInt8) => Go.Sy.mk [.sl false 1 (b.map encU8), .un, .un, .ref 109, .ref 118] [(109, .arr 5 1 []), (118, .arr 5 1 (mm.map encU8))]) (fun (mm : List UInt8) => mm.length + (120 - mm.length % 64) % 64 ≤ b.length + 64 ∧ b.length < mm.length) (fun (mm : List UInt8) => (120 - mm.length % 64) % 64) (b ++ [(128 : UInt8)]) (by simp only [lens]; omega) (Sub.o (dg [109, 118]) (bs 5 25)) ?_
 rintro mm hm ih1
 refine dv (AW.seq <| AW.r <| At.a 2 <| At.sL 20 encU8 mm ·) ?_
 refine dv (At.div (t := 3) (u := 3) (d := 21) (op := .rem) (x := .tmp 20) (y := .const (.int .i64 64)) (kd := .i64) (a := (mm.length : Int)) (b := 64) (by kernel_rfl) (by kernel_rfl) (by kernel_rfl) (by kernel_rfl) (by omega) (nI ((mm.length : Int).tmod 64)) (.inr ⟨rfl, rfl⟩) ·) ?_
 refine dv (At.say 21 (nI ((mm.length : Int).tmod 64)) (nI ((mm.length : Int) % 64)) (by kernel_rfl) (sayRem (by omega)) ·) ?_
 refine dv (At.z 1 ·) ?_
 by_cases h2 : (mm.length : Int) % 64 = 56
 · refine dv (AW.cF (((mm.length : Int) % 64) != 56) (by rw [bne_eq_false_iff_eq]; exact h2) ·) ?_
   refine dv (AW.exit <| AW.seq <| AW.q 1 <| AW.block ·) ?_
   refine DW.loopQ (fun (x : Int × List UInt8) => match x with | (i, mm) => Go.Sy.mk [.sl false 1 (b.map encU8), .un, .un, .ref 109, .ref 118, nI i] [(109, .arr 5 1 []), (118, .arr 5 1 (mm.map encU8))]) (fun (i, mm) => (-1 ≤ i ∧ i ≤ 7) ∧ ((mm.length : Int) + i + 1) % 64 = 0 ∧ (mm.length : Int) + i ≤ 4500) (fun (i, mm) => (i + 1).toNat) (7, mm) (by simp only; omega) (Sub.o (dg [109, 118]) (bs 6 57)) ?_
   rintro ⟨i, mm⟩ hm ih2
   refine dv (AW.seq <| AW.q 2 ·) ?_
   by_cases h3 : i ≥ 0
   · refine dv (AW.dT h3 <| AW.skip <| AW.seq <| AW.block <| AW.g <| At.a 3 <| At.sL 32 encU8 b <| At.a 1 ·) ?_
     refine dv (At.sI 33 (8 * (b.length : Int)) (by omega) ·) ?_
     refine dv (At.a 2 ·) ?_
     refine dv (At.sI 35 (8 * i) (by omega) ·) ?_
     refine dv (At.shift (t := 3) (u := 3) (d := 36) (op := .shr) (x := .tmp 33) (y := .tmp 35) (kd := .i64) (kd' := .i64) (a := 8 * (b.length : Int)) (b := 8 * i) (shV .shr .i64 (8 * (b.length : Int)) (8 * i)) (by kernel_rfl) (by kernel_rfl) (by kernel_rfl) (by kernel_rfl) (by omega) (shS_shr _ _ _) ·) ?_
     refine dv (At.conv (s := 3) (t := 5) (d := 37) (x := .tmp 36) (kd := .i64) (kd' := .u8) (a := shV .shr .i64 (8 * (b.length : Int)) (8 * i)) (.int .u8 ((u8Of (shV .shr .i64 (8 * (b.length : Int)) (8 * i))).toNat : Int)) (by kernel_rfl) (by kernel_rfl) (by kernel_rfl) (by kernel_rfl) (sayByte _) <| At.ll 38 5 1 138 (45, 6) (([(u8Of (shV .shr .i64 (8 * (b.length : Int)) (8 * i)))]).map encU8) ·) ?_
     refine dv (At.apK 39 5 1 1 139 118 138 encU8 mm ([(u8Of (shV .shr .i64 (8 * (b.length : Int)) (8 * i)))]) (by simp only [List.length_map, lens]; omega) ·) ?_
     refine dv (At.z 1 <| AW.g <| At.a 2 ·) ?_
     refine dv (At.sI 29 (i - 1) (by omega) ·) ?_
     refine dv (At.z 1 ·) ?_
     exact dw (fun _ h_ => AWL.weak (Sub.o [(109, 109), (139, 118)] (bs 6 57)) h_) (ih2 (i - 1, (mm ++ ([(u8Of (shV .shr .i64 (8 * (b.length : Int)) (8 * i)))]))) (by simp only [lens]; omega) (by simp only; omega))
   refine dv (AW.dF h3 <| AW.exit <| AW.r <| At.ll 40 3 1 140 (45, 6) (([1779033703, 3144134277, 1013904242, 2773480762, 1359893119, 2600822924, 528734635, 1541459225]).map encI) <| At.z 1 <| AW.seq <| AW.q 1 <| AW.block ·) ?_
   refine DW.loopQ (fun (x : Nat × List Int) => match x with | (i, h) => Go.Sy.mk [.un, .un, .un, .ref 109, .ref 118, .un, .ref 140, nI (i : Int)] [(109, .arr 5 1 []), (118, .arr 5 1 (mm.map encU8)), (140, .arr 3 1 (h.map encI))]) (fun (i, h) => i % 64 = 0 ∧ i ≤ mm.length ∧ h.length = 8) (fun (i, h) => mm.length - i) (0, [1779033703, 3144134277, 1013904242, 2773480762, 1359893119, 2600822924, 528734635, 1541459225]) ⟨by omega, by omega, rfl⟩ (Sub.o (dg [109, 118, 140]) (bs 8 216)) ?_
   rintro ⟨i, h⟩ hi ih3
   refine dv (AW.seq <| AW.r <| At.a 3 <| At.sL 43 encU8 mm <| At.z 1 ·) ?_
   by_cases h4 : (i : Int) < (mm.length : Int)
   · refine dv (AW.dT h4 <| AW.skip <| AW.seq <| AW.block <| AW.g <| At.a 5 ·) ?_
     refine dv (At.sI 51 ((i : Int) + 64) (by omega) ·) ?_
     refine dv (At.sliceRef (t := 22) (d := 52) (e := 5) (es := 1) (i := 118) (x := .tmp 48) (lx := some (.tmp 49)) (hx := some (.tmp 51)) (xs := (mm.map encU8)) (vl := nI (i : Int)) (vh := nI ((i : Int) + 64)) i (((i : Int) + 64).toNat) (by kernel_rfl) (by kernel_rfl) (by kernel_rfl) (by kernel_rfl) (by kernel_rfl) (.inr ⟨_, _, rfl, rfl⟩) (.inr ⟨_, _, rfl, sayNat (by omega)⟩) (by omega) (by simp only [List.length_map]; omega) ·) ?_
     refine exE (spec_l2Block_spec h ((mm.drop i).take ((((i : Int) + 64).toNat) - i)) (by omega) (by simp only [List.length_map, lens]; omega)) fun r1_ qr1_ hr1_ => ?_
     refine dv (At.call (hr1_) Tryz.call112 false [] [(2060, 0)] [(140, 1, (h.map encI)), (118, 1, (mm.map encU8))] (by kernel_rfl) (by kernel_rfl) (Eq.trans (b := [.sl false 1 (h.map encI), .sl false 1 (((mm.map encU8).drop i).take ((((i : Int) + 64).toNat) - i))]) (by kernel_rfl) (by simp only [List.map_take, List.map_drop])) (by kernel_rfl) (by kernel_rfl) ⟨rfl, ⟨3, (h.map encI), by kernel_rfl, FrzIs.same (allP_encI _)⟩, rfl, ⟨5, (mm.map encU8), by kernel_rfl, FrzIs.same (allP_encU8 _)⟩, trivial⟩ ·) ?_
     refine dv (At.z 1 <| AW.g <| At.a 2 ·) ?_
     refine dv (At.sI 46 ((i : Int) + 64) (by omega) ·) ?_
     refine dv (At.z 1 ·) ?_
     exact dw (fun _ h_ => AWL.weak (Sub.o [(109, 109), (118, 118), (2060, 140)] (bs 8 216)) h_) (ih3 (i + 64, r1_) (by simp only; omega) (by simp only; omega))
   refine dv (AW.dF h4 <| AW.exit <| AW.seq <| AW.q 1 <| AW.block ·) ?_
   refine DW.loopQ (fun (x : Nat × List UInt8) => match x with | (k, o) => Go.Sy.mk [.un, .un, .un, .ref 109, .un, .un, .ref 140, .un, nI (k : Int)] [(109, .arr 5 1 (o.map encU8)), (140, .arr 3 1 (h.map encI))]) (fun (k, o) => k ≤ 8 ∧ o.length = 4 * k) (fun (k, o) => 8 - k) (0, []) (by simp) (Sub.o (dg [109, 140]) (bs 9 328)) ?_
   rintro ⟨k, o⟩ ho ih4
   refine dv (AW.seq <| AW.q 2 ·) ?_
   by_cases h5 : (k : Int) < 8
   · refine dv (AW.dT h5 <| AW.skip <| AW.seq <| AW.block <| AW.gD Tryz_mix <| At.a 3 ·) ?_
     refine dv (At.iRf 27 61 (.tmp 59) (.tmp 60) 140 (h.map encI) .i64 (k : Int) 3 1 (by omega) (by simp only [List.length_map]; omega) ·) ?_
     refine Exists.elim (gE h k (by omega)) fun e1 he1 => ?_
     refine dv (At.lEl 3 62 (.tmp 61) 140 3 1 (h.map encI) k 0 false 1 (encI e1) (nI e1) (mapGet he1) ·) ?_
     refine dv (At.shift (t := 3) (u := 114) (d := 63) (op := .shr) (x := .tmp 62) (y := .const (.int .u64 24)) (kd := .i64) (kd' := .u64) (a := e1) (b := 24) (shV .shr .i64 e1 24) (by kernel_rfl) (by kernel_rfl) (by kernel_rfl) (by kernel_rfl) (by omega) (shS_shr _ _ _) ·) ?_
     refine dv (At.conv (s := 3) (t := 5) (d := 64) (x := .tmp 63) (kd := .i64) (kd' := .u8) (a := shV .shr .i64 e1 24) (.int .u8 ((u8Of (shV .shr .i64 e1 24)).toNat : Int)) (by kernel_rfl) (by kernel_rfl) (by kernel_rfl) (by kernel_rfl) (sayByte _) <| At.a 2 ·) ?_
     refine dv (At.iRf 27 67 (.tmp 65) (.tmp 66) 140 (h.map encI) .i64 (k : Int) 3 1 (by omega) (by simp only [List.length_map]; omega) ·) ?_
     refine dv (At.lEl 3 68 (.tmp 67) 140 3 1 (h.map encI) k 0 false 1 (encI e1) (nI e1) (mapGet he1) ·) ?_
     refine dv (At.shift (t := 3) (u := 114) (d := 69) (op := .shr) (x := .tmp 68) (y := .const (.int .u64 16)) (kd := .i64) (kd' := .u64) (a := e1) (b := 16) (shV .shr .i64 e1 16) (by kernel_rfl) (by kernel_rfl) (by kernel_rfl) (by kernel_rfl) (by omega) (shS_shr _ _ _) ·) ?_
     refine dv (At.conv (s := 3) (t := 5) (d := 70) (x := .tmp 69) (kd := .i64) (kd' := .u8) (a := shV .shr .i64 e1 16) (.int .u8 ((u8Of (shV .shr .i64 e1 16)).toNat : Int)) (by kernel_rfl) (by kernel_rfl) (by kernel_rfl) (by kernel_rfl) (sayByte _) <| At.a 2 ·) ?_
     refine dv (At.iRf 27 73 (.tmp 71) (.tmp 72) 140 (h.map encI) .i64 (k : Int) 3 1 (by omega) (by simp only [List.length_map]; omega) ·) ?_
     refine dv (At.lEl 3 74 (.tmp 73) 140 3 1 (h.map encI) k 0 false 1 (encI e1) (nI e1) (mapGet he1) ·) ?_
     refine dv (At.shift (t := 3) (u := 114) (d := 75) (op := .shr) (x := .tmp 74) (y := .const (.int .u64 8)) (kd := .i64) (kd' := .u64) (a := e1) (b := 8) (shV .shr .i64 e1 8) (by kernel_rfl) (by kernel_rfl) (by kernel_rfl) (by kernel_rfl) (by omega) (shS_shr _ _ _) ·) ?_
     refine dv (At.conv (s := 3) (t := 5) (d := 76) (x := .tmp 75) (kd := .i64) (kd' := .u8) (a := shV .shr .i64 e1 8) (.int .u8 ((u8Of (shV .shr .i64 e1 8)).toNat : Int)) (by kernel_rfl) (by kernel_rfl) (by kernel_rfl) (by kernel_rfl) (sayByte _) <| At.a 2 ·) ?_
     refine dv (At.iRf 27 79 (.tmp 77) (.tmp 78) 140 (h.map encI) .i64 (k : Int) 3 1 (by omega) (by simp only [List.length_map]; omega) ·) ?_
     refine dv (At.lEl 3 80 (.tmp 79) 140 3 1 (h.map encI) k 0 false 1 (encI e1) (nI e1) (mapGet he1) <| At.conv (s := 3) (t := 5) (d := 81) (x := .tmp 80) (kd := .i64) (kd' := .u8) (a := e1) (.int .u8 ((u8Of e1).toNat : Int)) (by kernel_rfl) (by kernel_rfl) (by kernel_rfl) (by kernel_rfl) (sayByte _) <| At.ll 82 5 1 182 (45, 6) (([(u8Of (shV .shr .i64 e1 24)), (u8Of (shV .shr .i64 e1 16)), (u8Of (shV .shr .i64 e1 8)), (u8Of e1)]).map encU8) ·) ?_
     refine dv (At.apK 83 5 1 1 183 109 182 encU8 o ([(u8Of (shV .shr .i64 e1 24)), (u8Of (shV .shr .i64 e1 16)), (u8Of (shV .shr .i64 e1 8)), (u8Of e1)]) (by simp only [List.length_map, lens]; omega) ·) ?_
     refine dv (At.zD 1 <| AW.g <| At.a 2 ·) ?_
     refine dv (At.sI 57 ((k : Int) + 1) (by omega) ·) ?_
     refine dv (At.z 1 ·) ?_
     exact dw (fun _ h_ => AWL.weak (Sub.o [(183, 109), (140, 140)] (bs 9 328)) h_) (ih4 (k + 1, (o ++ ([(u8Of (shV .shr .i64 e1 24)), (u8Of (shV .shr .i64 e1 16)), (u8Of (shV .shr .i64 e1 8)), (u8Of e1)]))) (by simp only [lens]; omega) (by simp only; omega))
   refine dv (AW.dF h5 <| AW.exit <| AW.q 2 <| AW.ret ·) ?_
   refine dv (⟨_, Sub.refl _ _, ·⟩) ?_
   exact ⟨(o), (by (try dsimp only); (try simp only [List.length_nil]); omega), KF.n [(109, 0)]⟩
 refine dv (AW.cT (((mm.length : Int) % 64) != 56) (bne_iff_ne.2 h2) <| AW.skip <| AW.block <| AW.g <| At.a 1 <| At.ll 24 5 1 124 (45, 6) (([(0 : UInt8)]).map encU8) ·) ?_
 refine dv (At.apK 25 5 1 1 125 118 124 encU8 mm ([(0 : UInt8)]) (by simp only [List.length_map, lens]; omega) ·) ?_
 refine dv (At.z 1 ·) ?_
 exact dw (fun _ h_ => AWL.weak (Sub.o [(109, 109), (125, 118)] (bs 5 25)) h_) (ih1 (mm ++ ([(0 : UInt8)])) (by simp only [lens]; omega) (by simp only [lens]; omega))
theorem spec_l5DrawDigest_spec (c : Cur) (hp : 0 ≤ c.pos ∧ c.pos ≤ c.data.length ∧ c.data.length ≤ 1048576) : ∃ rho_ : Int × Int × ByteArray, (0 ≤ rho_.1 ∧ rho_.1 ≤ c.data.length ∧ rho_.2.2.size = 32) ∧ FnSpec Tryz.prog 50 [.ptr 0 0 0] [.box 71 [.sl false 1 (c.data.map encU8), nI c.pos, nI c.seed]] (.str rho_.2.2) [.box 71 [.sl false 1 (c.data.map encU8), nI rho_.1, nI rho_.2.1]]:= by
 refine dv (fun h_ => FnSpec.of 9 Tryz.func50 rfl Tryz.ntmps50 (by simp) (AW.weakK h_)) ?_
 refine dv (AW.q 1 <| AW.r <| At.a 1 ·) ?_
 refine exE (spec_l1Below_spec c 4 (by omega)) fun r1_ qr1_ hr1_ => ?_
 replace qr1_ := bpos qr1_ (by decide)
 refine dv (At.c (hr1_) Tryz.call45 true [(0, 0)] [] [] trivial <| At.conv (s := 3) (t := 5) (d := 5) (x := .tmp 4) (kd := .i64) (kd' := .u8) (a := r1_.2.2) (.int .u8 ((u8Of r1_.2.2).toNat : Int)) (by kernel_rfl) (by kernel_rfl) (by kernel_rfl) (by kernel_rfl) (sayByte _) <| At.ll 6 5 1 106 (45, 6) (([(u8Of r1_.2.2)]).map encU8) ·) ?_
 refine exE (spec_Sha_spec ([(u8Of r1_.2.2)]) (by simp only [List.length_map, lens]; omega)) fun r2_ qr2_ hr2_ => ?_
 refine dv (At.c (hr2_) Tryz.call89 false [] [(1140, 0)] [(106, 1, (([(u8Of r1_.2.2)]).map encU8))] ⟨rfl, ⟨5, (([(u8Of r1_.2.2)]).map encU8), by kernel_rfl, FrzIs.same (allP_encU8 _)⟩, trivial⟩ <| At.b2s (s := 22) (t := 9) (e := 5) (d := 8) (x := .tmp 7) (T := .ref 1140) (r2_) [] (by kernel_rfl) (by kernel_rfl) (by kernel_rfl) (by kernel_rfl) ⟨by kernel_rfl, .inl ⟨rfl, (allP_encU8 _)⟩⟩ <| At.z 1 <| AW.ret ·) ?_
 refine dv (⟨_, Sub.refl _ _, ·⟩) ?_
 exact ⟨(r1_.1, r1_.2.1, strOf r2_), (by dsimp only; rw [strOf_size]; simp only [List.length_cons, List.length_nil] at *; omega), KF.n [(0, 0)]⟩
theorem spec_l5DrawRight_spec (c : Cur) (hp : 0 ≤ c.pos ∧ c.pos ≤ c.data.length ∧ c.data.length ≤ 1048576) : ∃ rho_ : Int × Int × Cmd, (0 ≤ rho_.1 ∧ rho_.1 ≤ c.data.length ∧ rho_.2.2.digest.size ≤ 32) ∧ FnSpec Tryz.prog 21 [.ptr 0 0 0] [.box 71 [.sl false 1 (c.data.map encU8), nI c.pos, nI c.seed]] (.agg [nI rho_.2.2.kind, nI rho_.2.2.release, nI rho_.2.2.node, nI rho_.2.2.size, .str rho_.2.2.digest]) [.box 71 [.sl false 1 (c.data.map encU8), nI rho_.1, nI rho_.2.1]]:= by
 refine dv (fun h_ => FnSpec.of 31 Tryz.func21 rfl Tryz.ntmps21 (by simp) (AW.weakK h_)) ?_
 refine dv (AW.q 1 <| AW.r <| At.a 1 ·) ?_
 refine exE (spec_l1Below_spec c 5 (by omega)) fun r1_ qr1_ hr1_ => ?_
 replace qr1_ := bpos qr1_ (by decide)
 try dsimp only at qr1_
 refine dv (At.c (hr1_) Tryz.call45 true [(0, 0)] [] [] trivial <| At.a 1 ·) ?_
 refine dv (At.sI 6 (1 + r1_.2.2) (by omega) ·) ?_
 refine dv (At.z 3 <| AW.seq <| AW.q 3 ·) ?_
 by_cases h1 : 1 + r1_.2.2 = 1
 · refine dv (AW.cF ((1 + r1_.2.2) != 1) (by rw [bne_eq_false_iff_eq]; exact h1) ·) ?_
   refine dv (AW.skip <| AW.seq <| AW.q 2 <| AW.block <| AW.q 2 ·) ?_
   by_cases h2 : 1 + r1_.2.2 = 3
   · refine dv (AW.cT ((1 + r1_.2.2) == 3) (beq_iff_eq.2 h2) <| AW.g <| At.a 1 ·) ?_
     refine exE (spec_l1Below_spec ⟨c.data, r1_.1, r1_.2.1⟩ 3 (by omega)) fun r2_ qr2_ hr2_ => ?_
     replace qr2_ := bpos qr2_ (by decide)
     try dsimp only at qr2_
     refine dv (At.c (hr2_) Tryz.call45 true [(0, 0)] [] [] trivial <| At.z 2 <| AW.q 2 <| AW.ret ·) ?_
     refine dv (⟨_, Sub.refl _ _, ·⟩) ?_
     exact ⟨(r2_.1, r2_.2.1, (⟨1 + r1_.2.2, 0, r2_.2.2, 0, eB⟩ : Cmd)), (by dsimp only; omega), KF.n [(0, 0)]⟩
   refine dv (AW.cF ((1 + r1_.2.2) == 3) (beq_eq_false_iff_ne.2 h2) <| AW.q 2 ·) ?_
   by_cases h3 : 1 + r1_.2.2 = 2
   · refine dv (AW.cT ((1 + r1_.2.2) == 2) (beq_iff_eq.2 h3) <| AW.r <| At.a 1 ·) ?_
     refine exE (spec_l1Below_spec ⟨c.data, r1_.1, r1_.2.1⟩ 40 (by omega)) fun r2_ qr2_ hr2_ => ?_
     replace qr2_ := bpos qr2_ (by decide)
     try dsimp only at qr2_
     refine dv (At.c (hr2_) Tryz.call45 true [(0, 0)] [] [] trivial <| At.z 2 <| AW.g <| At.a 1 ·) ?_
     refine exE (spec_l5DrawDigest_spec ⟨c.data, r2_.1, r2_.2.1⟩ (by omega)) fun r3_ qr3_ hr3_ => ?_
     try dsimp only at qr3_
     refine dv (At.c (hr3_) Tryz.call50 true [(0, 0)] [] [] trivial <| At.z 2 <| AW.q 2 <| AW.ret ·) ?_
     refine dv (⟨_, Sub.refl _ _, ·⟩) ?_
     exact ⟨(r3_.1, r3_.2.1, (⟨1 + r1_.2.2, 0, 0, r2_.2.2, r3_.2.2⟩ : Cmd)), (by dsimp only; omega), KF.n [(0, 0)]⟩
   refine dv (AW.cF ((1 + r1_.2.2) == 2) (beq_eq_false_iff_ne.2 h3) <| AW.skip <| AW.q 2 <| AW.ret ·) ?_
   refine dv (⟨_, Sub.refl _ _, ·⟩) ?_
   exact ⟨(r1_.1, r1_.2.1, (⟨1 + r1_.2.2, 0, 0, 0, eB⟩ : Cmd)), (by dsimp only; refine ⟨by omega, by omega, ?_⟩; exact (show (0 : Nat) ≤ 32 by omega)), KF.n [(0, 0)]⟩
 refine dv (AW.cT ((1 + r1_.2.2) != 1) (bne_iff_ne.2 h1) <| AW.g <| At.a 1 ·) ?_
 refine exE (spec_l1Below_spec ⟨c.data, r1_.1, r1_.2.1⟩ 4 (by dsimp only; omega)) fun r2_ qr2_ hr2_ => ?_
 replace qr2_ := bpos qr2_ (by decide)
 try dsimp only at qr2_
 refine dv (At.c (hr2_) Tryz.call45 true [(0, 0)] [] [] trivial <| At.a 1 ·) ?_
 refine dv (At.sI 13 (1 + r2_.2.2) (by omega) ·) ?_
 refine dv (At.z 2 <| AW.seq <| AW.q 2 <| AW.block <| AW.q 2 ·) ?_
 by_cases h4 : 1 + r1_.2.2 = 3
 · refine dv (AW.cT ((1 + r1_.2.2) == 3) (beq_iff_eq.2 h4) <| AW.g <| At.a 1 ·) ?_
   refine exE (spec_l1Below_spec ⟨c.data, r2_.1, r2_.2.1⟩ 3 (by dsimp only; omega)) fun r3_ qr3_ hr3_ => ?_
   replace qr3_ := bpos qr3_ (by decide)
   try dsimp only at qr3_
   refine dv (At.c (hr3_) Tryz.call45 true [(0, 0)] [] [] trivial <| At.z 2 <| AW.q 2 <| AW.ret ·) ?_
   refine dv (⟨_, Sub.refl _ _, ·⟩) ?_
   exact ⟨(r3_.1, r3_.2.1, (⟨1 + r1_.2.2, 1 + r2_.2.2, r3_.2.2, 0, eB⟩ : Cmd)), (by dsimp only; refine ⟨by omega, by omega, ?_⟩; exact (show (0 : Nat) ≤ 32 by omega)), KF.n [(0, 0)]⟩
 refine dv (AW.cF ((1 + r1_.2.2) == 3) (beq_eq_false_iff_ne.2 h4) <| AW.q 2 ·) ?_
 by_cases h5 : 1 + r1_.2.2 = 2
 · refine dv (AW.cT ((1 + r1_.2.2) == 2) (beq_iff_eq.2 h5) <| AW.r <| At.a 1 ·) ?_
   refine exE (spec_l1Below_spec ⟨c.data, r2_.1, r2_.2.1⟩ 40 (by dsimp only; omega)) fun r3_ qr3_ hr3_ => ?_
   replace qr3_ := bpos qr3_ (by decide)
   try dsimp only at qr3_
   refine dv (At.c (hr3_) Tryz.call45 true [(0, 0)] [] [] trivial <| At.z 2 <| AW.g <| At.a 1 ·) ?_
   refine exE (spec_l5DrawDigest_spec ⟨c.data, r3_.1, r3_.2.1⟩ (by dsimp only; omega)) fun r4_ qr4_ hr4_ => ?_
   try dsimp only at qr4_
   refine dv (At.c (hr4_) Tryz.call50 true [(0, 0)] [] [] trivial <| At.z 2 <| AW.q 2 <| AW.ret ·) ?_
   refine dv (⟨_, Sub.refl _ _, ·⟩) ?_
   exact ⟨(r4_.1, r4_.2.1, (⟨1 + r1_.2.2, 1 + r2_.2.2, 0, r3_.2.2, r4_.2.2⟩ : Cmd)), (by dsimp only; omega), KF.n [(0, 0)]⟩
 refine dv (AW.cF ((1 + r1_.2.2) == 2) (beq_eq_false_iff_ne.2 h5) <| AW.skip <| AW.q 2 <| AW.ret ·) ?_
 refine dv (⟨_, Sub.refl _ _, ·⟩) ?_
 exact ⟨(r2_.1, r2_.2.1, (⟨1 + r1_.2.2, 1 + r2_.2.2, 0, 0, eB⟩ : Cmd)), (by dsimp only; refine ⟨by omega, by omega, ?_⟩; exact (show (0 : Nat) ≤ 32 by omega)), KF.n [(0, 0)]⟩
def K_spec_RaftPropose (rs : List ResultVar) (r : Raft) (c : Cmd) (w0_ : Raft) (w1_ : List Rec) (w2_ : List Out) (w3_ : Bool) : Exit → Sg → Prop := KF Tryz.prog 0 rs (.tup [.agg (rC w0_ (.ref 0) (.ref 1) (.ref 2) (.ref 3)), .ref 4, .ref 5, .bool w3_]) [.arr 45 6 (w0_.hard.log.map encEnt), .arr 3 1 (w0_.yes.map encI), .arr 3 1 (w0_.next.map encI), .arr 3 1 (w0_.match_.map encI), .arr 47 10 (w1_.map encRec), .arr 51 17 (w2_.map encOut)]
theorem spec_RaftPropose_spec (r : Raft) (c : Cmd) (hz : SmallR r) : FnSpec Tryz.prog 81 [(raftA r), .agg [nI c.kind, nI c.release, nI c.node, nI c.size, .str c.digest]] [] (.tup [.agg (rC (propR r c) (.ref 0) (.ref 1) (.ref 2) (.ref 3)), .ref 4, .ref 5, .bool (propOk r c)]) [.arr 45 6 (((propR r c).hard.log).map encEnt), .arr 3 1 (((propR r c).yes).map encI), .arr 3 1 (((propR r c).next).map encI), .arr 3 1 (((propR r c).match_).map encI), .arr 47 10 ((propRecs r c).map encRec), .arr 51 17 ((propOuts r c).map encOut)]:= by
 obtain ⟨z1, z2, z3, z4⟩ := id hz
 refine FnSpec.of 62 Tryz.func81 rfl Tryz.ntmps81 (by simp) (AW.weakK ?_)
 by_cases hok : raftOk r = true
 · have hokn := raftOk1_nums (raftOk_1 hok)
   refine AW.q 6 <| AW.seq <| AW.weak (Sub.nils [⟨true, 104, some 6, 5001, 45, 6⟩, ⟨true, 104, some 7, 5002, 3, 1⟩, ⟨true, 104, some 8, 5003, 3, 1⟩, ⟨true, 104, some 9, 5004, 3, 1⟩] (by kernel_rfl)) <| AW.g <| At.a 1 <| At.c (spec_l10Same_T_spec r (by exact hz) hok) Tryz.call101 true [] (fr 1220 0 4) [] trivial <| At.l0 37 12 47 10 88 112 <| At.z 3 <| AW.seq <| AW.r <| At.a 1 <| At.c (spec_RaftOk_spec r (by exact hz)) Tryz.call11 true [] [] [] trivial <| At.a 2 <| At.sB 16 (!(raftOk r)) false (sayB (by rw [show (raftOk r) = true from hok]; rfl)) <| At.a 5 ?_
   by_cases h1 : r.role = 3
   · refine At.sB 21 _ _ (sayUF h1) ?_
     have hnx := raftOk_next hok h1
     refine At.a 1 <| At.c (spec_CmdOk_spec c) Tryz.call99 true [] [] [] trivial <| At.a 3 ?_
     by_cases h2 : (cmdOk c) = true
     · refine At.sB 26 (!(cmdOk c)) false (sayNF (sayB h2)) <| At.a 1 <| At.c (spec_l10End_spec r) Tryz.call29 true [] [] [] trivial <| At.z 2 <| AW.cE (r.hard.log.length : Int) (80 : Int) (fun h3 => ?_) (fun h3 => ?_)
       · exact AW.r <| At.a 2 <| At.l0 38 33 51 17 168 133 <| At.z 4 <| AW.ret (rf (k4 (K_spec_RaftPropose _ r c) (show (r) = _ from by have q : propOk r c = false := (by grind [propOk]); simp [propR, propRecs, propOuts, same, hok, q]) (show ([]) = _ from by have q : propOk r c = false := (by grind [propOk]); simp [propR, propRecs, propOuts, same, hok, q]) (show ([]) = _ from by have q : propOk r c = false := (by grind [propOk]); simp [propR, propRecs, propOuts, same, hok, q]) (show (false) = _ from by have q : propOk r c = false := (by grind [propOk]); simp [propR, propRecs, propOuts, same, hok, q]) (KF.n [(1220, 0), (1221, 1), (1222, 2), (1223, 3), (112, 4), (133, 5)])))
       refine AW.skip <| AW.r <| At.a 7 <| At.c (spec_l10Put_spec r ⟨r.hard.term, c⟩ ([]) (by omega) (by simp only [List.length_map, lens]; omega)) Tryz.call105 true [(1220, 0), (1221, 1), (1222, 2), (1223, 3), (112, 4)] [(1840, 5), (1841, 6)] [] trivial <| At.z 5 <| AW.seq <| AW.gD Tryz_mix <| At.a 5 <| At.c (spec_l10End_spec ⟨r.id, r.of_, r.role, r.commit, ⟨r.hard.term, r.hard.vote, r.hard.log ++ [(⟨r.hard.term, c⟩ : Ent)]⟩, r.yes, r.next, r.match_⟩) Tryz.call29 false [] [] [(1840, 6, ((r.hard.log ++ [(⟨r.hard.term, c⟩ : Ent)]).map encEnt)), (1221, 1, (r.yes.map encI)), (1222, 1, (r.next.map encI)), (1223, 1, (r.match_.map encI))] ⟨rfl, ⟨45, ((r.hard.log ++ [(⟨r.hard.term, c⟩ : Ent)]).map encEnt), by kernel_rfl, FrzIs.same (allP_encEnt _)⟩, rfl, ⟨3, (r.yes.map encI), by kernel_rfl, FrzIs.same (allP_encI _)⟩, rfl, ⟨3, (r.next.map encI), by kernel_rfl, FrzIs.same (allP_encI _)⟩, rfl, ⟨3, (r.match_.map encI), by kernel_rfl, FrzIs.same (allP_encI _)⟩, trivial⟩ <| At.iRf 27 51 (.tmp 46) (.tmp 48) 1223 (r.match_.map encI) .i64 r.id 3 1 (by omega) (by simp only [List.length_map]; omega) ?_
       refine Exists.elim (gE r.match_ ((r.id).toNat) (by omega)) fun e1 he1 => ?_
       refine At.sEl 3 1223 3 1 ((r.id).toNat) 0 (.tmp 51) (.tmp 50) (r.match_.map encI) ((r.match_.set ((r.id).toNat) ((r.hard.log ++ [(⟨r.hard.term, c⟩ : Ent)]).length : Int)).map encI) [nI ((r.hard.log ++ [(⟨r.hard.term, c⟩ : Ent)]).length : Int)] (nI ((r.hard.log ++ [(⟨r.hard.term, c⟩ : Ent)]).length : Int)) (encI e1) (encI ((r.hard.log ++ [(⟨r.hard.term, c⟩ : Ent)]).length : Int)) (mapGet he1) setV <| At.done rfl ⟨by kernel_rfl, ?_⟩
       refine AW.seq <| AW.q 3 <| AW.cE r.of_ (1 : Int) (fun h4 => ?_) (fun h4 => ?_)
       · refine AW.g <| At.a 1 <| At.c (spec_l10End_spec ⟨r.id, r.of_, r.role, r.commit, ⟨r.hard.term, r.hard.vote, r.hard.log ++ [(⟨r.hard.term, c⟩ : Ent)]⟩, r.yes, r.next, r.match_.set ((r.id).toNat) ((r.hard.log ++ [(⟨r.hard.term, c⟩ : Ent)]).length : Int)⟩) Tryz.call29 false [] [] [(1840, 6, ((r.hard.log ++ [(⟨r.hard.term, c⟩ : Ent)]).map encEnt)), (1221, 1, (r.yes.map encI)), (1222, 1, (r.next.map encI)), (1223, 1, ((r.match_.set ((r.id).toNat) ((r.hard.log ++ [(⟨r.hard.term, c⟩ : Ent)]).length : Int)).map encI))] ⟨rfl, ⟨45, ((r.hard.log ++ [(⟨r.hard.term, c⟩ : Ent)]).map encEnt), by kernel_rfl, FrzIs.same (allP_encEnt _)⟩, rfl, ⟨3, (r.yes.map encI), by kernel_rfl, FrzIs.same (allP_encI _)⟩, rfl, ⟨3, (r.next.map encI), by kernel_rfl, FrzIs.same (allP_encI _)⟩, rfl, ⟨3, ((r.match_.set ((r.id).toNat) ((r.hard.log ++ [(⟨r.hard.term, c⟩ : Ent)]).length : Int)).map encI), by kernel_rfl, FrzIs.same (allP_encI _)⟩, trivial⟩ <| At.z 2 <| AW.seq <| AW.gD Tryz_mix <| At.a 3 <| At.c (spec_l10SendAll_spec ⟨r.id, r.of_, r.role, ((r.hard.log ++ [(⟨r.hard.term, c⟩ : Ent)]).length : Int), ⟨r.hard.term, r.hard.vote, r.hard.log ++ [(⟨r.hard.term, c⟩ : Ent)]⟩, r.yes, r.next, r.match_.set ((r.id).toNat) ((r.hard.log ++ [(⟨r.hard.term, c⟩ : Ent)]).length : Int)⟩ (by unfold SmallR; simp only [List.length_append, List.length_set, List.length_cons, List.length_nil]; omega) (by dsimp only; omega) (by dsimp only; omega) (had_next (e := propE (⟨r.id, r.of_, r.role, ((r.hard.log ++ [(⟨r.hard.term, c⟩ : Ent)]).length : Int), ⟨r.hard.term, r.hard.vote, r.hard.log ++ [(⟨r.hard.term, c⟩ : Ent)]⟩, r.yes, r.next, r.match_.set ((r.id).toNat) ((r.hard.log ++ [(⟨r.hard.term, c⟩ : Ent)]).length : Int)⟩ : Raft) c) hnx.2.1)) Tryz.call106 false [] [(2220, 0)] [(1840, 6, ((r.hard.log ++ [(⟨r.hard.term, c⟩ : Ent)]).map encEnt)), (1221, 1, (r.yes.map encI)), (1222, 1, (r.next.map encI)), (1223, 1, ((r.match_.set ((r.id).toNat) ((r.hard.log ++ [(⟨r.hard.term, c⟩ : Ent)]).length : Int)).map encI))] ⟨rfl, ⟨45, ((r.hard.log ++ [(⟨r.hard.term, c⟩ : Ent)]).map encEnt), by kernel_rfl, FrzIs.same (allP_encEnt _)⟩, rfl, ⟨3, (r.yes.map encI), by kernel_rfl, FrzIs.same (allP_encI _)⟩, rfl, ⟨3, (r.next.map encI), by kernel_rfl, FrzIs.same (allP_encI _)⟩, rfl, ⟨3, ((r.match_.set ((r.id).toNat) ((r.hard.log ++ [(⟨r.hard.term, c⟩ : Ent)]).length : Int)).map encI), by kernel_rfl, FrzIs.same (allP_encI _)⟩, trivial⟩ ?_
         exact At.zD 4 <| AW.ret (rf (k4 (K_spec_RaftPropose _ r c) (show ((⟨r.id, r.of_, r.role, ((r.hard.log ++ [(⟨r.hard.term, c⟩ : Ent)]).length : Int), ⟨r.hard.term, r.hard.vote, r.hard.log ++ [(⟨r.hard.term, c⟩ : Ent)]⟩, r.yes, r.next, r.match_.set ((r.id).toNat) ((r.hard.log ++ [(⟨r.hard.term, c⟩ : Ent)]).length : Int)⟩ : Raft)) = _ from by have q : propOk r c = true := (by grind [propOk]); simp only [propR, propRecs, propOuts, if_pos q]; simp [endRecs, had, put, propE, putRec, h1, h2, h3, h4]) (show (([]) ++ [(⟨2, 0, 0, ((r.hard.log ++ [(⟨r.hard.term, c⟩ : Ent)]).length : Int), (⟨r.hard.term, c⟩ : Ent)⟩ : Rec)]) = _ from by have q : propOk r c = true := (by grind [propOk]); simp only [propR, propRecs, propOuts, if_pos q]; rfl) (show (sendAll (⟨r.id, r.of_, r.role, ((r.hard.log ++ [(⟨r.hard.term, c⟩ : Ent)]).length : Int), ⟨r.hard.term, r.hard.vote, r.hard.log ++ [(⟨r.hard.term, c⟩ : Ent)]⟩, r.yes, r.next, r.match_.set ((r.id).toNat) ((r.hard.log ++ [(⟨r.hard.term, c⟩ : Ent)]).length : Int)⟩ : Raft)) = _ from by have q : propOk r c = true := (by grind [propOk]); simp only [propR, propRecs, propOuts, if_pos q]; simp [endRecs, had, put, propE, putRec, h1, h2, h3, h4]) (show (true) = _ from by have q : propOk r c = true := (by grind [propOk]); exact q.symm) (KF.n [(1840, 0), (1221, 1), (1222, 2), (1223, 3), (1841, 4), (2220, 5)])))
       exact AW.skip <| AW.seq <| AW.gD Tryz_mix <| At.a 3 <| At.c (spec_l10SendAll_spec ⟨r.id, r.of_, r.role, r.commit, ⟨r.hard.term, r.hard.vote, r.hard.log ++ [(⟨r.hard.term, c⟩ : Ent)]⟩, r.yes, r.next, r.match_.set ((r.id).toNat) ((r.hard.log ++ [(⟨r.hard.term, c⟩ : Ent)]).length : Int)⟩ (by unfold SmallR; simp only [List.length_append, List.length_set, List.length_cons, List.length_nil]; omega) (by dsimp only; omega) (by dsimp only; omega) (had_next (e := propE (⟨r.id, r.of_, r.role, r.commit, ⟨r.hard.term, r.hard.vote, r.hard.log ++ [(⟨r.hard.term, c⟩ : Ent)]⟩, r.yes, r.next, r.match_.set ((r.id).toNat) ((r.hard.log ++ [(⟨r.hard.term, c⟩ : Ent)]).length : Int)⟩ : Raft) c) hnx.2.1)) Tryz.call106 false [] [(2220, 0)] [(1840, 6, ((r.hard.log ++ [(⟨r.hard.term, c⟩ : Ent)]).map encEnt)), (1221, 1, (r.yes.map encI)), (1222, 1, (r.next.map encI)), (1223, 1, ((r.match_.set ((r.id).toNat) ((r.hard.log ++ [(⟨r.hard.term, c⟩ : Ent)]).length : Int)).map encI))] ⟨rfl, ⟨45, ((r.hard.log ++ [(⟨r.hard.term, c⟩ : Ent)]).map encEnt), by kernel_rfl, FrzIs.same (allP_encEnt _)⟩, rfl, ⟨3, (r.yes.map encI), by kernel_rfl, FrzIs.same (allP_encI _)⟩, rfl, ⟨3, (r.next.map encI), by kernel_rfl, FrzIs.same (allP_encI _)⟩, rfl, ⟨3, ((r.match_.set ((r.id).toNat) ((r.hard.log ++ [(⟨r.hard.term, c⟩ : Ent)]).length : Int)).map encI), by kernel_rfl, FrzIs.same (allP_encI _)⟩, trivial⟩ <| At.zD 4 <| AW.ret (rf (k4 (K_spec_RaftPropose _ r c) (show ((⟨r.id, r.of_, r.role, r.commit, ⟨r.hard.term, r.hard.vote, r.hard.log ++ [(⟨r.hard.term, c⟩ : Ent)]⟩, r.yes, r.next, r.match_.set ((r.id).toNat) ((r.hard.log ++ [(⟨r.hard.term, c⟩ : Ent)]).length : Int)⟩ : Raft)) = _ from by have q : propOk r c = true := (by grind [propOk]); simp only [propR, propRecs, propOuts, if_pos q]; simp [endRecs, had, put, propE, putRec, h1, h2, h3, h4]) (show (([]) ++ [(⟨2, 0, 0, ((r.hard.log ++ [(⟨r.hard.term, c⟩ : Ent)]).length : Int), (⟨r.hard.term, c⟩ : Ent)⟩ : Rec)]) = _ from by have q : propOk r c = true := (by grind [propOk]); simp only [propR, propRecs, propOuts, if_pos q]; rfl) (show (sendAll (⟨r.id, r.of_, r.role, r.commit, ⟨r.hard.term, r.hard.vote, r.hard.log ++ [(⟨r.hard.term, c⟩ : Ent)]⟩, r.yes, r.next, r.match_.set ((r.id).toNat) ((r.hard.log ++ [(⟨r.hard.term, c⟩ : Ent)]).length : Int)⟩ : Raft)) = _ from by have q : propOk r c = true := (by grind [propOk]); simp only [propR, propRecs, propOuts, if_pos q]; simp [endRecs, had, put, propE, putRec, h1, h2, h3, h4]) (show (true) = _ from by have q : propOk r c = true := (by grind [propOk]); exact q.symm) (KF.n [(1840, 0), (1221, 1), (1222, 2), (1223, 3), (1841, 4), (2220, 5)])))
     refine At.sB 26 (!(cmdOk c)) true (sayNT (sayB (Bool.eq_false_iff.2 h2))) ?_
     replace h2 := Bool.eq_false_iff.2 h2
     refine At.z 4 <| AW.cond true (by kernel_rfl) (fun _ => ?_) (fun h => by cases h)
     exact AW.r <| At.a 2 <| At.l0 38 33 51 17 168 133 <| At.z 4 <| AW.ret (rf (k4 (K_spec_RaftPropose _ r c) (show (r) = _ from by have q : propOk r c = false := (by grind [propOk]); simp [propR, propRecs, propOuts, same, hok, q]) (show ([]) = _ from by have q : propOk r c = false := (by grind [propOk]); simp [propR, propRecs, propOuts, same, hok, q]) (show ([]) = _ from by have q : propOk r c = false := (by grind [propOk]); simp [propR, propRecs, propOuts, same, hok, q]) (show (false) = _ from by have q : propOk r c = false := (by grind [propOk]); simp [propR, propRecs, propOuts, same, hok, q]) (KF.n [(1220, 0), (1221, 1), (1222, 2), (1223, 3), (112, 4), (133, 5)])))
   refine At.sB 21 _ _ (sayUT h1) <| At.z 9 <| AW.cond true (by kernel_rfl) (fun _ => ?_) (fun h => by cases h)
   exact AW.r <| At.a 2 <| At.l0 38 33 51 17 168 133 <| At.z 4 <| AW.ret (rf (k4 (K_spec_RaftPropose _ r c) (show (r) = _ from by have q : propOk r c = false := (by grind [propOk]); simp [propR, propRecs, propOuts, same, hok, q]) (show ([]) = _ from by have q : propOk r c = false := (by grind [propOk]); simp [propR, propRecs, propOuts, same, hok, q]) (show ([]) = _ from by have q : propOk r c = false := (by grind [propOk]); simp [propR, propRecs, propOuts, same, hok, q]) (show (false) = _ from by have q : propOk r c = false := (by grind [propOk]); simp [propR, propRecs, propOuts, same, hok, q]) (KF.n [(1220, 0), (1221, 1), (1222, 2), (1223, 3), (112, 4), (133, 5)])))
 refine AW.q 6 <| AW.seq <| AW.weak (Sub.nils [⟨true, 104, some 6, 5001, 45, 6⟩, ⟨true, 104, some 7, 5002, 3, 1⟩, ⟨true, 104, some 8, 5003, 3, 1⟩, ⟨true, 104, some 9, 5004, 3, 1⟩] (by kernel_rfl)) <| AW.g <| At.a 1 <| At.c (spec_l10Same_F_spec r (by exact hz) hok) Tryz.call101 true [] (fr 1220 0 4) [] trivial <| At.l0 37 12 47 10 88 112 <| At.z 3 <| AW.seq <| AW.r <| At.a 1 <| At.c (spec_RaftOk_spec r (by exact hz)) Tryz.call11 true [] [] [] trivial <| At.a 2 <| At.sB 16 (!(raftOk r)) true (sayB (by rw [show (raftOk r) = false from (Bool.eq_false_iff.2 hok)]; rfl)) <| At.z 14 <| AW.cond true (by kernel_rfl) (fun _ => ?_) (fun h => by cases h)
 exact AW.r <| At.a 2 <| At.l0 38 33 51 17 168 133 <| At.z 4 <| AW.ret (rf (k4 (K_spec_RaftPropose _ r c) (show ((⟨0, 0, 0, 0, ⟨0, 0, []⟩, [], [], []⟩ : Raft)) = _ from by simp [propR, propRecs, propOuts, propOk, same, hok]; try rfl) (show ([]) = _ from by simp [propR, propRecs, propOuts, propOk, same, hok]; try rfl) (show ([]) = _ from by simp [propR, propRecs, propOuts, propOk, same, hok]; try rfl) (show (false) = _ from by simp [propR, propRecs, propOuts, propOk, same, hok]; try rfl) (KF.n [(1220, 0), (1221, 1), (1222, 2), (1223, 3), (112, 4), (133, 5)])))
def K_spec_RaftBeat (rs : List ResultVar) (r : Raft) (w0_ : List Out) : Exit → Sg → Prop := KF Tryz.prog 0 rs (.ref 0) [.arr 51 17 (w0_.map encOut)]
theorem spec_RaftBeat_spec (r : Raft) (hz : SmallR r) : FnSpec Tryz.prog 82 [(raftA r)] [] (.ref 0) [.arr 51 17 ((beat r).map encOut)]:= by
 obtain ⟨z1, z2, z3, z4⟩ := id hz
 refine FnSpec.of 21 Tryz.func82 rfl Tryz.ntmps82 (by simp) (AW.weakK ?_)
 refine AW.q 2 <| AW.seq <| AW.block <| AW.r <| At.a 1 <| At.c (spec_RaftOk_spec r hz) Tryz.call11 true [] [] [] trivial <| At.z 2 <| AW.cNB (raftOk r) (fun h1 => ?_) (fun h1 => ?_)
 · exact AW.r <| At.l0 38 7 51 17 168 107 <| At.z 1 <| AW.ret (rf (k1 (K_spec_RaftBeat _ r) (show ([]) = _ from by simp [beat, *]) (KF.n [(107, 0)])))
 have h1n := raftOk1_nums (raftOk_1 h1)
 refine AW.q 4 <| AW.cE r.role (3 : Int) (fun h2 => ?_) (fun h2 => ?_)
 · exact AW.r <| At.a 1 <| At.c (spec_l10SendAll_spec r hz (by omega) (by have := raftOk_next h1 h2; omega) (raftOk_next h1 h2).2.1) Tryz.call106 true [] [(1260, 0)] [] trivial <| At.z 1 <| AW.ret (rf (k1 (K_spec_RaftBeat _ r) (show (sendAll r) = _ from by simp [beat, *]) (KF.n [(1260, 0)])))
 refine AW.q 4 <| AW.cE r.role (2 : Int) (fun h3 => ?_) (fun h3 => ?_)
 · exact AW.r <| At.a 1 <| At.c (spec_l10Asks_spec r hz (by omega)) Tryz.call104 true [] [(1380, 0)] [] trivial <| At.z 1 <| AW.ret (rf (k1 (K_spec_RaftBeat _ r) (show (asks r) = _ from by simp [beat, *]) (KF.n [(1380, 0)])))
 exact AW.skip <| AW.r <| At.l0 38 20 51 17 168 120 <| At.z 1 <| AW.ret (rf (k1 (K_spec_RaftBeat _ r) (show ([]) = _ from by simp [beat, *]) (KF.n [(120, 0)])))
theorem spec_l8Has_spec (kind : Int) : FnSpec Tryz.prog 86 [nI kind] [] (.str (l8F kind)) []:= by
 refine FnSpec.of 10 Tryz.func86 rfl Tryz.ntmps86 (by simp) (AW.weakK ?_)
 refine AW.q 1 <| AW.seq <| AW.r <| At.a 1 <| At.c (spec_l1In_spec kind 1 7) Tryz.call27 true [] [] [] trivial <| At.z 1 <| AW.cNB (inR kind 1 7) (fun h1 => ?_) (fun h1 => ?_)
 · refine AW.q 1 <| AW.ret ?_
   refine ⟨_, Sub.refl _ _, ?_⟩
   refine KF.conv (fun w => .str w) (fun w => []) (show (eB) = (l8F kind) from by simp [l8F, h1]; done) ?_
   exact KF.n []
 have h1i := inR_iff.1 h1
 refine AW.skip <| AW.r <| At.ll 6 9 1 106 (45, 6) (([eB, (⟨#[102, 116, 97, 115]⟩ : ByteArray), (⟨#[102, 116, 121]⟩ : ByteArray), (⟨#[102, 116, 97, 115, 99, 101]⟩ : ByteArray), (⟨#[102, 116, 121, 97]⟩ : ByteArray), (⟨#[102, 114, 112]⟩ : ByteArray), (⟨#[102, 114, 112, 98]⟩ : ByteArray), (⟨#[102, 100]⟩ : ByteArray)]).map encS) <| At.a 1 <| At.iRf 123 8 (.tmp 6) (.tmp 7) 106 (([eB, (⟨#[102, 116, 97, 115]⟩ : ByteArray), (⟨#[102, 116, 121]⟩ : ByteArray), (⟨#[102, 116, 97, 115, 99, 101]⟩ : ByteArray), (⟨#[102, 116, 121, 97]⟩ : ByteArray), (⟨#[102, 114, 112]⟩ : ByteArray), (⟨#[102, 114, 112, 98]⟩ : ByteArray), (⟨#[102, 100]⟩ : ByteArray)]).map encS) .i64 kind 9 1 (by omega) (by simp only [List.length_map, lens]; omega) ?_
 refine Exists.elim (gE ([eB, (⟨#[102, 116, 97, 115]⟩ : ByteArray), (⟨#[102, 116, 121]⟩ : ByteArray), (⟨#[102, 116, 97, 115, 99, 101]⟩ : ByteArray), (⟨#[102, 116, 121, 97]⟩ : ByteArray), (⟨#[102, 114, 112]⟩ : ByteArray), (⟨#[102, 114, 112, 98]⟩ : ByteArray), (⟨#[102, 100]⟩ : ByteArray)]) ((kind).toNat) (by simp only [List.length_map, lens]; omega)) fun e1 he1 => ?_
 refine At.lEl 9 9 (.tmp 8) 106 9 1 (([eB, (⟨#[102, 116, 97, 115]⟩ : ByteArray), (⟨#[102, 116, 121]⟩ : ByteArray), (⟨#[102, 116, 97, 115, 99, 101]⟩ : ByteArray), (⟨#[102, 116, 121, 97]⟩ : ByteArray), (⟨#[102, 114, 112]⟩ : ByteArray), (⟨#[102, 114, 112, 98]⟩ : ByteArray), (⟨#[102, 100]⟩ : ByteArray)]).map encS) ((kind).toNat) 0 false 1 (encS e1) (.str e1) (mapGet he1) <| At.z 1 <| AW.ret ?_
 refine ⟨_, Sub.refl _ _, ?_⟩
 refine KF.conv (fun w => .str w) (fun w => []) (show (e1) = (l8F kind) from by rw [l8F, if_pos (by assumption)]; simp only [l8L, he1, Option.getD_some]) ?_
 exact KF.n []
theorem spec_l8In_spec (s : ByteArray) (b : UInt8) (hs : s.size ≤ 1048576) : FnSpec Tryz.prog 149 [.str s, .int .u8 (b.toNat : Int)] [] (.bool (hasU (b.toNat : Int) s.data.toList)) []:= by
 refine FnSpec.of 17 Tryz.func149 rfl Tryz.ntmps149 (by simp) (AW.weakK ?_)
 refine AW.q 1 <| AW.seq <| AW.q 1 <| AW.block <| AW.loopW (fun (k : Nat) => Go.Sy.mk [.str s, .int .u8 (b.toNat : Int), .un, .un, .un, nI (k : Int)] []) (fun k => k ≤ s.size ∧ hasU (b.toNat : Int) s.data.toList = hasU (b.toNat : Int) (s.data.toList.drop k)) (fun k => s.size - k) 0 ⟨by omega, by rw [List.drop_zero]⟩ (Sub.o [] (bs 6 35)) ?_
 rintro k ⟨hk, hR⟩
 refine AW.seq <| AW.q 4 <| AW.cD ((k : Int) < (s.size : Int)) (fun h1 => ?_) (fun h1 => ?_)
 · refine AW.skip <| AW.seq <| AW.block <| AW.r <| At.a 2 ?_
   refine Exists.elim (show ∃ e, s.data[k]? = some e from ⟨_, Array.getElem?_eq_getElem (by show _ < s.size; omega)⟩) fun e1 he1 => ?_
   have hl1 : s.data.toList[k]? = some e1 := by simpa using he1
   refine At.idxStr (t := 9) (d := 14) (x := .tmp 12) (y := .tmp 13) (s := s) (kd := .i64) (i := (k : Int)) e1 (by kernel_rfl) (by kernel_rfl) (by kernel_rfl) (by kernel_rfl) (by omega) he1 <| At.z 2 <| AW.cE (e1.toNat : Int) (b.toNat : Int) (fun h2 => ?_) (fun h2 => ?_)
   · refine AW.q 1 <| AW.ret ?_
     refine ⟨_, Sub.refl _ _, ?_⟩
     refine KF.conv (fun w => .bool w) (fun w => []) (show (true) = (hasU (b.toNat : Int) s.data.toList) from by rw [hR, dropCons hl1]; simp [hasU, h1, h2]) ?_
     exact KF.n []
   refine AW.skip <| AW.g <| At.a 2 <| At.sI 11 ((k : Int) + 1) (by omega) <| At.z 1 ?_
   exact ⟨k + 1, ⟨by omega, by rw [hR, dropCons hl1]; simp [hasU, h1, h2]⟩, (by omega), Sub.o [] (bs 6 35)⟩
 refine AW.exit <| AW.q 1 <| AW.ret ?_
 refine ⟨_, Sub.refl _ _, ?_⟩
 refine KF.conv (fun w => .bool w) (fun w => []) (show (false) = (hasU (b.toNat : Int) s.data.toList) from by rw [hR, List.drop_of_length_le (by rw [Array.length_toList]; show s.size ≤ _; omega)]; rfl) ?_
 exact KF.n []
theorem spec_l8Num_spec (has : Bool) (x : Int) (lo : Int) (hi : Int) : FnSpec Tryz.prog 148 [.bool has, nI x, nI lo, nI hi] [] (.bool (num8 has x lo hi)) []:= by
 refine FnSpec.of 24 Tryz.func148 rfl Tryz.ntmps148 (by simp) (AW.weakK ?_)
 refine AW.q 1 <| AW.r <| At.a 2 ?_
 by_cases h1 : has = true
 · refine At.sB 10 has true (sayB h1) <| At.a 3 <| At.c (spec_l1In_spec x lo hi) Tryz.call27 true [] [] [] trivial <| At.a 2 ?_
   by_cases h2 : (inR x lo hi) = true
   · refine At.sB 16 (inR x lo hi) true (sayB h2) ?_
     have h2i := inR_iff.1 h2
     refine At.z 8 <| AW.ret ?_
     refine ⟨_, Sub.refl _ _, ?_⟩
     refine KF.conv (fun w => .bool w) (fun w => []) (show (true) = (num8 has x lo hi) from by grind [num8]) ?_
     exact KF.n []
   refine At.sB 16 (inR x lo hi) false (sayB (Bool.eq_false_iff.2 h2)) ?_
   replace h2 := Bool.eq_false_iff.2 h2
   refine At.a 3 <| At.sB 19 (!has) false (sayNF (sayB h1)) <| At.z 5 <| AW.ret ?_
   refine ⟨_, Sub.refl _ _, ?_⟩
   refine KF.conv (fun w => .bool w) (fun w => []) (show (false) = (num8 has x lo hi) from by grind [num8]) ?_
   exact KF.n []
 refine At.sB 10 has false (sayB (Bool.eq_false_iff.2 h1)) ?_
 replace h1 := Bool.eq_false_iff.2 h1
 refine At.a 9 <| At.sB 19 (!has) true (sayNT (sayB h1)) <| At.z 5 <| AW.ret ?_
 refine ⟨_, Sub.refl _ _, ?_⟩
 refine KF.conv (fun w => .bool w) (fun w => []) (show (x == 0) = (num8 has x lo hi) from by grind [num8]) ?_
 exact KF.n []
theorem spec_MsgFits_spec (m : Msg) (hl : m.entries.length ≤ 1048576) : FnSpec Tryz.prog 146 [(msgA m)] [] (.bool (msgFits m)) []:= by
 refine FnSpec.of 132 Tryz.func146 rfl Tryz.ntmps146 (by simp) (AW.weakK ?_)
 refine AW.q 2 <| AW.r <| At.a 2 <| At.c (spec_l8Has_spec m.kind) Tryz.call86 true [] [] [] trivial <| At.z 1 <| AW.seq <| AW.seq <| AW.cut [(101, 101)] (bs 4 10) 50 (!(fits1 m)) ?_ ?_
 · refine AW.gD Tryz_mix <| At.a 3 ?_
   by_cases h1 : (l8F m.kind).toList = eB.toList
   · refine At.sB 11 _ _ (sayET h1) <| At.a 39 <| At.sB 50 true (!(fits1 m)) (congrArg V.bool (by simp only [noBytes] at *; grind [fits1, hasF])) <| At.done rfl ⟨by kernel_rfl, rfl, ?_⟩
     exact Sub.ct [(101, 101)] (bs 4 10) 50 _
   refine At.sB 11 _ _ (sayEF h1) <| At.a 1 <| At.c (spec_l8In_spec (l8F m.kind) (102 : UInt8) (l8F_small _)) Tryz.call149 true [] [] [] trivial <| At.a 2 <| At.c (spec_l8Num_spec (hasU ((102 : UInt8).toNat : Int) (l8F m.kind).data.toList) m.from_ 0 4) Tryz.call148 true [] [] [] trivial <| At.a 3 ?_
   by_cases h2 : (num8 (hasU ((102 : UInt8).toNat : Int) (l8F m.kind).data.toList) m.from_ 0 4) = true
   · refine At.sB 19 (!(num8 (hasU ((102 : UInt8).toNat : Int) (l8F m.kind).data.toList) m.from_ 0 4)) false (sayNF (sayB h2)) <| At.a 1 <| At.c (spec_l8In_spec (l8F m.kind) (116 : UInt8) (l8F_small _)) Tryz.call149 true [] [] [] trivial <| At.a 2 <| At.c (spec_l8Num_spec (hasU ((116 : UInt8).toNat : Int) (l8F m.kind).data.toList) m.term 0 1000000000) Tryz.call148 true [] [] [] trivial <| At.a 3 ?_
     by_cases h3 : (num8 (hasU ((116 : UInt8).toNat : Int) (l8F m.kind).data.toList) m.term 0 1000000000) = true
     · refine At.sB 27 (!(num8 (hasU ((116 : UInt8).toNat : Int) (l8F m.kind).data.toList) m.term 0 1000000000)) false (sayNF (sayB h3)) <| At.a 1 <| At.c (spec_l8In_spec (l8F m.kind) (97 : UInt8) (l8F_small _)) Tryz.call149 true [] [] [] trivial <| At.a 2 <| At.c (spec_l8Num_spec (hasU ((97 : UInt8).toNat : Int) (l8F m.kind).data.toList) m.at_ 0 80) Tryz.call148 true [] [] [] trivial <| At.a 3 ?_
       by_cases h4 : (num8 (hasU ((97 : UInt8).toNat : Int) (l8F m.kind).data.toList) m.at_ 0 80) = true
       · refine At.sB 35 (!(num8 (hasU ((97 : UInt8).toNat : Int) (l8F m.kind).data.toList) m.at_ 0 80)) false (sayNF (sayB h4)) <| At.a 1 <| At.c (spec_l8In_spec (l8F m.kind) (115 : UInt8) (l8F_small _)) Tryz.call149 true [] [] [] trivial <| At.a 2 <| At.c (spec_l8Num_spec (hasU ((115 : UInt8).toNat : Int) (l8F m.kind).data.toList) m.atTerm 0 1000000000) Tryz.call148 true [] [] [] trivial <| At.a 3 ?_
         by_cases h5 : (num8 (hasU ((115 : UInt8).toNat : Int) (l8F m.kind).data.toList) m.atTerm 0 1000000000) = true
         · refine At.sB 43 (!(num8 (hasU ((115 : UInt8).toNat : Int) (l8F m.kind).data.toList) m.atTerm 0 1000000000)) false (sayNF (sayB h5)) <| At.a 1 <| At.c (spec_l8In_spec (l8F m.kind) (99 : UInt8) (l8F_small _)) Tryz.call149 true [] [] [] trivial <| At.a 2 <| At.c (spec_l8Num_spec (hasU ((99 : UInt8).toNat : Int) (l8F m.kind).data.toList) m.commit 0 80) Tryz.call148 true [] [] [] trivial <| At.a 2 <| At.sB 50 (!(num8 (hasU ((99 : UInt8).toNat : Int) (l8F m.kind).data.toList) m.commit 0 80)) (!(fits1 m)) (congrArg V.bool (by simp only [noBytes] at *; grind [fits1, hasF])) <| At.done rfl ⟨by kernel_rfl, rfl, ?_⟩
           exact Sub.ct [(101, 101)] (bs 4 10) 50 _
         refine At.sB 43 (!(num8 (hasU ((115 : UInt8).toNat : Int) (l8F m.kind).data.toList) m.atTerm 0 1000000000)) true (sayNT (sayB (Bool.eq_false_iff.2 h5))) ?_
         replace h5 := Bool.eq_false_iff.2 h5
         refine At.a 7 <| At.sB 50 true (!(fits1 m)) (congrArg V.bool (by simp only [noBytes] at *; grind [fits1, hasF])) <| At.done rfl ⟨by kernel_rfl, rfl, ?_⟩
         exact Sub.ct [(101, 101)] (bs 4 10) 50 _
       refine At.sB 35 (!(num8 (hasU ((97 : UInt8).toNat : Int) (l8F m.kind).data.toList) m.at_ 0 80)) true (sayNT (sayB (Bool.eq_false_iff.2 h4))) ?_
       replace h4 := Bool.eq_false_iff.2 h4
       refine At.a 15 <| At.sB 50 true (!(fits1 m)) (congrArg V.bool (by simp only [noBytes] at *; grind [fits1, hasF])) <| At.done rfl ⟨by kernel_rfl, rfl, ?_⟩
       exact Sub.ct [(101, 101)] (bs 4 10) 50 _
     refine At.sB 27 (!(num8 (hasU ((116 : UInt8).toNat : Int) (l8F m.kind).data.toList) m.term 0 1000000000)) true (sayNT (sayB (Bool.eq_false_iff.2 h3))) ?_
     replace h3 := Bool.eq_false_iff.2 h3
     refine At.a 23 <| At.sB 50 true (!(fits1 m)) (congrArg V.bool (by simp only [noBytes] at *; grind [fits1, hasF])) <| At.done rfl ⟨by kernel_rfl, rfl, ?_⟩
     exact Sub.ct [(101, 101)] (bs 4 10) 50 _
   refine At.sB 19 (!(num8 (hasU ((102 : UInt8).toNat : Int) (l8F m.kind).data.toList) m.from_ 0 4)) true (sayNT (sayB (Bool.eq_false_iff.2 h2))) ?_
   replace h2 := Bool.eq_false_iff.2 h2
   refine At.a 31 <| At.sB 50 true (!(fits1 m)) (congrArg V.bool (by simp only [noBytes] at *; grind [fits1, hasF])) <| At.done rfl ⟨by kernel_rfl, rfl, ?_⟩
   exact Sub.ct [(101, 101)] (bs 4 10) 50 _
 refine AW.cNB (fits1 m) (fun h6 => ?_) (fun h6 => ?_)
 · refine AW.q 1 <| AW.ret ?_
   refine ⟨_, Sub.refl _ _, ?_⟩
   refine KF.conv (fun w => .bool w) (fun w => []) (show (false) = (msgFits m) from by grind [msgFits]) ?_
   exact KF.n []
 refine AW.skip <| AW.seq <| AW.seq <| AW.cut [(101, 101)] (bs 4 10) 97 (!(fits2 m)) ?_ ?_
 · refine AW.gD Tryz_mix <| At.a 1 <| At.c (spec_l8In_spec (l8F m.kind) (114 : UInt8) (l8F_small _)) Tryz.call149 true [] [] [] trivial <| At.a 2 <| At.c (spec_l8Num_spec (hasU ((114 : UInt8).toNat : Int) (l8F m.kind).data.toList) m.release 1 1000) Tryz.call148 true [] [] [] trivial <| At.a 2 ?_
   by_cases h7 : (num8 (hasU ((114 : UInt8).toNat : Int) (l8F m.kind).data.toList) m.release 1 1000) = true
   · refine At.sB 57 (!(num8 (hasU ((114 : UInt8).toNat : Int) (l8F m.kind).data.toList) m.release 1 1000)) false (sayNF (sayB h7)) <| At.a 1 <| At.c (spec_l8In_spec (l8F m.kind) (112 : UInt8) (l8F_small _)) Tryz.call149 true [] [] [] trivial <| At.a 2 <| At.c (spec_l8Num_spec (hasU ((112 : UInt8).toNat : Int) (l8F m.kind).data.toList) m.part 0 1000) Tryz.call148 true [] [] [] trivial <| At.a 3 ?_
     by_cases h8 : (num8 (hasU ((112 : UInt8).toNat : Int) (l8F m.kind).data.toList) m.part 0 1000) = true
     · refine At.sB 65 (!(num8 (hasU ((112 : UInt8).toNat : Int) (l8F m.kind).data.toList) m.part 0 1000)) false (sayNF (sayB h8)) <| At.a 3 ?_
       by_cases h9 : m.yes = true
       · refine At.sB 68 m.yes true (sayB h9) <| At.a 1 <| At.c (spec_l8In_spec (l8F m.kind) (121 : UInt8) (l8F_small _)) Tryz.call149 true [] [] [] trivial <| At.a 4 ?_
         by_cases h10 : (hasU ((121 : UInt8).toNat : Int) (l8F m.kind).data.toList) = true
         · refine At.sB 74 (!(hasU ((121 : UInt8).toNat : Int) (l8F m.kind).data.toList)) false (sayNF (sayB h10)) <| At.a 1 <| At.c (spec_l8In_spec (l8F m.kind) (98 : UInt8) (l8F_small _)) Tryz.call149 true [] [] [] trivial <| At.a 3 <| At.c (spec_l8Num_spec (hasU ((98 : UInt8).toNat : Int) (l8F m.kind).data.toList) (m.bytes.size : Int) 1 16) Tryz.call148 true [] [] [] trivial <| At.a 3 ?_
           by_cases h11 : (num8 (hasU ((98 : UInt8).toNat : Int) (l8F m.kind).data.toList) (m.bytes.size : Int) 1 16) = true
           · refine At.sB 83 (!(num8 (hasU ((98 : UInt8).toNat : Int) (l8F m.kind).data.toList) (m.bytes.size : Int) 1 16)) false (sayNF (sayB h11)) <| At.a 1 <| At.c (spec_l8In_spec (l8F m.kind) (101 : UInt8) (l8F_small _)) Tryz.call149 true [] [] [] trivial <| At.a 1 ?_
             by_cases h12 : (hasU ((101 : UInt8).toNat : Int) (l8F m.kind).data.toList) = true
             · refine At.sB 86 (hasU ((101 : UInt8).toNat : Int) (l8F m.kind).data.toList) true (sayB h12) <| At.a 8 <| At.sL 94 encEnt m.entries <| At.c (spec_l8Num_spec true (m.entries.length : Int) 0 6) Tryz.call148 true [] [] [] trivial <| At.a 2 <| At.sB 97 (!(num8 true (m.entries.length : Int) 0 6)) (!(fits2 m)) (congrArg V.bool (by grind [fits2, hasF])) <| At.done rfl ⟨by kernel_rfl, rfl, ?_⟩
               exact Sub.ct [(101, 101)] (bs 4 10) 97 _
             refine At.sB 86 (hasU ((101 : UInt8).toNat : Int) (l8F m.kind).data.toList) false (sayB (Bool.eq_false_iff.2 h12)) ?_
             replace h12 := Bool.eq_false_iff.2 h12
             refine At.a 3 <| At.sL 89 encEnt m.entries <| At.a 5 <| At.sL 94 encEnt m.entries <| At.c (spec_l8Num_spec ((m.entries.length : Int) == 0) (m.entries.length : Int) 0 6) Tryz.call148 true [] [] [] trivial <| At.a 2 <| At.sB 97 (!(num8 ((m.entries.length : Int) == 0) (m.entries.length : Int) 0 6)) (!(fits2 m)) (congrArg V.bool (by grind [fits2, hasF])) <| At.done rfl ⟨by kernel_rfl, rfl, ?_⟩
             exact Sub.ct [(101, 101)] (bs 4 10) 97 _
           refine At.sB 83 (!(num8 (hasU ((98 : UInt8).toNat : Int) (l8F m.kind).data.toList) (m.bytes.size : Int) 1 16)) true (sayNT (sayB (Bool.eq_false_iff.2 h11))) ?_
           replace h11 := Bool.eq_false_iff.2 h11
           refine At.a 14 <| At.sB 97 true (!(fits2 m)) (congrArg V.bool (by grind [fits2, hasF])) <| At.done rfl ⟨by kernel_rfl, rfl, ?_⟩
           exact Sub.ct [(101, 101)] (bs 4 10) 97 _
         refine At.sB 74 (!(hasU ((121 : UInt8).toNat : Int) (l8F m.kind).data.toList)) true (sayNT (sayB (Bool.eq_false_iff.2 h10))) ?_
         replace h10 := Bool.eq_false_iff.2 h10
         refine At.a 23 <| At.sB 97 true (!(fits2 m)) (congrArg V.bool (by grind [fits2, hasF])) <| At.done rfl ⟨by kernel_rfl, rfl, ?_⟩
         exact Sub.ct [(101, 101)] (bs 4 10) 97 _
       refine At.sB 68 m.yes false (sayB (Bool.eq_false_iff.2 h9)) ?_
       replace h9 := Bool.eq_false_iff.2 h9
       refine At.a 7 <| At.c (spec_l8In_spec (l8F m.kind) (98 : UInt8) (l8F_small _)) Tryz.call149 true [] [] [] trivial <| At.a 3 <| At.c (spec_l8Num_spec (hasU ((98 : UInt8).toNat : Int) (l8F m.kind).data.toList) (m.bytes.size : Int) 1 16) Tryz.call148 true [] [] [] trivial <| At.a 3 ?_
       by_cases h13 : (num8 (hasU ((98 : UInt8).toNat : Int) (l8F m.kind).data.toList) (m.bytes.size : Int) 1 16) = true
       · refine At.sB 83 (!(num8 (hasU ((98 : UInt8).toNat : Int) (l8F m.kind).data.toList) (m.bytes.size : Int) 1 16)) false (sayNF (sayB h13)) <| At.a 1 <| At.c (spec_l8In_spec (l8F m.kind) (101 : UInt8) (l8F_small _)) Tryz.call149 true [] [] [] trivial <| At.a 1 ?_
         by_cases h14 : (hasU ((101 : UInt8).toNat : Int) (l8F m.kind).data.toList) = true
         · refine At.sB 86 (hasU ((101 : UInt8).toNat : Int) (l8F m.kind).data.toList) true (sayB h14) <| At.a 8 <| At.sL 94 encEnt m.entries <| At.c (spec_l8Num_spec true (m.entries.length : Int) 0 6) Tryz.call148 true [] [] [] trivial <| At.a 2 <| At.sB 97 (!(num8 true (m.entries.length : Int) 0 6)) (!(fits2 m)) (congrArg V.bool (by grind [fits2, hasF])) <| At.done rfl ⟨by kernel_rfl, rfl, ?_⟩
           exact Sub.ct [(101, 101)] (bs 4 10) 97 _
         refine At.sB 86 (hasU ((101 : UInt8).toNat : Int) (l8F m.kind).data.toList) false (sayB (Bool.eq_false_iff.2 h14)) ?_
         replace h14 := Bool.eq_false_iff.2 h14
         refine At.a 3 <| At.sL 89 encEnt m.entries <| At.a 5 <| At.sL 94 encEnt m.entries <| At.c (spec_l8Num_spec ((m.entries.length : Int) == 0) (m.entries.length : Int) 0 6) Tryz.call148 true [] [] [] trivial <| At.a 2 <| At.sB 97 (!(num8 ((m.entries.length : Int) == 0) (m.entries.length : Int) 0 6)) (!(fits2 m)) (congrArg V.bool (by grind [fits2, hasF])) <| At.done rfl ⟨by kernel_rfl, rfl, ?_⟩
         exact Sub.ct [(101, 101)] (bs 4 10) 97 _
       refine At.sB 83 (!(num8 (hasU ((98 : UInt8).toNat : Int) (l8F m.kind).data.toList) (m.bytes.size : Int) 1 16)) true (sayNT (sayB (Bool.eq_false_iff.2 h13))) ?_
       replace h13 := Bool.eq_false_iff.2 h13
       refine At.a 14 <| At.sB 97 true (!(fits2 m)) (congrArg V.bool (by grind [fits2, hasF])) <| At.done rfl ⟨by kernel_rfl, rfl, ?_⟩
       exact Sub.ct [(101, 101)] (bs 4 10) 97 _
     refine At.sB 65 (!(num8 (hasU ((112 : UInt8).toNat : Int) (l8F m.kind).data.toList) m.part 0 1000)) true (sayNT (sayB (Bool.eq_false_iff.2 h8))) ?_
     replace h8 := Bool.eq_false_iff.2 h8
     refine At.a 32 <| At.sB 97 true (!(fits2 m)) (congrArg V.bool (by grind [fits2, hasF])) <| At.done rfl ⟨by kernel_rfl, rfl, ?_⟩
     exact Sub.ct [(101, 101)] (bs 4 10) 97 _
   refine At.sB 57 (!(num8 (hasU ((114 : UInt8).toNat : Int) (l8F m.kind).data.toList) m.release 1 1000)) true (sayNT (sayB (Bool.eq_false_iff.2 h7))) ?_
   replace h7 := Bool.eq_false_iff.2 h7
   refine At.a 40 <| At.sB 97 true (!(fits2 m)) (congrArg V.bool (by grind [fits2, hasF])) <| At.done rfl ⟨by kernel_rfl, rfl, ?_⟩
   exact Sub.ct [(101, 101)] (bs 4 10) 97 _
 refine AW.cNB (fits2 m) (fun h15 => ?_) (fun h15 => ?_)
 · refine AW.q 1 <| AW.ret ?_
   refine ⟨_, Sub.refl _ _, ?_⟩
   refine KF.conv (fun w => .bool w) (fun w => []) (show (false) = (msgFits m) from by grind [msgFits]) ?_
   exact KF.n []
 refine AW.skip <| AW.q 3 <| AW.seq <| AW.seq <| AW.cut (dg [101, 104]) [false, true] 117 (!(fits3 m)) ?_ ?_
 · refine AW.g <| At.a 1 <| At.c (spec_l8In_spec (l8F m.kind) (100 : UInt8) (l8F_small _)) Tryz.call149 true [] [] [] trivial <| At.a 1 ?_
   by_cases h16 : (hasU ((100 : UInt8).toNat : Int) (l8F m.kind).data.toList) = true
   · refine At.sB 101 (hasU ((100 : UInt8).toNat : Int) (l8F m.kind).data.toList) true (sayB h16) <| At.a 2 <| At.c (spec_CmdOk_spec m.cmd) Tryz.call99 true [] [] [] trivial <| At.a 3 ?_
     by_cases h17 : (cmdOk m.cmd) = true
     · refine At.sB 107 (!(cmdOk m.cmd)) false (sayNF (sayB h17)) <| At.a 1 <| At.c (spec_l8In_spec (l8F m.kind) (100 : UInt8) (l8F_small _)) Tryz.call149 true [] [] [] trivial <| At.a 2 <| At.sB 111 (!(hasU ((100 : UInt8).toNat : Int) (l8F m.kind).data.toList)) false (sayNF (sayB h16)) <| At.a 6 <| At.sB 117 false (!(fits3 m)) (congrArg V.bool (by grind [fits3, hasF, zCmd])) <| At.done rfl ⟨rfl, ?_⟩
       exact Sub.ct (dg [101, 104]) [false, true] 117 _
     refine At.sB 107 (!(cmdOk m.cmd)) true (sayNT (sayB (Bool.eq_false_iff.2 h17))) ?_
     replace h17 := Bool.eq_false_iff.2 h17
     refine At.a 10 <| At.sB 117 true (!(fits3 m)) (congrArg V.bool (by grind [fits3, hasF, zCmd])) <| At.done rfl ⟨rfl, ?_⟩
     exact Sub.ct (dg [101, 104]) [false, true] 117 _
   refine At.sB 101 (hasU ((100 : UInt8).toNat : Int) (l8F m.kind).data.toList) false (sayB (Bool.eq_false_iff.2 h16)) ?_
   replace h16 := Bool.eq_false_iff.2 h16
   refine At.a 7 <| At.c (spec_l8In_spec (l8F m.kind) (100 : UInt8) (l8F_small _)) Tryz.call149 true [] [] [] trivial <| At.a 2 <| At.sB 111 (!(hasU ((100 : UInt8).toNat : Int) (l8F m.kind).data.toList)) true (sayNT (sayB h16)) <| At.a 3 <| At.eqA (t := 31) (u := 31) (d := 115) (op := .neq) (x := .tmp 113) (y := .tmp 114) (X := [nI m.cmd.kind, nI m.cmd.release, nI m.cmd.node, nI m.cmd.size, .str m.cmd.digest]) (Y := [nI 0, nI 0, nI 0, nI 0, .str eB]) (cmdEq m.cmd (⟨0, 0, 0, 0, eB⟩ : Cmd)) (by kernel_rfl) (by kernel_rfl) (by kernel_rfl) (by kernel_rfl) (by kernel_rfl) (.bool (!(cmdEq m.cmd (⟨0, 0, 0, 0, eB⟩ : Cmd)))) (.inr ⟨rfl, rfl⟩) <| At.a 2 <| At.sB 117 (!(cmdEq m.cmd (⟨0, 0, 0, 0, eB⟩ : Cmd))) (!(fits3 m)) (congrArg V.bool (by grind [fits3, hasF, zCmd])) <| At.done rfl ⟨rfl, ?_⟩
   exact Sub.ct (dg [101, 104]) [false, true] 117 _
 refine AW.cNB (fits3 m) (fun h20 => ?_) (fun h20 => ?_)
 · refine AW.q 1 <| AW.ret ?_
   refine ⟨_, Sub.refl _ _, ?_⟩
   refine KF.conv (fun w => .bool w) (fun w => []) (show (false) = (msgFits m) from by grind [msgFits]) ?_
   exact KF.n []
 refine AW.skip <| AW.seq <| AW.q 1 <| AW.block <| AW.loopW (fun (k : Nat) => Go.Sy.mk [.un, .ptr 101 0 0, .un, .un, .un, nI (k : Int)] [(101, .box 33 (mC m (.sl false 6 (m.entries.map encEnt))))]) (fun k => k ≤ m.entries.length ∧ entsOk m.entries = entsOk (m.entries.drop k)) (fun k => m.entries.length - k) 0 ⟨by omega, by rw [List.drop_zero]⟩ (Sub.o [(101, 101)] (bs 6 34)) ?_
 rintro k ⟨hk, hR⟩
 refine AW.seq <| AW.r <| At.a 4 <| At.sL 121 encEnt m.entries <| At.z 1 <| AW.cD ((k : Int) < (m.entries.length : Int)) (fun h21 => ?_) (fun h21 => ?_)
 · refine AW.skip <| AW.seq <| AW.block <| AW.r <| At.a 3 <| At.iSl 24 128 (.tmp 126) (.tmp 127) false 6 (m.entries.map encEnt) .i64 (k : Int) 45 (by omega) (by simp only [List.length_map]; omega) ?_
   refine Exists.elim (gE m.entries k (by omega)) fun e1 he1 => ?_
   refine At.lVp 45 129 (.tmp 128) false 6 (m.entries.map encEnt) k 0 true 6 (encEnt e1) (.agg [nI e1.term, nI e1.cmd.kind, nI e1.cmd.release, nI e1.cmd.node, nI e1.cmd.size, .str e1.cmd.digest]) (mapGet he1) <| At.c (spec_l6Entry_spec e1) Tryz.call69 true [] [] [] trivial <| At.z 1 <| AW.cNB (entOk e1) (fun h22 => ?_) (fun h22 => ?_)
   · refine AW.q 1 <| AW.ret ?_
     refine ⟨_, Sub.refl _ _, ?_⟩
     refine KF.conv (fun w => .bool w) (fun w => []) (show (false) = (msgFits m) from by rw [dropCons he1] at hR; grind [msgFits, entsOk]) ?_
     exact KF.n []
   have h22n := entOk_nums h22
   refine AW.skip <| AW.g <| At.a 2 <| At.sI 124 ((k : Int) + 1) (by omega) <| At.z 1 ?_
   exact ⟨k + 1, ⟨by omega, by rw [hR, dropCons he1, entsOk]; simp only [*, Bool.true_and]⟩, (by omega), Sub.o [(101, 101)] (bs 6 34)⟩
 refine AW.exit <| AW.q 1 <| AW.ret ?_
 refine ⟨_, Sub.refl _ _, ?_⟩
 refine KF.conv (fun w => .bool w) (fun w => []) (show (true) = (msgFits m) from by rw [List.drop_of_length_le (by omega)] at hR; grind [msgFits, entsOk]) ?_
 exact KF.n []
theorem spec_l10Hears_spec (r : Raft) (m : Msg) (kind : Int) (hz : SmallR r) (hm : m.entries.length ≤ 1048576) : FnSpec Tryz.prog 129 [(raftA r), (msgA m), nI kind] [] (.bool (hears r m kind)) []:= by
 obtain ⟨z1, z2, z3, z4⟩ := id hz
 refine FnSpec.of 33 Tryz.func129 rfl Tryz.ntmps129 (by simp) (AW.weakK ?_)
 refine AW.q 3 <| AW.r <| At.a 1 <| At.c (spec_RaftOk_spec r hz) Tryz.call11 true [] [] [] trivial <| At.a 1 ?_
 by_cases h1 : (raftOk r) = true
 · refine At.sB 9 (raftOk r) true (sayB h1) ?_
   have h1n := raftOk1_nums (raftOk_1 h1)
   refine At.a 1 <| At.c (spec_MsgFits_spec m hm) Tryz.call146 true [] [] [] trivial <| At.a 2 ?_
   by_cases h2 : (msgFits m) = true
   · refine At.sB 13 (msgFits m) true (sayB h2) <| At.a 6 ?_
     by_cases h3 : m.kind = kind
     · refine At.sB 19 _ _ (sayET h3) <| At.a 7 ?_
       by_cases h4 : m.from_ < r.of_
       · refine At.sB 26 _ _ (sayT h4) <| At.z 7 <| AW.ret ?_
         refine ⟨_, Sub.refl _ _, ?_⟩
         refine KF.conv (fun w => .bool w) (fun w => []) (show (m.from_ != r.id) = (hears r m kind) from by grind [hears]) ?_
         exact KF.n []
       refine At.sB 26 _ _ (sayF h4) <| At.z 7 <| AW.ret ?_
       refine ⟨_, Sub.refl _ _, ?_⟩
       refine KF.conv (fun w => .bool w) (fun w => []) (show (false) = (hears r m kind) from by grind [hears]) ?_
       exact KF.n []
     refine At.sB 19 _ _ (sayEF h3) <| At.z 14 <| AW.ret ?_
     refine ⟨_, Sub.refl _ _, ?_⟩
     refine KF.conv (fun w => .bool w) (fun w => []) (show (false) = (hears r m kind) from by grind [hears]) ?_
     exact KF.n []
   refine At.sB 13 (msgFits m) false (sayB (Bool.eq_false_iff.2 h2)) ?_
   replace h2 := Bool.eq_false_iff.2 h2
   refine At.z 20 <| AW.ret ?_
   refine ⟨_, Sub.refl _ _, ?_⟩
   refine KF.conv (fun w => .bool w) (fun w => []) (show (false) = (hears r m kind) from by grind [hears]) ?_
   exact KF.n []
 refine At.sB 9 (raftOk r) false (sayB (Bool.eq_false_iff.2 h1)) ?_
 replace h1 := Bool.eq_false_iff.2 h1
 refine At.z 24 <| AW.ret ?_
 refine ⟨_, Sub.refl _ _, ?_⟩
 refine KF.conv (fun w => .bool w) (fun w => []) (show (false) = (hears r m kind) from by grind [hears]) ?_
 exact KF.n []
theorem spec_l10Rest_spec (r : Raft) : FnSpec Tryz.prog 133 [.agg (rC r (.ref 0) (.ref 1) (.ref 2) (.ref 3))] [.arr 45 6 (r.hard.log.map encEnt), .arr 3 1 (r.yes.map encI), .arr 3 1 (r.next.map encI), .arr 3 1 (r.match_.map encI)] (.agg [nI r.id, nI r.of_, nI 1, nI r.commit, nI r.hard.term, nI r.hard.vote, .ref 0, .ref 4, .ref 5, .ref 6]) [.arr 45 6 (r.hard.log.map encEnt), .arr 3 1 (r.yes.map encI), .arr 3 1 (r.next.map encI), .arr 3 1 (r.match_.map encI), .arr 3 1 [], .arr 3 1 [], .arr 3 1 []]:= by
 refine FnSpec.of 8 Tryz.func133 rfl Tryz.ntmps133 (by simp) (AW.weakK ?_)
 refine AW.q 2 <| AW.seq <| AW.weak (Sub.nils [⟨true, 102, some 6, 5001, 45, 6⟩, ⟨true, 102, some 7, 5002, 3, 1⟩, ⟨true, 102, some 8, 5003, 3, 1⟩, ⟨true, 102, some 9, 5004, 3, 1⟩] (by kernel_rfl)) <| AW.gq 2 <| AW.q 2 <| AW.seq <| AW.weak (Sub.nils [⟨true, 101, some 7, 5005, 3, 1⟩] (by kernel_rfl)) <| AW.gq 2 <| AW.seq <| AW.weak (Sub.nils [⟨true, 101, some 8, 5006, 3, 1⟩] (by kernel_rfl)) <| AW.gq 2 <| AW.seq <| AW.weak (Sub.nils [⟨true, 101, some 9, 5007, 3, 1⟩] (by kernel_rfl)) <| AW.gq 2 <| AW.ret ?_
 refine ⟨_, Sub.refl _ _, ?_⟩
 refine KF.conv (fun w => .agg (rC w (.ref 0) (.ref 4) (.ref 5) (.ref 6))) (fun w => [.arr 45 6 (r.hard.log.map encEnt), .arr 3 1 (r.yes.map encI), .arr 3 1 (r.next.map encI), .arr 3 1 (r.match_.map encI), .arr 3 1 (w.yes.map encI), .arr 3 1 (w.next.map encI), .arr 3 1 (w.match_.map encI)]) (show ((⟨r.id, r.of_, 1, r.commit, r.hard, [], [], []⟩ : Raft)) = (({ r with role := 1, yes := [], next := [], match_ := [] } : Raft)) from by simp_all) ?_
 exact KF.n [(0, 0), (1, 1), (2, 2), (3, 3), (5005, 4), (5006, 5), (5007, 6)]
theorem spec_l10Follow_spec (r : Raft) (t_ : Int) : FnSpec Tryz.prog 130 [.agg (rC r (.ref 0) (.ref 1) (.ref 2) (.ref 3)), nI t_] [.arr 45 6 (r.hard.log.map encEnt), .arr 3 1 (r.yes.map encI), .arr 3 1 (r.next.map encI), .arr 3 1 (r.match_.map encI)] (.agg [nI r.id, nI r.of_, nI 1, nI r.commit, nI t_, nI 0, .ref 0, .ref 4, .ref 5, .ref 6]) [.arr 45 6 (r.hard.log.map encEnt), .arr 3 1 (r.yes.map encI), .arr 3 1 (r.next.map encI), .arr 3 1 (r.match_.map encI), .arr 3 1 [], .arr 3 1 [], .arr 3 1 []]:= by
 refine FnSpec.of 13 Tryz.func130 rfl Tryz.ntmps130 (by simp) (AW.weakK ?_)
 refine AW.q 2 <| AW.seq <| AW.weak (Sub.nils [⟨true, 104, some 6, 5001, 45, 6⟩, ⟨true, 104, some 7, 5002, 3, 1⟩, ⟨true, 104, some 8, 5003, 3, 1⟩, ⟨true, 104, some 9, 5004, 3, 1⟩] (by kernel_rfl)) <| AW.g <| At.a 1 <| At.c (spec_l10Rest_spec r) Tryz.call133 true (dg [0, 1, 2, 3]) (fr 1120 4 3) [] trivial <| At.z 1 <| AW.q 4 <| AW.q 3 <| AW.q 2 <| AW.ret ?_
 refine ⟨_, Sub.refl _ _, ?_⟩
 refine KF.conv (fun w => .agg (rC w (.ref 0) (.ref 4) (.ref 5) (.ref 6))) (fun w => [.arr 45 6 (r.hard.log.map encEnt), .arr 3 1 (r.yes.map encI), .arr 3 1 (r.next.map encI), .arr 3 1 (r.match_.map encI), .arr 3 1 (w.yes.map encI), .arr 3 1 (w.next.map encI), .arr 3 1 (w.match_.map encI)]) (show ((⟨r.id, r.of_, 1, r.commit, ⟨t_, 0, r.hard.log⟩, [], [], []⟩ : Raft)) = (({ r with role := 1, yes := [], next := [], match_ := [], hard := { r.hard with term := t_, vote := 0 } } : Raft)) from by simp_all) ?_
 exact KF.n [(0, 0), (1, 1), (2, 2), (3, 3), (1120, 4), (1121, 5), (1122, 6)]
def K_spec_OnAsk (rs : List ResultVar) (r : Raft) (m : Msg) (w0_ : Raft) (w1_ : List Rec) (w2_ : List Out) : Exit → Sg → Prop := KF Tryz.prog 0 rs (.tup [.agg (rC w0_ (.ref 0) (.ref 1) (.ref 2) (.ref 3)), .ref 4, .ref 5]) [.arr 45 6 (w0_.hard.log.map encEnt), .arr 3 1 (w0_.yes.map encI), .arr 3 1 (w0_.next.map encI), .arr 3 1 (w0_.match_.map encI), .arr 47 10 (w1_.map encRec), .arr 51 17 (w2_.map encOut)]
theorem spec_OnAsk_spec (r : Raft) (m : Msg) (hz : SmallR r) (hm : m.entries.length ≤ 1048576) : FnSpec Tryz.prog 107 [(raftA r), (msgA m)] [] (.tup [.agg (rC (askR r m) (.ref 0) (.ref 1) (.ref 2) (.ref 3)), .ref 4, .ref 5]) [.arr 45 6 (((askR r m).hard.log).map encEnt), .arr 3 1 (((askR r m).yes).map encI), .arr 3 1 (((askR r m).next).map encI), .arr 3 1 (((askR r m).match_).map encI), .arr 47 10 ((askRecs r m).map encRec), .arr 51 17 ((askOuts r m).map encOut)]:= by
 obtain ⟨z1, z2, z3, z4⟩ := id hz
 refine FnSpec.of 123 Tryz.func107 rfl Tryz.ntmps107 (by simp) (AW.weakK ?_)
 by_cases hok : raftOk r = true
 · have hokn := raftOk1_nums (raftOk_1 hok)
   refine AW.q 5 <| AW.seq <| AW.weak (Sub.nils [⟨true, 104, some 6, 5001, 45, 6⟩, ⟨true, 104, some 7, 5002, 3, 1⟩, ⟨true, 104, some 8, 5003, 3, 1⟩, ⟨true, 104, some 9, 5004, 3, 1⟩] (by kernel_rfl)) <| AW.g <| At.a 1 <| At.c (spec_l10Same_T_spec r hz hok) Tryz.call101 true [] (fr 1300 0 4) [] trivial <| At.l0 37 16 47 10 88 116 <| At.l0 38 17 51 17 168 117 <| At.z 4 <| AW.seq <| AW.r <| At.a 2 <| At.c (spec_l10Hears_spec r m 1 hz hm) Tryz.call129 true [] [] [] trivial <| At.z 1 <| AW.cNB (hears r m 1) (fun h1 => ?_) (fun h1 => ?_)
   · exact AW.q 6 <| AW.ret (rf (k3 (K_spec_OnAsk _ r m) (show (r) = _ from by grind [askR, askRecs, askOuts, ask1, ask0, askYes, folT, same, voteRec, zEnt, zCmd, termAt_end]) (show ([]) = _ from by grind [askR, askRecs, askOuts, ask1, ask0, askYes, folT, same, voteRec, zEnt, zCmd, termAt_end]) (show ([]) = _ from by grind [askR, askRecs, askOuts, ask1, ask0, askYes, folT, same, voteRec, zEnt, zCmd, termAt_end]) (KF.n [(1300, 0), (1301, 1), (1302, 2), (1303, 3), (116, 4), (117, 5)])))
   have hhr := hears_ok h1
   refine AW.skip <| AW.seq <| AW.q 6 <| AW.cD (m.term > r.hard.term) (fun h2 => ?_) (fun h2 => ?_)
   · refine AW.g <| At.a 3 <| At.c (spec_l10Follow_spec r m.term) Tryz.call130 true (fr 1300 0 4) (fr 1680 4 3) [] trivial <| At.z 1 <| AW.r <| At.a 1 <| At.c (spec_l10End_spec ⟨r.id, r.of_, 1, r.commit, ⟨m.term, 0, r.hard.log⟩, [], [], []⟩) Tryz.call29 false [] [] [(1300, 6, (r.hard.log.map encEnt)), (1680, 1, []), (1681, 1, []), (1682, 1, [])] ⟨rfl, ⟨45, (r.hard.log.map encEnt), by kernel_rfl, FrzIs.same (allP_encEnt _)⟩, rfl, ⟨3, [], by kernel_rfl, FrzIs.same (fun _ h => by cases h)⟩, rfl, ⟨3, [], by kernel_rfl, FrzIs.same (fun _ h => by cases h)⟩, rfl, ⟨3, [], by kernel_rfl, FrzIs.same (fun _ h => by cases h)⟩, trivial⟩ <| At.z 1 <| AW.r <| At.a 3 <| At.c (spec_l10Term_spec ⟨m.term, 0, r.hard.log⟩ (r.hard.log.length : Int) (by omega)) Tryz.call49 false [] [] [(1300, 6, (r.hard.log.map encEnt))] ⟨rfl, ⟨45, (r.hard.log.map encEnt), by kernel_rfl, FrzIs.same (allP_encEnt _)⟩, trivial⟩ <| At.z 1 <| AW.seq <| AW.cut (dg [102, 103, 104, 107, 116, 117, 1300, 1301, 1302, 1303, 1680, 1681, 1682, 5001, 5002, 5003, 5004]) (bs 10 924) 12 (freshB r.hard.log m) ?_ ?_
     · refine AW.g <| At.a 5 ?_
       by_cases h3 : m.atTerm > (termAt r.hard.log (r.hard.log.length : Int))
       · refine At.sB 45 _ _ (sayT h3) <| At.a 12 <| At.sB 12 true (freshB r.hard.log m) (congrArg V.bool (by grind [freshB, termAt_end])) <| At.done rfl ⟨rfl, ?_⟩
         exact Sub.ct (dg [102, 103, 104, 107, 116, 117, 1300, 1301, 1302, 1303, 1680, 1681, 1682, 5001, 5002, 5003, 5004]) (bs 10 924) 12 _
       refine At.sB 45 _ _ (sayF h3) <| At.a 5 ?_
       by_cases h4 : m.atTerm = termAt r.hard.log (r.hard.log.length : Int)
       · refine At.sB 50 _ _ (sayET h4) <| At.a 7 <| At.sB 12 (decide (m.at_ ≥ (r.hard.log.length : Int))) (freshB r.hard.log m) (congrArg V.bool (by grind [freshB, termAt_end])) <| At.done rfl ⟨rfl, ?_⟩
         exact Sub.ct (dg [102, 103, 104, 107, 116, 117, 1300, 1301, 1302, 1303, 1680, 1681, 1682, 5001, 5002, 5003, 5004]) (bs 10 924) 12 _
       refine At.sB 50 _ _ (sayEF h4) <| At.a 7 <| At.sB 12 false (freshB r.hard.log m) (congrArg V.bool (by grind [freshB, termAt_end])) <| At.done rfl ⟨rfl, ?_⟩
       exact Sub.ct (dg [102, 103, 104, 107, 116, 117, 1300, 1301, 1302, 1303, 1680, 1681, 1682, 5001, 5002, 5003, 5004]) (bs 10 924) 12 _
     refine AW.seq <| AW.cut (dg [102, 103, 104, 107, 116, 117, 1300, 1301, 1302, 1303, 1680, 1681, 1682, 5001, 5002, 5003, 5004]) (bs 10 924) 13 (yesB m.term 0 r.hard.log m) ?_ ?_
     · refine AW.g <| At.a 7 ?_
       by_cases h5 : m.term = m.term
       · refine At.sB 63 _ _ (sayET h5) <| At.a 5 ?_
         by_cases h6 : 0 = 0
         · refine At.sB 68 _ _ (sayET h6) <| At.a 13 <| At.sB 13 (freshB r.hard.log m) (yesB m.term 0 r.hard.log m) (congrArg V.bool (by grind [yesB])) <| At.done rfl ⟨rfl, ?_⟩
           exact Sub.ct (dg [102, 103, 104, 107, 116, 117, 1300, 1301, 1302, 1303, 1680, 1681, 1682, 5001, 5002, 5003, 5004]) (bs 10 924) 13 _
         refine At.sB 68 _ _ (sayEF h6) <| At.a 6 <| At.sI 74 (m.from_ + 1) (by omega) <| At.a 4 ?_
         by_cases h7 : 0 = m.from_ + 1
         · refine At.sB 78 _ _ (sayET h7) <| At.a 3 <| At.sB 13 (freshB r.hard.log m) (yesB m.term 0 r.hard.log m) (congrArg V.bool (by grind [yesB])) <| At.done rfl ⟨rfl, ?_⟩
           exact Sub.ct (dg [102, 103, 104, 107, 116, 117, 1300, 1301, 1302, 1303, 1680, 1681, 1682, 5001, 5002, 5003, 5004]) (bs 10 924) 13 _
         refine At.sB 78 _ _ (sayEF h7) <| At.a 3 <| At.sB 13 false (yesB m.term 0 r.hard.log m) (congrArg V.bool (by grind [yesB])) <| At.done rfl ⟨rfl, ?_⟩
         exact Sub.ct (dg [102, 103, 104, 107, 116, 117, 1300, 1301, 1302, 1303, 1680, 1681, 1682, 5001, 5002, 5003, 5004]) (bs 10 924) 13 _
       refine At.sB 63 _ _ (sayEF h5) <| At.a 18 <| At.sB 13 false (yesB m.term 0 r.hard.log m) (congrArg V.bool (by grind [yesB])) <| At.done rfl ⟨rfl, ?_⟩
       exact Sub.ct (dg [102, 103, 104, 107, 116, 117, 1300, 1301, 1302, 1303, 1680, 1681, 1682, 5001, 5002, 5003, 5004]) (bs 10 924) 13 _
     refine AW.seq <| AW.q 1 <| AW.cB (yesB m.term 0 r.hard.log m) (fun h8 => ?_) (fun h8 => ?_)
     · refine AW.g <| At.a 3 <| At.sI 84 (m.from_ + 1) (by omega) <| At.z 3 <| AW.seq <| AW.seq <| AW.cut (dg [102, 103, 104, 107, 116, 117, 1300, 1301, 1302, 1303, 1680, 1681, 1682, 5001, 5002, 5003, 5004]) (bs 14 9116) 102 (chgB m.term (m.from_ + 1) r) ?_ ?_
       · refine AW.g <| At.a 8 ?_
         by_cases h9 : m.term = r.hard.term
         · refine At.sB 94 _ _ (sayUF h9) <| At.a 8 <| At.sB 102 ((m.from_ + 1) != r.hard.vote) (chgB m.term (m.from_ + 1) r) (congrArg V.bool (by grind [chgB])) <| At.done rfl ⟨rfl, ?_⟩
           exact Sub.ct (dg [102, 103, 104, 107, 116, 117, 1300, 1301, 1302, 1303, 1680, 1681, 1682, 5001, 5002, 5003, 5004]) (bs 14 9116) 102 _
         refine At.sB 94 _ _ (sayUT h9) <| At.a 8 <| At.sB 102 true (chgB m.term (m.from_ + 1) r) (congrArg V.bool (by grind [chgB])) <| At.done rfl ⟨rfl, ?_⟩
         exact Sub.ct (dg [102, 103, 104, 107, 116, 117, 1300, 1301, 1302, 1303, 1680, 1681, 1682, 5001, 5002, 5003, 5004]) (bs 14 9116) 102 _
       refine AW.cB (chgB m.term (m.from_ + 1) r) (fun h10 => ?_) (fun h10 => ?_)
       · exact AW.g <| At.a 2 <| At.c (spec_l10Vote_spec ⟨r.id, r.of_, 1, r.commit, ⟨m.term, m.from_ + 1, r.hard.log⟩, [], [], []⟩) Tryz.call102 false [] [] [(1300, 6, (r.hard.log.map encEnt)), (1680, 1, []), (1681, 1, []), (1682, 1, [])] ⟨rfl, ⟨45, (r.hard.log.map encEnt), by kernel_rfl, FrzIs.same (allP_encEnt _)⟩, rfl, ⟨3, [], by kernel_rfl, FrzIs.same (fun _ h => by cases h)⟩, rfl, ⟨3, [], by kernel_rfl, FrzIs.same (fun _ h => by cases h)⟩, rfl, ⟨3, [], by kernel_rfl, FrzIs.same (fun _ h => by cases h)⟩, trivial⟩ <| At.ll 106 47 10 206 (45, 6) (([(⟨1, m.term, (m.from_ + 1), 0, ⟨0, ⟨0, 0, 0, 0, eB⟩⟩⟩ : Rec)]).map encRec) <| At.apK 107 47 10 88 207 116 206 encRec ([] : List Rec) ([(⟨1, m.term, (m.from_ + 1), 0, ⟨0, ⟨0, 0, 0, 0, eB⟩⟩⟩ : Rec)]) (by simp only [List.length_map, lens]; omega) <| At.z 1 <| AW.seq <| AW.gD Tryz_mix <| At.a 13 <| At.ll 121 51 17 221 (45, 6) (([(⟨m.from_, ⟨2, r.id, m.term, 0, 0, 0, yesB m.term 0 r.hard.log m, 0, 0, eB, ⟨0, 0, 0, 0, eB⟩, []⟩⟩ : Out)]).map encOut) <| At.apK 122 51 17 168 222 117 221 encOut ([] : List Out) ([(⟨m.from_, ⟨2, r.id, m.term, 0, 0, 0, yesB m.term 0 r.hard.log m, 0, 0, eB, ⟨0, 0, 0, 0, eB⟩, []⟩⟩ : Out)]) (by simp only [List.length_map, lens]; omega) <| At.zD 3 <| AW.ret (rf (k3 (K_spec_OnAsk _ r m) (show ((⟨r.id, r.of_, 1, r.commit, ⟨m.term, m.from_ + 1, r.hard.log⟩, [], [], []⟩ : Raft)) = _ from by grind [askR, askRecs, askOuts, ask1, ask0, askYes, folT, same, voteRec, zEnt, zCmd, termAt_end]) (show ([(⟨1, m.term, (m.from_ + 1), 0, ⟨0, ⟨0, 0, 0, 0, eB⟩⟩⟩ : Rec)]) = _ from by grind [askR, askRecs, askOuts, ask1, ask0, askYes, folT, same, voteRec, zEnt, zCmd, termAt_end]) (show ([(⟨m.from_, ⟨2, r.id, m.term, 0, 0, 0, yesB m.term 0 r.hard.log m, 0, 0, eB, ⟨0, 0, 0, 0, eB⟩, []⟩⟩ : Out)]) = _ from by grind [askR, askRecs, askOuts, ask1, ask0, askYes, folT, same, voteRec, zEnt, zCmd, termAt_end]) (KF.n [(1300, 0), (1680, 1), (1681, 2), (1682, 3), (207, 4), (222, 5)])))
       exact AW.skip <| AW.seq <| AW.gD Tryz_mix <| At.a 13 <| At.ll 121 51 17 221 (45, 6) (([(⟨m.from_, ⟨2, r.id, m.term, 0, 0, 0, yesB m.term 0 r.hard.log m, 0, 0, eB, ⟨0, 0, 0, 0, eB⟩, []⟩⟩ : Out)]).map encOut) <| At.apK 122 51 17 168 222 117 221 encOut ([] : List Out) ([(⟨m.from_, ⟨2, r.id, m.term, 0, 0, 0, yesB m.term 0 r.hard.log m, 0, 0, eB, ⟨0, 0, 0, 0, eB⟩, []⟩⟩ : Out)]) (by simp only [List.length_map, lens]; omega) <| At.zD 3 <| AW.ret (rf (k3 (K_spec_OnAsk _ r m) (show ((⟨r.id, r.of_, 1, r.commit, ⟨m.term, m.from_ + 1, r.hard.log⟩, [], [], []⟩ : Raft)) = _ from by grind [askR, askRecs, askOuts, ask1, ask0, askYes, folT, same, voteRec, zEnt, zCmd, termAt_end]) (show ([]) = _ from by grind [askR, askRecs, askOuts, ask1, ask0, askYes, folT, same, voteRec, zEnt, zCmd, termAt_end]) (show ([(⟨m.from_, ⟨2, r.id, m.term, 0, 0, 0, yesB m.term 0 r.hard.log m, 0, 0, eB, ⟨0, 0, 0, 0, eB⟩, []⟩⟩ : Out)]) = _ from by grind [askR, askRecs, askOuts, ask1, ask0, askYes, folT, same, voteRec, zEnt, zCmd, termAt_end]) (KF.n [(1300, 0), (1680, 1), (1681, 2), (1682, 3), (116, 4), (222, 5)])))
     refine AW.skip <| AW.seq <| AW.seq <| AW.cut (dg [102, 103, 104, 107, 116, 117, 1300, 1301, 1302, 1303, 1680, 1681, 1682, 5001, 5002, 5003, 5004]) (bs 14 9116) 102 (chgB m.term 0 r) ?_ ?_
     · refine AW.g <| At.a 8 ?_
       by_cases h11 : m.term = r.hard.term
       · refine At.sB 94 _ _ (sayUF h11) <| At.a 8 <| At.sB 102 (0 != r.hard.vote) (chgB m.term 0 r) (congrArg V.bool (by grind [chgB])) <| At.done rfl ⟨rfl, ?_⟩
         exact Sub.ct (dg [102, 103, 104, 107, 116, 117, 1300, 1301, 1302, 1303, 1680, 1681, 1682, 5001, 5002, 5003, 5004]) (bs 14 9116) 102 _
       refine At.sB 94 _ _ (sayUT h11) <| At.a 8 <| At.sB 102 true (chgB m.term 0 r) (congrArg V.bool (by grind [chgB])) <| At.done rfl ⟨rfl, ?_⟩
       exact Sub.ct (dg [102, 103, 104, 107, 116, 117, 1300, 1301, 1302, 1303, 1680, 1681, 1682, 5001, 5002, 5003, 5004]) (bs 14 9116) 102 _
     refine AW.cB (chgB m.term 0 r) (fun h12 => ?_) (fun h12 => ?_)
     · exact AW.g <| At.a 2 <| At.c (spec_l10Vote_spec ⟨r.id, r.of_, 1, r.commit, ⟨m.term, 0, r.hard.log⟩, [], [], []⟩) Tryz.call102 false [] [] [(1300, 6, (r.hard.log.map encEnt)), (1680, 1, []), (1681, 1, []), (1682, 1, [])] ⟨rfl, ⟨45, (r.hard.log.map encEnt), by kernel_rfl, FrzIs.same (allP_encEnt _)⟩, rfl, ⟨3, [], by kernel_rfl, FrzIs.same (fun _ h => by cases h)⟩, rfl, ⟨3, [], by kernel_rfl, FrzIs.same (fun _ h => by cases h)⟩, rfl, ⟨3, [], by kernel_rfl, FrzIs.same (fun _ h => by cases h)⟩, trivial⟩ <| At.ll 106 47 10 206 (45, 6) (([(⟨1, m.term, 0, 0, ⟨0, ⟨0, 0, 0, 0, eB⟩⟩⟩ : Rec)]).map encRec) <| At.apK 107 47 10 88 207 116 206 encRec ([] : List Rec) ([(⟨1, m.term, 0, 0, ⟨0, ⟨0, 0, 0, 0, eB⟩⟩⟩ : Rec)]) (by simp only [List.length_map, lens]; omega) <| At.z 1 <| AW.seq <| AW.gD Tryz_mix <| At.a 13 <| At.ll 121 51 17 221 (45, 6) (([(⟨m.from_, ⟨2, r.id, m.term, 0, 0, 0, yesB m.term 0 r.hard.log m, 0, 0, eB, ⟨0, 0, 0, 0, eB⟩, []⟩⟩ : Out)]).map encOut) <| At.apK 122 51 17 168 222 117 221 encOut ([] : List Out) ([(⟨m.from_, ⟨2, r.id, m.term, 0, 0, 0, yesB m.term 0 r.hard.log m, 0, 0, eB, ⟨0, 0, 0, 0, eB⟩, []⟩⟩ : Out)]) (by simp only [List.length_map, lens]; omega) <| At.zD 3 <| AW.ret (rf (k3 (K_spec_OnAsk _ r m) (show ((⟨r.id, r.of_, 1, r.commit, ⟨m.term, 0, r.hard.log⟩, [], [], []⟩ : Raft)) = _ from by grind [askR, askRecs, askOuts, ask1, ask0, askYes, folT, same, voteRec, zEnt, zCmd, termAt_end]) (show ([(⟨1, m.term, 0, 0, ⟨0, ⟨0, 0, 0, 0, eB⟩⟩⟩ : Rec)]) = _ from by grind [askR, askRecs, askOuts, ask1, ask0, askYes, folT, same, voteRec, zEnt, zCmd, termAt_end]) (show ([(⟨m.from_, ⟨2, r.id, m.term, 0, 0, 0, yesB m.term 0 r.hard.log m, 0, 0, eB, ⟨0, 0, 0, 0, eB⟩, []⟩⟩ : Out)]) = _ from by grind [askR, askRecs, askOuts, ask1, ask0, askYes, folT, same, voteRec, zEnt, zCmd, termAt_end]) (KF.n [(1300, 0), (1680, 1), (1681, 2), (1682, 3), (207, 4), (222, 5)])))
     exact AW.skip <| AW.seq <| AW.gD Tryz_mix <| At.a 13 <| At.ll 121 51 17 221 (45, 6) (([(⟨m.from_, ⟨2, r.id, m.term, 0, 0, 0, yesB m.term 0 r.hard.log m, 0, 0, eB, ⟨0, 0, 0, 0, eB⟩, []⟩⟩ : Out)]).map encOut) <| At.apK 122 51 17 168 222 117 221 encOut ([] : List Out) ([(⟨m.from_, ⟨2, r.id, m.term, 0, 0, 0, yesB m.term 0 r.hard.log m, 0, 0, eB, ⟨0, 0, 0, 0, eB⟩, []⟩⟩ : Out)]) (by simp only [List.length_map, lens]; omega) <| At.zD 3 <| AW.ret (rf (k3 (K_spec_OnAsk _ r m) (show ((⟨r.id, r.of_, 1, r.commit, ⟨m.term, 0, r.hard.log⟩, [], [], []⟩ : Raft)) = _ from by grind [askR, askRecs, askOuts, ask1, ask0, askYes, folT, same, voteRec, zEnt, zCmd, termAt_end]) (show ([]) = _ from by grind [askR, askRecs, askOuts, ask1, ask0, askYes, folT, same, voteRec, zEnt, zCmd, termAt_end]) (show ([(⟨m.from_, ⟨2, r.id, m.term, 0, 0, 0, yesB m.term 0 r.hard.log m, 0, 0, eB, ⟨0, 0, 0, 0, eB⟩, []⟩⟩ : Out)]) = _ from by grind [askR, askRecs, askOuts, ask1, ask0, askYes, folT, same, voteRec, zEnt, zCmd, termAt_end]) (KF.n [(1300, 0), (1680, 1), (1681, 2), (1682, 3), (116, 4), (222, 5)])))
   refine AW.skip <| AW.r <| At.a 1 <| At.c (spec_l10End_spec r) Tryz.call29 false [] [] [(1300, 6, (r.hard.log.map encEnt)), (1301, 1, (r.yes.map encI)), (1302, 1, (r.next.map encI)), (1303, 1, (r.match_.map encI))] ⟨rfl, ⟨45, (r.hard.log.map encEnt), by kernel_rfl, FrzIs.same (allP_encEnt _)⟩, rfl, ⟨3, (r.yes.map encI), by kernel_rfl, FrzIs.same (allP_encI _)⟩, rfl, ⟨3, (r.next.map encI), by kernel_rfl, FrzIs.same (allP_encI _)⟩, rfl, ⟨3, (r.match_.map encI), by kernel_rfl, FrzIs.same (allP_encI _)⟩, trivial⟩ <| At.z 1 <| AW.r <| At.a 3 <| At.c (spec_l10Term_spec r.hard (r.hard.log.length : Int) (by omega)) Tryz.call49 false [] [] [(1300, 6, (r.hard.log.map encEnt))] ⟨rfl, ⟨45, (r.hard.log.map encEnt), by kernel_rfl, FrzIs.same (allP_encEnt _)⟩, trivial⟩ <| At.z 1 <| AW.seq <| AW.cut (dg [102, 103, 104, 107, 116, 117, 1300, 1301, 1302, 1303, 5001, 5002, 5003, 5004]) (bs 10 924) 12 (freshB r.hard.log m) ?_ ?_
   · refine AW.g <| At.a 5 ?_
     by_cases h13 : m.atTerm > (termAt r.hard.log (r.hard.log.length : Int))
     · refine At.sB 45 _ _ (sayT h13) <| At.a 12 <| At.sB 12 true (freshB r.hard.log m) (congrArg V.bool (by grind [freshB, termAt_end])) <| At.done rfl ⟨rfl, ?_⟩
       exact Sub.ct (dg [102, 103, 104, 107, 116, 117, 1300, 1301, 1302, 1303, 5001, 5002, 5003, 5004]) (bs 10 924) 12 _
     refine At.sB 45 _ _ (sayF h13) <| At.a 5 ?_
     by_cases h14 : m.atTerm = termAt r.hard.log (r.hard.log.length : Int)
     · refine At.sB 50 _ _ (sayET h14) <| At.a 7 <| At.sB 12 (decide (m.at_ ≥ (r.hard.log.length : Int))) (freshB r.hard.log m) (congrArg V.bool (by grind [freshB, termAt_end])) <| At.done rfl ⟨rfl, ?_⟩
       exact Sub.ct (dg [102, 103, 104, 107, 116, 117, 1300, 1301, 1302, 1303, 5001, 5002, 5003, 5004]) (bs 10 924) 12 _
     refine At.sB 50 _ _ (sayEF h14) <| At.a 7 <| At.sB 12 false (freshB r.hard.log m) (congrArg V.bool (by grind [freshB, termAt_end])) <| At.done rfl ⟨rfl, ?_⟩
     exact Sub.ct (dg [102, 103, 104, 107, 116, 117, 1300, 1301, 1302, 1303, 5001, 5002, 5003, 5004]) (bs 10 924) 12 _
   refine AW.seq <| AW.cut (dg [102, 103, 104, 107, 116, 117, 1300, 1301, 1302, 1303, 5001, 5002, 5003, 5004]) (bs 10 924) 13 (yesB r.hard.term r.hard.vote r.hard.log m) ?_ ?_
   · refine AW.g <| At.a 7 ?_
     by_cases h15 : m.term = r.hard.term
     · refine At.sB 63 _ _ (sayET h15) <| At.a 5 ?_
       by_cases h16 : r.hard.vote = 0
       · refine At.sB 68 _ _ (sayET h16) <| At.a 13 <| At.sB 13 (freshB r.hard.log m) (yesB r.hard.term r.hard.vote r.hard.log m) (congrArg V.bool (by grind [yesB])) <| At.done rfl ⟨rfl, ?_⟩
         exact Sub.ct (dg [102, 103, 104, 107, 116, 117, 1300, 1301, 1302, 1303, 5001, 5002, 5003, 5004]) (bs 10 924) 13 _
       refine At.sB 68 _ _ (sayEF h16) <| At.a 6 <| At.sI 74 (m.from_ + 1) (by omega) <| At.a 4 ?_
       by_cases h17 : r.hard.vote = m.from_ + 1
       · refine At.sB 78 _ _ (sayET h17) <| At.a 3 <| At.sB 13 (freshB r.hard.log m) (yesB r.hard.term r.hard.vote r.hard.log m) (congrArg V.bool (by grind [yesB])) <| At.done rfl ⟨rfl, ?_⟩
         exact Sub.ct (dg [102, 103, 104, 107, 116, 117, 1300, 1301, 1302, 1303, 5001, 5002, 5003, 5004]) (bs 10 924) 13 _
       refine At.sB 78 _ _ (sayEF h17) <| At.a 3 <| At.sB 13 false (yesB r.hard.term r.hard.vote r.hard.log m) (congrArg V.bool (by grind [yesB])) <| At.done rfl ⟨rfl, ?_⟩
       exact Sub.ct (dg [102, 103, 104, 107, 116, 117, 1300, 1301, 1302, 1303, 5001, 5002, 5003, 5004]) (bs 10 924) 13 _
     refine At.sB 63 _ _ (sayEF h15) <| At.a 18 <| At.sB 13 false (yesB r.hard.term r.hard.vote r.hard.log m) (congrArg V.bool (by grind [yesB])) <| At.done rfl ⟨rfl, ?_⟩
     exact Sub.ct (dg [102, 103, 104, 107, 116, 117, 1300, 1301, 1302, 1303, 5001, 5002, 5003, 5004]) (bs 10 924) 13 _
   refine AW.seq <| AW.q 1 <| AW.cB (yesB r.hard.term r.hard.vote r.hard.log m) (fun h18 => ?_) (fun h18 => ?_)
   · refine AW.g <| At.a 3 <| At.sI 84 (m.from_ + 1) (by omega) <| At.z 3 <| AW.seq <| AW.seq <| AW.cut (dg [102, 103, 104, 107, 116, 117, 1300, 1301, 1302, 1303, 5001, 5002, 5003, 5004]) (bs 14 9116) 102 (chgB r.hard.term (m.from_ + 1) r) ?_ ?_
     · refine AW.g <| At.a 8 ?_
       by_cases h19 : r.hard.term = r.hard.term
       · refine At.sB 94 _ _ (sayUF h19) <| At.a 8 <| At.sB 102 ((m.from_ + 1) != r.hard.vote) (chgB r.hard.term (m.from_ + 1) r) (congrArg V.bool (by grind [chgB])) <| At.done rfl ⟨rfl, ?_⟩
         exact Sub.ct (dg [102, 103, 104, 107, 116, 117, 1300, 1301, 1302, 1303, 5001, 5002, 5003, 5004]) (bs 14 9116) 102 _
       refine At.sB 94 _ _ (sayUT h19) <| At.a 8 <| At.sB 102 true (chgB r.hard.term (m.from_ + 1) r) (congrArg V.bool (by grind [chgB])) <| At.done rfl ⟨rfl, ?_⟩
       exact Sub.ct (dg [102, 103, 104, 107, 116, 117, 1300, 1301, 1302, 1303, 5001, 5002, 5003, 5004]) (bs 14 9116) 102 _
     refine AW.cB (chgB r.hard.term (m.from_ + 1) r) (fun h20 => ?_) (fun h20 => ?_)
     · exact AW.g <| At.a 2 <| At.c (spec_l10Vote_spec ⟨r.id, r.of_, r.role, r.commit, ⟨r.hard.term, m.from_ + 1, r.hard.log⟩, r.yes, r.next, r.match_⟩) Tryz.call102 false [] [] [(1300, 6, (r.hard.log.map encEnt)), (1301, 1, (r.yes.map encI)), (1302, 1, (r.next.map encI)), (1303, 1, (r.match_.map encI))] ⟨rfl, ⟨45, (r.hard.log.map encEnt), by kernel_rfl, FrzIs.same (allP_encEnt _)⟩, rfl, ⟨3, (r.yes.map encI), by kernel_rfl, FrzIs.same (allP_encI _)⟩, rfl, ⟨3, (r.next.map encI), by kernel_rfl, FrzIs.same (allP_encI _)⟩, rfl, ⟨3, (r.match_.map encI), by kernel_rfl, FrzIs.same (allP_encI _)⟩, trivial⟩ <| At.ll 106 47 10 206 (45, 6) (([(⟨1, r.hard.term, (m.from_ + 1), 0, ⟨0, ⟨0, 0, 0, 0, eB⟩⟩⟩ : Rec)]).map encRec) <| At.apK 107 47 10 88 207 116 206 encRec ([] : List Rec) ([(⟨1, r.hard.term, (m.from_ + 1), 0, ⟨0, ⟨0, 0, 0, 0, eB⟩⟩⟩ : Rec)]) (by simp only [List.length_map, lens]; omega) <| At.z 1 <| AW.seq <| AW.gD Tryz_mix <| At.a 13 <| At.ll 121 51 17 221 (45, 6) (([(⟨m.from_, ⟨2, r.id, r.hard.term, 0, 0, 0, yesB r.hard.term r.hard.vote r.hard.log m, 0, 0, eB, ⟨0, 0, 0, 0, eB⟩, []⟩⟩ : Out)]).map encOut) <| At.apK 122 51 17 168 222 117 221 encOut ([] : List Out) ([(⟨m.from_, ⟨2, r.id, r.hard.term, 0, 0, 0, yesB r.hard.term r.hard.vote r.hard.log m, 0, 0, eB, ⟨0, 0, 0, 0, eB⟩, []⟩⟩ : Out)]) (by simp only [List.length_map, lens]; omega) <| At.zD 3 <| AW.ret (rf (k3 (K_spec_OnAsk _ r m) (show ((⟨r.id, r.of_, r.role, r.commit, ⟨r.hard.term, m.from_ + 1, r.hard.log⟩, r.yes, r.next, r.match_⟩ : Raft)) = _ from by grind [askR, askRecs, askOuts, ask1, ask0, askYes, folT, same, voteRec, zEnt, zCmd, termAt_end]) (show ([(⟨1, r.hard.term, (m.from_ + 1), 0, ⟨0, ⟨0, 0, 0, 0, eB⟩⟩⟩ : Rec)]) = _ from by grind [askR, askRecs, askOuts, ask1, ask0, askYes, folT, same, voteRec, zEnt, zCmd, termAt_end]) (show ([(⟨m.from_, ⟨2, r.id, r.hard.term, 0, 0, 0, yesB r.hard.term r.hard.vote r.hard.log m, 0, 0, eB, ⟨0, 0, 0, 0, eB⟩, []⟩⟩ : Out)]) = _ from by grind [askR, askRecs, askOuts, ask1, ask0, askYes, folT, same, voteRec, zEnt, zCmd, termAt_end]) (KF.n [(1300, 0), (1301, 1), (1302, 2), (1303, 3), (207, 4), (222, 5)])))
     exact AW.skip <| AW.seq <| AW.gD Tryz_mix <| At.a 13 <| At.ll 121 51 17 221 (45, 6) (([(⟨m.from_, ⟨2, r.id, r.hard.term, 0, 0, 0, yesB r.hard.term r.hard.vote r.hard.log m, 0, 0, eB, ⟨0, 0, 0, 0, eB⟩, []⟩⟩ : Out)]).map encOut) <| At.apK 122 51 17 168 222 117 221 encOut ([] : List Out) ([(⟨m.from_, ⟨2, r.id, r.hard.term, 0, 0, 0, yesB r.hard.term r.hard.vote r.hard.log m, 0, 0, eB, ⟨0, 0, 0, 0, eB⟩, []⟩⟩ : Out)]) (by simp only [List.length_map, lens]; omega) <| At.zD 3 <| AW.ret (rf (k3 (K_spec_OnAsk _ r m) (show ((⟨r.id, r.of_, r.role, r.commit, ⟨r.hard.term, m.from_ + 1, r.hard.log⟩, r.yes, r.next, r.match_⟩ : Raft)) = _ from by grind [askR, askRecs, askOuts, ask1, ask0, askYes, folT, same, voteRec, zEnt, zCmd, termAt_end]) (show ([]) = _ from by grind [askR, askRecs, askOuts, ask1, ask0, askYes, folT, same, voteRec, zEnt, zCmd, termAt_end]) (show ([(⟨m.from_, ⟨2, r.id, r.hard.term, 0, 0, 0, yesB r.hard.term r.hard.vote r.hard.log m, 0, 0, eB, ⟨0, 0, 0, 0, eB⟩, []⟩⟩ : Out)]) = _ from by grind [askR, askRecs, askOuts, ask1, ask0, askYes, folT, same, voteRec, zEnt, zCmd, termAt_end]) (KF.n [(1300, 0), (1301, 1), (1302, 2), (1303, 3), (116, 4), (222, 5)])))
   refine AW.skip <| AW.seq <| AW.seq <| AW.cut (dg [102, 103, 104, 107, 116, 117, 1300, 1301, 1302, 1303, 5001, 5002, 5003, 5004]) (bs 14 9116) 102 (chgB r.hard.term r.hard.vote r) ?_ ?_
   · refine AW.g <| At.a 8 ?_
     by_cases h21 : r.hard.term = r.hard.term
     · refine At.sB 94 _ _ (sayUF h21) <| At.a 8 <| At.sB 102 (r.hard.vote != r.hard.vote) (chgB r.hard.term r.hard.vote r) (congrArg V.bool (by grind [chgB])) <| At.done rfl ⟨rfl, ?_⟩
       exact Sub.ct (dg [102, 103, 104, 107, 116, 117, 1300, 1301, 1302, 1303, 5001, 5002, 5003, 5004]) (bs 14 9116) 102 _
     refine At.sB 94 _ _ (sayUT h21) <| At.a 8 <| At.sB 102 true (chgB r.hard.term r.hard.vote r) (congrArg V.bool (by grind [chgB])) <| At.done rfl ⟨rfl, ?_⟩
     exact Sub.ct (dg [102, 103, 104, 107, 116, 117, 1300, 1301, 1302, 1303, 5001, 5002, 5003, 5004]) (bs 14 9116) 102 _
   refine AW.cB (chgB r.hard.term r.hard.vote r) (fun h22 => ?_) (fun h22 => ?_)
   · exact AW.g <| At.a 2 <| At.c (spec_l10Vote_spec r) Tryz.call102 false [] [] [(1300, 6, (r.hard.log.map encEnt)), (1301, 1, (r.yes.map encI)), (1302, 1, (r.next.map encI)), (1303, 1, (r.match_.map encI))] ⟨rfl, ⟨45, (r.hard.log.map encEnt), by kernel_rfl, FrzIs.same (allP_encEnt _)⟩, rfl, ⟨3, (r.yes.map encI), by kernel_rfl, FrzIs.same (allP_encI _)⟩, rfl, ⟨3, (r.next.map encI), by kernel_rfl, FrzIs.same (allP_encI _)⟩, rfl, ⟨3, (r.match_.map encI), by kernel_rfl, FrzIs.same (allP_encI _)⟩, trivial⟩ <| At.ll 106 47 10 206 (45, 6) (([(⟨1, r.hard.term, r.hard.vote, 0, ⟨0, ⟨0, 0, 0, 0, eB⟩⟩⟩ : Rec)]).map encRec) <| At.apK 107 47 10 88 207 116 206 encRec ([] : List Rec) ([(⟨1, r.hard.term, r.hard.vote, 0, ⟨0, ⟨0, 0, 0, 0, eB⟩⟩⟩ : Rec)]) (by simp only [List.length_map, lens]; omega) <| At.z 1 <| AW.seq <| AW.gD Tryz_mix <| At.a 13 <| At.ll 121 51 17 221 (45, 6) (([(⟨m.from_, ⟨2, r.id, r.hard.term, 0, 0, 0, yesB r.hard.term r.hard.vote r.hard.log m, 0, 0, eB, ⟨0, 0, 0, 0, eB⟩, []⟩⟩ : Out)]).map encOut) <| At.apK 122 51 17 168 222 117 221 encOut ([] : List Out) ([(⟨m.from_, ⟨2, r.id, r.hard.term, 0, 0, 0, yesB r.hard.term r.hard.vote r.hard.log m, 0, 0, eB, ⟨0, 0, 0, 0, eB⟩, []⟩⟩ : Out)]) (by simp only [List.length_map, lens]; omega) <| At.zD 3 <| AW.ret (rf (k3 (K_spec_OnAsk _ r m) (show (r) = _ from by grind [askR, askRecs, askOuts, ask1, ask0, askYes, folT, same, voteRec, zEnt, zCmd, termAt_end]) (show ([(⟨1, r.hard.term, r.hard.vote, 0, ⟨0, ⟨0, 0, 0, 0, eB⟩⟩⟩ : Rec)]) = _ from by grind [askR, askRecs, askOuts, ask1, ask0, askYes, folT, same, voteRec, zEnt, zCmd, termAt_end]) (show ([(⟨m.from_, ⟨2, r.id, r.hard.term, 0, 0, 0, yesB r.hard.term r.hard.vote r.hard.log m, 0, 0, eB, ⟨0, 0, 0, 0, eB⟩, []⟩⟩ : Out)]) = _ from by grind [askR, askRecs, askOuts, ask1, ask0, askYes, folT, same, voteRec, zEnt, zCmd, termAt_end]) (KF.n [(1300, 0), (1301, 1), (1302, 2), (1303, 3), (207, 4), (222, 5)])))
   exact AW.skip <| AW.seq <| AW.gD Tryz_mix <| At.a 13 <| At.ll 121 51 17 221 (45, 6) (([(⟨m.from_, ⟨2, r.id, r.hard.term, 0, 0, 0, yesB r.hard.term r.hard.vote r.hard.log m, 0, 0, eB, ⟨0, 0, 0, 0, eB⟩, []⟩⟩ : Out)]).map encOut) <| At.apK 122 51 17 168 222 117 221 encOut ([] : List Out) ([(⟨m.from_, ⟨2, r.id, r.hard.term, 0, 0, 0, yesB r.hard.term r.hard.vote r.hard.log m, 0, 0, eB, ⟨0, 0, 0, 0, eB⟩, []⟩⟩ : Out)]) (by simp only [List.length_map, lens]; omega) <| At.zD 3 <| AW.ret (rf (k3 (K_spec_OnAsk _ r m) (show (r) = _ from by grind [askR, askRecs, askOuts, ask1, ask0, askYes, folT, same, voteRec, zEnt, zCmd, termAt_end]) (show ([]) = _ from by grind [askR, askRecs, askOuts, ask1, ask0, askYes, folT, same, voteRec, zEnt, zCmd, termAt_end]) (show ([(⟨m.from_, ⟨2, r.id, r.hard.term, 0, 0, 0, yesB r.hard.term r.hard.vote r.hard.log m, 0, 0, eB, ⟨0, 0, 0, 0, eB⟩, []⟩⟩ : Out)]) = _ from by grind [askR, askRecs, askOuts, ask1, ask0, askYes, folT, same, voteRec, zEnt, zCmd, termAt_end]) (KF.n [(1300, 0), (1301, 1), (1302, 2), (1303, 3), (116, 4), (222, 5)])))
 exact AW.q 5 <| AW.seq <| AW.weak (Sub.nils [⟨true, 104, some 6, 5001, 45, 6⟩, ⟨true, 104, some 7, 5002, 3, 1⟩, ⟨true, 104, some 8, 5003, 3, 1⟩, ⟨true, 104, some 9, 5004, 3, 1⟩] (by kernel_rfl)) <| AW.g <| At.a 1 <| At.c (spec_l10Same_F_spec r hz hok) Tryz.call101 true [] (fr 1300 0 4) [] trivial <| At.l0 37 16 47 10 88 116 <| At.l0 38 17 51 17 168 117 <| At.z 4 <| AW.seq <| AW.r <| At.a 2 <| At.c (spec_l10Hears_spec r m 1 hz hm) Tryz.call129 true [] [] [] trivial <| At.z 1 <| AW.cT (!(hears r m 1)) (by rw [show (hears r m 1) = false from (hears_no hok)]; rfl) <| AW.q 6 <| AW.ret (rf (k3 (K_spec_OnAsk _ r m) (show ((⟨0, 0, 0, 0, ⟨0, 0, []⟩, [], [], []⟩ : Raft)) = _ from by simp [askR, askRecs, askOuts, same, hok, hears_no hok]; try rfl) (show ([]) = _ from by simp [askR, askRecs, askOuts, same, hok, hears_no hok]; try rfl) (show ([]) = _ from by simp [askR, askRecs, askOuts, same, hok, hears_no hok]; try rfl) (KF.n [(1300, 0), (1301, 1), (1302, 2), (1303, 3), (116, 4), (117, 5)])))
theorem spec_l7Put_spec (list : List Int) (v : Int) (hl : list.length ≤ 1000) (hs : list.Pairwise (· < ·)) : FnSpec Tryz.prog 131 [.sl false 1 (list.map encI), nI v] [] (.ref 0) [.arr 3 1 ((putA v list).map encI)]:= by
 refine FnSpec.of 49 Tryz.func131 rfl Tryz.ntmps131 (by simp) (AW.weakK ?_)
 refine AW.q 1 <| AW.r <| At.l0 27 8 3 1 8 108 <| At.z 1 <| AW.q 1 <| AW.seq <| AW.q 1 <| AW.block <| AW.loopW (fun (x : Nat × Bool × List Int) => match x with | (k, d, o) => Go.Sy.mk [.sl false 1 (list.map encI), nI v, .un, .un, .un, .ref 108, .bool d, nI (k : Int)] [(108, .arr 3 1 (o.map encI))]) (fun (k, d, o) => (k ≤ list.length ∧ o.length ≤ 2 * k) ∧ l7G v false list = o ++ l7G v d (list.drop k)) (fun (k, d, o) => list.length - k) (0, false, []) ⟨by simp, by rw [List.drop_zero]; rfl⟩ (Sub.o [(108, 108)] (bs 8 227)) ?_
 rintro ⟨k, d, o⟩ ⟨hk, hR⟩
 refine AW.seq <| AW.r <| At.a 3 <| At.sL 11 encI list <| At.z 1 <| AW.cD ((k : Int) < (list.length : Int)) (fun h1 => ?_) (fun h1 => ?_)
 · refine AW.skip <| AW.seq <| AW.block <| AW.seq <| AW.r <| At.a 3 ?_
   by_cases h2 : d = true
   · refine At.sB 17 (!d) false (sayNF (sayB h2)) <| At.z 7 <| AW.cond false (by kernel_rfl) (fun h => by cases h) (fun _ => ?_)
     refine AW.skip <| AW.r <| At.a 2 <| At.iSl 27 31 (.tmp 29) (.tmp 30) false 1 (list.map encI) .i64 (k : Int) 3 (by omega) (by simp only [List.length_map]; omega) ?_
     refine Exists.elim (gE list k (by omega)) fun e1 he1 => ?_
     refine At.lVp 3 32 (.tmp 31) false 1 (list.map encI) k 0 false 1 (encI e1) (nI e1) (mapGet he1) <| At.z 2 <| AW.cU e1 v (fun h3 => ?_) (fun h3 => ?_)
     · refine AW.g <| At.a 3 <| At.iSl 27 38 (.tmp 36) (.tmp 37) false 1 (list.map encI) .i64 (k : Int) 3 (by omega) (by simp only [List.length_map]; omega) <| At.lVp 3 39 (.tmp 38) false 1 (list.map encI) k 0 false 1 (encI e1) (nI e1) (mapGet he1) <| At.ll 40 3 1 140 (45, 6) (([e1]).map encI) <| At.apK 41 3 1 8 141 108 140 encI o ([e1]) (by simp only [List.length_map, lens]; omega) <| At.z 1 <| AW.g <| At.a 2 <| At.sI 14 ((k : Int) + 1) (by omega) <| At.z 1 ?_
       exact ⟨(k + 1, d, (o ++ ([e1]))), ⟨by simp only [lens]; omega, by rw [hR, dropCons (by assumption), l7G]; simp [h1, h2, h3]⟩, (by simp only; omega), Sub.o [(141, 108)] (bs 8 227)⟩
     refine AW.skip <| AW.g <| At.a 2 <| At.sI 14 ((k : Int) + 1) (by omega) <| At.z 1 ?_
     exact ⟨(k + 1, d, o), ⟨by omega, by rw [hR, dropCons (by assumption), l7G]; simp [h1, h2, h3]⟩, (by simp only; omega), Sub.o [(108, 108)] (bs 8 227)⟩
   refine At.sB 17 (!d) true (sayNT (sayB (Bool.eq_false_iff.2 h2))) ?_
   replace h2 := Bool.eq_false_iff.2 h2
   refine At.a 2 <| At.iSl 27 20 (.tmp 18) (.tmp 19) false 1 (list.map encI) .i64 (k : Int) 3 (by omega) (by simp only [List.length_map]; omega) ?_
   refine Exists.elim (gE list k (by omega)) fun e2 he2 => ?_
   refine At.lVp 3 21 (.tmp 20) false 1 (list.map encI) k 0 false 1 (encI e2) (nI e2) (mapGet he2) <| At.z 3 <| AW.cD (e2 ≥ v) (fun h4 => ?_) (fun h4 => ?_)
   · refine AW.r <| At.a 2 <| At.ll 27 3 1 127 (45, 6) (([v]).map encI) <| At.apK 28 3 1 8 128 108 127 encI o ([v]) (by simp only [List.length_map, lens]; omega) <| At.z 1 <| AW.gq 1 <| AW.r <| At.a 2 <| At.iSl 27 31 (.tmp 29) (.tmp 30) false 1 (list.map encI) .i64 (k : Int) 3 (by omega) (by simp only [List.length_map]; omega) <| At.lVp 3 32 (.tmp 31) false 1 (list.map encI) k 0 false 1 (encI e2) (nI e2) (mapGet he2) <| At.z 2 <| AW.cU e2 v (fun h5 => ?_) (fun h5 => ?_)
     · refine AW.g <| At.a 3 <| At.iSl 27 38 (.tmp 36) (.tmp 37) false 1 (list.map encI) .i64 (k : Int) 3 (by omega) (by simp only [List.length_map]; omega) <| At.lVp 3 39 (.tmp 38) false 1 (list.map encI) k 0 false 1 (encI e2) (nI e2) (mapGet he2) <| At.ll 40 3 1 140 (45, 6) (([e2]).map encI) <| At.apK 41 3 1 8 141 128 140 encI (o ++ ([v])) ([e2]) (by simp only [List.length_map, lens]; omega) <| At.z 1 <| AW.g <| At.a 2 <| At.sI 14 ((k : Int) + 1) (by omega) <| At.z 1 ?_
       exact ⟨(k + 1, true, ((o ++ ([v])) ++ ([e2]))), ⟨by simp only [lens]; omega, by rw [hR, dropCons (by assumption), l7G]; simp [h1, h2, h4, h5]⟩, (by simp only; omega), Sub.o [(141, 108)] (bs 8 227)⟩
     refine AW.skip <| AW.g <| At.a 2 <| At.sI 14 ((k : Int) + 1) (by omega) <| At.z 1 ?_
     exact ⟨(k + 1, true, (o ++ ([v]))), ⟨by simp only [lens]; omega, by rw [hR, dropCons (by assumption), l7G]; simp [h1, h2, h4, h5]⟩, (by simp only; omega), Sub.o [(128, 108)] (bs 8 227)⟩
   refine AW.skip <| AW.r <| At.a 2 <| At.iSl 27 31 (.tmp 29) (.tmp 30) false 1 (list.map encI) .i64 (k : Int) 3 (by omega) (by simp only [List.length_map]; omega) <| At.lVp 3 32 (.tmp 31) false 1 (list.map encI) k 0 false 1 (encI e2) (nI e2) (mapGet he2) <| At.z 2 <| AW.cU e2 v (fun h6 => ?_) (fun h6 => ?_)
   · refine AW.g <| At.a 3 <| At.iSl 27 38 (.tmp 36) (.tmp 37) false 1 (list.map encI) .i64 (k : Int) 3 (by omega) (by simp only [List.length_map]; omega) <| At.lVp 3 39 (.tmp 38) false 1 (list.map encI) k 0 false 1 (encI e2) (nI e2) (mapGet he2) <| At.ll 40 3 1 140 (45, 6) (([e2]).map encI) <| At.apK 41 3 1 8 141 108 140 encI o ([e2]) (by simp only [List.length_map, lens]; omega) <| At.z 1 <| AW.g <| At.a 2 <| At.sI 14 ((k : Int) + 1) (by omega) <| At.z 1 ?_
     exact ⟨(k + 1, d, (o ++ ([e2]))), ⟨by simp only [lens]; omega, by rw [hR, dropCons (by assumption), l7G]; simp [h1, h2, h4, h6]⟩, (by simp only; omega), Sub.o [(141, 108)] (bs 8 227)⟩
   refine AW.skip <| AW.g <| At.a 2 <| At.sI 14 ((k : Int) + 1) (by omega) <| At.z 1 ?_
   exact ⟨(k + 1, d, o), ⟨by omega, by exfalso; omega⟩, (by simp only; omega), Sub.o [(108, 108)] (bs 8 227)⟩
 refine AW.exit <| AW.seq <| AW.q 2 <| AW.cNB (d) (fun h7 => ?_) (fun h7 => ?_)
 · refine AW.g <| At.a 2 <| At.ll 46 3 1 146 (45, 6) (([v]).map encI) <| At.apK 47 3 1 8 147 108 146 encI o ([v]) (by simp only [List.length_map, lens]; omega) <| At.z 1 <| AW.q 2 <| AW.ret ?_
   refine ⟨_, Sub.refl _ _, ?_⟩
   refine KF.conv (fun w => .ref 0) (fun w => [.arr 3 1 (w.map encI)]) (show (o ++ ([v])) = (putA v list) from by rw [← l7G_put list hs, hR, List.drop_of_length_le (by omega), l7G]; simp [h1, h7]) ?_
   exact KF.n [(147, 0)]
 refine AW.skip <| AW.q 2 <| AW.ret ?_
 refine ⟨_, Sub.refl _ _, ?_⟩
 refine KF.conv (fun w => .ref 0) (fun w => [.arr 3 1 (w.map encI)]) (show (o) = (putA v list) from by rw [← l7G_put list hs, hR, List.drop_of_length_le (by omega), l7G]; simp [h1, h7]) ?_
 exact KF.n [(108, 0)]
def K_spec_OnYes (rs : List ResultVar) (r : Raft) (m : Msg) (w0_ : Raft) (w1_ : List Rec) (w2_ : List Out) : Exit → Sg → Prop := KF Tryz.prog 0 rs (.tup [.agg (rC w0_ (.ref 0) (.ref 1) (.ref 2) (.ref 3)), .ref 4, .ref 5]) [.arr 45 6 (w0_.hard.log.map encEnt), .arr 3 1 (w0_.yes.map encI), .arr 3 1 (w0_.next.map encI), .arr 3 1 (w0_.match_.map encI), .arr 47 10 (w1_.map encRec), .arr 51 17 (w2_.map encOut)]
theorem spec_OnYes_spec (r : Raft) (m : Msg) (hz : SmallR r) (hm : m.entries.length ≤ 1048576) : FnSpec Tryz.prog 108 [(raftA r), (msgA m)] [] (.tup [.agg (rC ((yess r m).1) (.ref 0) (.ref 1) (.ref 2) (.ref 3)), .ref 4, .ref 5]) [.arr 45 6 ((((yess r m).1).hard.log).map encEnt), .arr 3 1 ((((yess r m).1).yes).map encI), .arr 3 1 ((((yess r m).1).next).map encI), .arr 3 1 ((((yess r m).1).match_).map encI), .arr 47 10 (((yess r m).2.1).map encRec), .arr 51 17 (((yess r m).2.2).map encOut)]:= by
 obtain ⟨z1, z2, z3, z4⟩ := id hz
 refine FnSpec.of 80 Tryz.func108 rfl Tryz.ntmps108 (by simp) (AW.weakK ?_)
 by_cases hok : raftOk r = true
 · have hokn := raftOk1_nums (raftOk_1 hok)
   refine AW.q 5 <| AW.seq <| AW.weak (Sub.nils [⟨true, 104, some 6, 5001, 45, 6⟩, ⟨true, 104, some 7, 5002, 3, 1⟩, ⟨true, 104, some 8, 5003, 3, 1⟩, ⟨true, 104, some 9, 5004, 3, 1⟩] (by kernel_rfl)) <| AW.g <| At.a 1 <| At.c (spec_l10Same_T_spec r (by exact hz) hok) Tryz.call101 true [] (fr 1220 0 4) [] trivial <| At.l0 37 12 47 10 88 112 <| At.l0 38 13 51 17 168 113 <| At.z 4 <| AW.seq <| AW.r <| At.a 2 <| At.c (spec_l10Hears_spec r m 2 (by exact hz) hm) Tryz.call129 true [] [] [] trivial <| At.z 1 <| AW.cNB (hears r m 2) (fun h1 => ?_) (fun h1 => ?_)
   · exact AW.q 6 <| AW.ret (rf (k3 (K_spec_OnYes _ r m) (show (r) = _ from by rw [yess_un (by assumption) hok]) (show ([]) = _ from by rw [yess_un (by assumption) hok]) (show ([]) = _ from by rw [yess_un (by assumption) hok]) (KF.n [(1220, 0), (1221, 1), (1222, 2), (1223, 3), (112, 4), (113, 5)])))
   have hhr := hears_ok h1
   have hnu := msgFits_nums hhr.2.1
   have hpy := raftOk_pair hok
   have hpl := putA_len m.from_ r.yes
   refine AW.skip <| AW.seq <| AW.q 6 <| AW.cD (m.term > r.hard.term) (fun h2 => ?_) (fun h2 => ?_)
   · exact AW.r <| At.a 3 <| At.c (spec_l10Follow_spec r m.term) Tryz.call130 true (fr 1220 0 4) (fr 1600 4 3) [] trivial <| At.z 1 <| AW.seq <| AW.gD Tryz_mix <| At.a 3 <| At.c (spec_l10Vote_spec ⟨r.id, r.of_, 1, r.commit, ⟨m.term, 0, r.hard.log⟩, [], [], []⟩) Tryz.call102 false [] [] [(1220, 6, (r.hard.log.map encEnt)), (1600, 1, []), (1601, 1, []), (1602, 1, [])] ⟨rfl, ⟨45, (r.hard.log.map encEnt), by kernel_rfl, FrzIs.same (allP_encEnt _)⟩, rfl, ⟨3, [], by kernel_rfl, FrzIs.same (fun _ h => by cases h)⟩, rfl, ⟨3, [], by kernel_rfl, FrzIs.same (fun _ h => by cases h)⟩, rfl, ⟨3, [], by kernel_rfl, FrzIs.same (fun _ h => by cases h)⟩, trivial⟩ <| At.ll 35 47 10 135 (45, 6) (([(⟨1, m.term, 0, 0, ⟨0, ⟨0, 0, 0, 0, eB⟩⟩⟩ : Rec)]).map encRec) <| At.apK 36 47 10 88 136 112 135 encRec ([] : List Rec) ([(⟨1, m.term, 0, 0, ⟨0, ⟨0, 0, 0, 0, eB⟩⟩⟩ : Rec)]) (by simp only [List.length_map, lens]; omega) <| At.zD 4 <| AW.ret (rf (k3 (K_spec_OnYes _ r m) (show ((⟨r.id, r.of_, 1, r.commit, ⟨m.term, 0, r.hard.log⟩, [], [], []⟩ : Raft)) = _ from by rw [yess_term h1 (by omega)]; rfl) (show ([(⟨1, m.term, 0, 0, ⟨0, ⟨0, 0, 0, 0, eB⟩⟩⟩ : Rec)]) = _ from by rw [yess_term h1 (by omega)]; rfl) (show ([]) = _ from by rw [yess_term h1 (by omega)]) (KF.n [(1220, 0), (1600, 1), (1601, 2), (1602, 3), (136, 4), (113, 5)])))
   refine AW.skip <| AW.seq <| AW.r <| At.a 4 ?_
   by_cases h3 : r.role = 2
   · refine At.sB 41 _ _ (sayUF h3) <| At.a 8 ?_
     by_cases h4 : m.term = r.hard.term
     · refine At.sB 49 _ _ (sayUF h4) <| At.z 4 <| AW.cNB (m.yes) (fun h5 => ?_) (fun h5 => ?_)
       · exact AW.q 6 <| AW.ret (rf (k3 (K_spec_OnYes _ r m) (show (r) = _ from by rw [yess_not h1 (by omega) (by exact .inr (.inr (by assumption)))]) (show ([]) = _ from by rw [yess_not h1 (by omega) (by exact .inr (.inr (by assumption)))]) (show ([]) = _ from by rw [yess_not h1 (by omega) (by exact .inr (.inr (by assumption)))]) (KF.n [(1220, 0), (1221, 1), (1222, 2), (1223, 3), (112, 4), (113, 5)])))
       refine AW.skip <| AW.r <| At.a 4 <| At.c (spec_l7Put_spec r.yes m.from_ (by omega) hpy.1) Tryz.call131 false [] [(2220, 0)] [(1221, 1, (r.yes.map encI))] ⟨rfl, ⟨3, (r.yes.map encI), by kernel_rfl, FrzIs.same (allP_encI _)⟩, trivial⟩ <| At.z 2 <| AW.seq <| AW.r <| At.a 3 <| At.sL 65 encI (putA m.from_ r.yes) <| At.a 1 <| At.sI 66 (((putA m.from_ r.yes).length : Int) + 1) (by omega) <| At.a 1 <| At.sI 67 (2 * (((putA m.from_ r.yes).length : Int) + 1)) (by omega) <| At.z 3 <| AW.cD ((2 * (((putA m.from_ r.yes).length : Int) + 1)) > r.of_) (fun h6 => ?_) (fun h6 => ?_)
       · refine AW.r <| At.a 2 ?_
         by_cases h7 : r.hard.log.length < 80
         · exact At.c (spec_l10Lead_T_spec ⟨r.id, r.of_, r.role, r.commit, r.hard, putA m.from_ r.yes, r.next, r.match_⟩ ([]) (by have q := putA_len m.from_ (putA m.from_ r.yes); unfold SmallR; dsimp only; omega) (by dsimp only; omega) (by dsimp only; omega) (by simp; done) h7) Tryz.call103 true [(1220, 0), (2220, 1), (1222, 2), (1223, 3), (112, 4)] (fr 2460 5 6) [] trivial <| At.z 6 <| AW.ret (rf (k3 (K_spec_OnYes _ r m) (show ((leadR (⟨r.id, r.of_, r.role, r.commit, r.hard, putA m.from_ r.yes, r.next, r.match_⟩ : Raft))) = _ from by rw [yess_lead h1 (by omega) (by omega) (by omega) (by assumption) (by omega)]) (show (([]) ++ leadRecs (⟨r.id, r.of_, r.role, r.commit, r.hard, putA m.from_ r.yes, r.next, r.match_⟩ : Raft)) = _ from by rw [yess_lead h1 (by omega) (by omega) (by omega) (by assumption) (by omega)]; rfl) (show (sendAll (leadR (⟨r.id, r.of_, r.role, r.commit, r.hard, putA m.from_ r.yes, r.next, r.match_⟩ : Raft))) = _ from by rw [yess_lead h1 (by omega) (by omega) (by omega) (by assumption) (by omega)]) (KF.n (fr 2460 0 6))))
         exact At.c (spec_l10Lead_F_spec ⟨r.id, r.of_, r.role, r.commit, r.hard, putA m.from_ r.yes, r.next, r.match_⟩ ([]) (by have q := putA_len m.from_ (putA m.from_ r.yes); unfold SmallR; dsimp only; omega) (by dsimp only; omega) (by dsimp only; omega) (by simp; done) h7) Tryz.call103 true [(1220, 0), (2220, 1), (1222, 2), (1223, 3), (112, 4)] (fr 2460 5 4) [] trivial <| At.z 6 <| AW.ret (rf (k3 (K_spec_OnYes _ r m) (show ((⟨(leadR (⟨r.id, r.of_, r.role, r.commit, r.hard, putA m.from_ r.yes, r.next, r.match_⟩ : Raft)).id, (leadR (⟨r.id, r.of_, r.role, r.commit, r.hard, putA m.from_ r.yes, r.next, r.match_⟩ : Raft)).of_, (leadR (⟨r.id, r.of_, r.role, r.commit, r.hard, putA m.from_ r.yes, r.next, r.match_⟩ : Raft)).role, (leadR (⟨r.id, r.of_, r.role, r.commit, r.hard, putA m.from_ r.yes, r.next, r.match_⟩ : Raft)).commit, ⟨(leadR (⟨r.id, r.of_, r.role, r.commit, r.hard, putA m.from_ r.yes, r.next, r.match_⟩ : Raft)).hard.term, (leadR (⟨r.id, r.of_, r.role, r.commit, r.hard, putA m.from_ r.yes, r.next, r.match_⟩ : Raft)).hard.vote, r.hard.log⟩, (leadR (⟨r.id, r.of_, r.role, r.commit, r.hard, putA m.from_ r.yes, r.next, r.match_⟩ : Raft)).yes, (leadR (⟨r.id, r.of_, r.role, r.commit, r.hard, putA m.from_ r.yes, r.next, r.match_⟩ : Raft)).next, (leadR (⟨r.id, r.of_, r.role, r.commit, r.hard, putA m.from_ r.yes, r.next, r.match_⟩ : Raft)).match_⟩ : Raft)) = _ from by rw [yess_lead h1 (by omega) (by omega) (by omega) (by assumption) (by omega)]; simp only [leadR, if_neg (by assumption)]; rfl) (show (([])) = _ from by rw [yess_lead h1 (by omega) (by omega) (by omega) (by assumption) (by omega)]; simp only [leadRecs]; rw [if_neg (by assumption)]) (show (sendAll (leadR (⟨r.id, r.of_, r.role, r.commit, r.hard, putA m.from_ r.yes, r.next, r.match_⟩ : Raft))) = _ from by rw [yess_lead h1 (by omega) (by omega) (by omega) (by assumption) (by omega)]) (KF.n [(1220, 0), (2460, 1), (2461, 2), (2462, 3), (112, 4), (2463, 5)])))
       exact AW.skip <| AW.q 6 <| AW.ret (rf (k3 (K_spec_OnYes _ r m) (show ((⟨r.id, r.of_, r.role, r.commit, r.hard, putA m.from_ r.yes, r.next, r.match_⟩ : Raft)) = _ from by rw [yess_less h1 (by omega) (by omega) (by omega) (by assumption) (by omega)]) (show ([]) = _ from by rw [yess_less h1 (by omega) (by omega) (by omega) (by assumption) (by omega)]) (show ([]) = _ from by rw [yess_less h1 (by omega) (by omega) (by omega) (by assumption) (by omega)]) (KF.n [(1220, 0), (2220, 1), (1222, 2), (1223, 3), (112, 4), (113, 5)])))
     refine At.sB 49 _ _ (sayUT h4) <| At.z 4 <| AW.cond true (by kernel_rfl) (fun _ => ?_) (fun h => by cases h)
     exact AW.q 6 <| AW.ret (rf (k3 (K_spec_OnYes _ r m) (show (r) = _ from by rw [yess_not h1 (by omega) (by exact .inr (.inl (by omega)))]) (show ([]) = _ from by rw [yess_not h1 (by omega) (by exact .inr (.inl (by omega)))]) (show ([]) = _ from by rw [yess_not h1 (by omega) (by exact .inr (.inl (by omega)))]) (KF.n [(1220, 0), (1221, 1), (1222, 2), (1223, 3), (112, 4), (113, 5)])))
   refine At.sB 41 _ _ (sayUT h3) <| At.z 12 <| AW.cond true (by kernel_rfl) (fun _ => ?_) (fun h => by cases h)
   exact AW.q 6 <| AW.ret (rf (k3 (K_spec_OnYes _ r m) (show (r) = _ from by rw [yess_not h1 (by omega) (by exact .inl (by omega))]) (show ([]) = _ from by rw [yess_not h1 (by omega) (by exact .inl (by omega))]) (show ([]) = _ from by rw [yess_not h1 (by omega) (by exact .inl (by omega))]) (KF.n [(1220, 0), (1221, 1), (1222, 2), (1223, 3), (112, 4), (113, 5)])))
 exact AW.q 5 <| AW.seq <| AW.weak (Sub.nils [⟨true, 104, some 6, 5001, 45, 6⟩, ⟨true, 104, some 7, 5002, 3, 1⟩, ⟨true, 104, some 8, 5003, 3, 1⟩, ⟨true, 104, some 9, 5004, 3, 1⟩] (by kernel_rfl)) <| AW.g <| At.a 1 <| At.c (spec_l10Same_F_spec r (by exact hz) hok) Tryz.call101 true [] (fr 1220 0 4) [] trivial <| At.l0 37 12 47 10 88 112 <| At.l0 38 13 51 17 168 113 <| At.z 4 <| AW.seq <| AW.r <| At.a 2 <| At.c (spec_l10Hears_spec r m 2 (by exact hz) hm) Tryz.call129 true [] [] [] trivial <| At.z 1 <| AW.cT (!(hears r m 2)) (by rw [show (hears r m 2) = false from (hears_no hok)]; rfl) <| AW.q 6 <| AW.ret (rf (k3 (K_spec_OnYes _ r m) (show ((⟨0, 0, 0, 0, ⟨0, 0, []⟩, [], [], []⟩ : Raft)) = _ from by simp [yess, same, hok, hears_no hok]; try rfl) (show ([]) = _ from by simp [yess, same, hok, hears_no hok]; try rfl) (show ([]) = _ from by simp [yess, same, hok, hears_no hok]; try rfl) (KF.n [(1220, 0), (1221, 1), (1222, 2), (1223, 3), (112, 4), (113, 5)])))
def K_spec_l10Fits (rs : List ResultVar) (r : Raft) (m : Msg) (w0_ : Bool) : Exit → Sg → Prop := KF Tryz.prog 0 rs (.bool w0_) []
theorem spec_l10Fits_spec (r : Raft) (m : Msg) (hz : SmallR r) (hm : m.entries.length ≤ 1048576) (ha : 0 ≤ m.at_ ∧ m.at_ ≤ 80) (hc : r.commit ≤ r.hard.log.length) : FnSpec Tryz.prog 132 [(raftA r), (msgA m)] [] (.bool (rowB m && !cutsB r m)) []:= by
 obtain ⟨z1, z2, z3, z4⟩ := id hz
 refine FnSpec.of 112 Tryz.func132 rfl Tryz.ntmps132 (by simp) (AW.weakK ?_)
 refine AW.q 3 <| AW.q 1 <| AW.seq <| AW.q 3 <| AW.cD (m.at_ > 0) (fun h1 => ?_) (fun h1 => ?_)
 · refine AW.gq 3 <| AW.seq <| AW.q 1 <| AW.block <| AW.loopW (fun (x : Nat × Int) => match x with | (k, lo) => Go.Sy.mk [.un, .un, .ptr 102 0 0, .ptr 103 0 0, .un, nI lo, nI (k : Int)] [(102, .box 29 (rV r)), (103, .box 33 (mC m (.sl false 6 (m.entries.map encEnt))))]) (fun (k, lo) => k ≤ m.entries.length ∧ rowGo m.term m.atTerm m.entries = rowGo m.term lo (m.entries.drop k)) (fun (k, lo) => m.entries.length - k) (0, m.atTerm) ⟨by omega, by rw [List.drop_zero]⟩ (Sub.o (dg [102, 103]) (bs 7 108)) ?_
   rintro ⟨k, lo⟩ ⟨hk, hR⟩
   refine AW.seq <| AW.r <| At.a 4 <| At.sL 17 encEnt m.entries <| At.z 1 <| AW.cD ((k : Int) < (m.entries.length : Int)) (fun h2 => ?_) (fun h2 => ?_)
   · refine AW.skip <| AW.seq <| AW.block <| AW.seq <| AW.seq <| AW.gD Tryz_mix <| At.a 3 <| At.iSl 24 24 (.tmp 22) (.tmp 23) false 6 (m.entries.map encEnt) .i64 (k : Int) 45 (by omega) (by simp only [List.length_map]; omega) <| At.a 1 ?_
     refine Exists.elim (gE m.entries k (by omega)) fun e1 he1 => ?_
     refine At.lVp 3 26 (.tmp 25) false 6 (m.entries.map encEnt) k 0 false 1 (encEnt e1) (nI e1.term) (mapGet he1) <| At.a 3 ?_
     by_cases h3 : e1.term < lo
     · refine At.sB 29 _ _ (sayT h3) <| At.zD 10 <| AW.cond true (by kernel_rfl) (fun _ => ?_) (fun h => by cases h)
       exact AW.q 1 <| AW.ret (rf (k1 (K_spec_l10Fits _ r m) (show (false) = _ from by have q : rowB m = false := (by unfold rowB; (rw [if_pos (by omega)]); rw [hR, dropCons (by assumption), rowGo, Bool.and_eq_false_iff]; left; rw [Bool.eq_false_iff, ne_eq, inR_iff]; omega); rw [q]; rfl) (KF.n [])))
     refine At.sB 29 _ _ (sayF h3) <| At.a 3 <| At.iSl 24 33 (.tmp 31) (.tmp 32) false 6 (m.entries.map encEnt) .i64 (k : Int) 45 (by omega) (by simp only [List.length_map]; omega) <| At.a 1 <| At.lVp 3 35 (.tmp 34) false 6 (m.entries.map encEnt) k 0 false 1 (encEnt e1) (nI e1.term) (mapGet he1) <| At.zD 4 <| AW.cD (e1.term > m.term) (fun h4 => ?_) (fun h4 => ?_)
     · exact AW.q 1 <| AW.ret (rf (k1 (K_spec_l10Fits _ r m) (show (false) = _ from by have q : rowB m = false := (by unfold rowB; (rw [if_pos (by omega)]); rw [hR, dropCons (by assumption), rowGo, Bool.and_eq_false_iff]; left; rw [Bool.eq_false_iff, ne_eq, inR_iff]; omega); rw [q]; rfl) (KF.n [])))
     refine AW.skip <| AW.g <| At.a 3 <| At.iSl 24 43 (.tmp 41) (.tmp 42) false 6 (m.entries.map encEnt) .i64 (k : Int) 45 (by omega) (by simp only [List.length_map]; omega) <| At.a 1 <| At.lVp 3 45 (.tmp 44) false 6 (m.entries.map encEnt) k 0 false 1 (encEnt e1) (nI e1.term) (mapGet he1) <| At.z 1 <| AW.g <| At.a 2 <| At.sI 20 ((k : Int) + 1) (by omega) <| At.z 1 ?_
     exact ⟨(k + 1, e1.term), ⟨by omega, by rw [hR, dropCons (by assumption), rowGo, inR_iff.2 (by omega), Bool.true_and]⟩, (by simp only; omega), Sub.o (dg [102, 103]) (bs 7 108)⟩
   refine AW.exit <| AW.seq <| AW.seq <| AW.gD Tryz_mix <| At.a 3 <| At.c (spec_l10End_spec r) Tryz.call29 true [] [] [] trivial <| At.a 2 ?_
   by_cases h5 : m.at_ > (r.hard.log.length : Int)
   · refine At.sB 51 _ _ (sayT h5) ?_
     have hrow : rowB m = true := by (have q := hR; rw [List.drop_of_length_le (by omega), rowGo] at q; unfold rowB; rw [if_pos (by omega)]; exact q)
     refine At.zD 14 <| AW.cond true (by kernel_rfl) (fun _ => ?_) (fun h => by cases h)
     exact AW.q 1 <| AW.ret (rf (k1 (K_spec_l10Fits _ r m) (show (true) = _ from by have q : fitsB r.hard.log m = false := (by grind [fitsB]); rw [hrow, cutsB, q]; rfl) (KF.n [])))
   refine At.sB 51 _ _ (sayF h5) ?_
   have hrow : rowB m = true := by (have q := hR; rw [List.drop_of_length_le (by omega), rowGo] at q; unfold rowB; rw [if_pos (by omega)]; exact q)
   refine At.a 4 <| At.sB 55 _ _ (sayT h1) <| At.a 4 <| At.c (spec_l10Term_spec r.hard m.at_ (by omega)) Tryz.call49 true [] [] [] trivial <| At.zD 5 <| AW.cU (termAt r.hard.log m.at_) m.atTerm (fun h7 => ?_) (fun h7 => ?_)
   · exact AW.q 1 <| AW.ret (rf (k1 (K_spec_l10Fits _ r m) (show (true) = _ from by have q : fitsB r.hard.log m = false := (by grind [fitsB]); rw [hrow, cutsB, q]; rfl) (KF.n [])))
   refine AW.skip <| AW.seq <| AW.q 1 <| AW.block ?_
   have hfit : fitsB r.hard.log m = true := by grind [fitsB]
   refine AW.loopW (fun (j : Nat) => Go.Sy.mk [.un, .un, .ptr 102 0 0, .ptr 103 0 0, .un, .un, .un, nI (j : Int)] [(102, .box 29 (rV r)), (103, .box 33 (mC m (.sl false 6 (m.entries.map encEnt))))]) (fun j => j ≤ m.entries.length ∧ cutGo r.hard.log r.commit m.at_ m.entries = cutGo r.hard.log r.commit (m.at_ + (j : Int)) (m.entries.drop j)) (fun j => m.entries.length - j) 0 ⟨by omega, by rw [List.drop_zero]; simp⟩ (Sub.o (dg [102, 103]) (bs 8 140)) ?_
   rintro j ⟨hkj, hQ⟩
   refine AW.seq <| AW.r <| At.a 4 <| At.sL 69 encEnt m.entries <| At.z 1 <| AW.cD ((j : Int) < (m.entries.length : Int)) (fun h8 => ?_) (fun h8 => ?_)
   · refine AW.skip <| AW.seq <| AW.block <| AW.r <| At.a 3 <| At.sI 75 (m.at_ + 1) (by omega) <| At.a 2 <| At.say 77 (nI (IntKind.i64.wrap ((m.at_ + 1) + (j : Int)))) (nI (m.at_ + (j : Int) + 1)) (by kernel_rfl) (sayAs (by omega) (by omega)) <| At.z 1 <| AW.seq <| AW.seq <| AW.gD Tryz_mix <| At.a 5 ?_
     by_cases h9 : (m.at_ + (j : Int) + 1) ≤ r.commit
     · refine At.sB 82 _ _ (sayT h9) <| At.a 3 <| At.c (spec_l10Term_spec r.hard (m.at_ + (j : Int) + 1) (by omega)) Tryz.call49 true [] [] [] trivial <| At.a 3 <| At.iSl 24 90 (.tmp 88) (.tmp 89) false 6 (m.entries.map encEnt) .i64 (j : Int) 45 (by omega) (by simp only [List.length_map]; omega) <| At.a 1 ?_
       refine Exists.elim (gE m.entries j (by omega)) fun e2 he2 => ?_
       refine At.lVp 3 92 (.tmp 91) false 6 (m.entries.map encEnt) j 0 false 1 (encEnt e2) (nI e2.term) (mapGet he2) <| At.zD 2 <| AW.cU (termAt r.hard.log (m.at_ + (j : Int) + 1)) e2.term (fun h10 => ?_) (fun h10 => ?_)
       · exact AW.q 1 <| AW.ret (rf (k1 (K_spec_l10Fits _ r m) (show (false) = _ from by have q : cutsB r m = true := (by rw [cutsB, hfit, Bool.true_and, hQ, dropCons (by assumption), cutGo, if_pos (by omega), if_neg (by assumption)]; rw [decide_eq_true (by omega)]); rw [hrow, q]; rfl) (KF.n [])))
       refine AW.skip <| AW.seq <| AW.gD Tryz_mix <| At.a 2 <| At.c (spec_l10End_spec r) Tryz.call29 true [] [] [] trivial <| At.a 2 ?_
       by_cases h11 : (m.at_ + (j : Int) + 1) > (r.hard.log.length : Int)
       · refine At.sB 99 _ _ (sayT h11) <| At.zD 12 <| AW.cond true (by kernel_rfl) (fun _ => ?_) (fun h => by cases h)
         exact AW.q 1 <| AW.ret (rf (k1 (K_spec_l10Fits _ r m) (show (true) = _ from by have q : fitsB r.hard.log m = false := (by grind [fitsB]); rw [hrow, cutsB, q]; rfl) (KF.n [])))
       refine At.sB 99 _ _ (sayF h11) <| At.a 3 <| At.c (spec_l10Term_spec r.hard (m.at_ + (j : Int) + 1) (by omega)) Tryz.call49 true [] [] [] trivial <| At.a 3 <| At.iSl 24 107 (.tmp 105) (.tmp 106) false 6 (m.entries.map encEnt) .i64 (j : Int) 45 (by omega) (by simp only [List.length_map]; omega) <| At.a 1 <| At.lVp 3 109 (.tmp 108) false 6 (m.entries.map encEnt) j 0 false 1 (encEnt e2) (nI e2.term) (mapGet he2) <| At.zD 2 <| AW.cU (termAt r.hard.log (m.at_ + (j : Int) + 1)) e2.term (fun h12 => ?_) (fun h12 => ?_)
       · exact AW.q 1 <| AW.ret (rf (k1 (K_spec_l10Fits _ r m) (show (true) = _ from by have q : fitsB r.hard.log m = false := (by grind [fitsB]); rw [hrow, cutsB, q]; rfl) (KF.n [])))
       refine AW.skip <| AW.g <| At.a 2 <| At.sI 72 ((j : Int) + 1) (by omega) <| At.z 1 ?_
       exact ⟨j + 1, ⟨by omega, by rw [hQ, dropCons (by assumption), cutGo, if_pos (by omega), if_pos (by assumption), show m.at_ + ((j + 1 : Nat) : Int) = m.at_ + (j : Int) + 1 from by omega]⟩, (by omega), Sub.o (dg [102, 103]) (bs 8 140)⟩
     refine At.sB 82 _ _ (sayF h9) <| At.zD 12 <| AW.cond false (by kernel_rfl) (fun h => by cases h) (fun _ => ?_)
     refine AW.skip <| AW.seq <| AW.gD Tryz_mix <| At.a 2 <| At.c (spec_l10End_spec r) Tryz.call29 true [] [] [] trivial <| At.a 2 ?_
     by_cases h13 : (m.at_ + (j : Int) + 1) > (r.hard.log.length : Int)
     · refine At.sB 99 _ _ (sayT h13) <| At.zD 12 <| AW.cond true (by kernel_rfl) (fun _ => ?_) (fun h => by cases h)
       exact AW.q 1 <| AW.ret (rf (k1 (K_spec_l10Fits _ r m) (show (true) = _ from by have q : cutsB r m = false := (by rw [cutsB, hfit, Bool.true_and, hQ, dropCons (List.getElem?_eq_getElem (l := m.entries) (i := j) (by omega)), cutGo, if_neg (by omega)]); rw [hrow, q]; rfl) (KF.n [])))
     refine At.sB 99 _ _ (sayF h13) <| At.a 3 <| At.c (spec_l10Term_spec r.hard (m.at_ + (j : Int) + 1) (by omega)) Tryz.call49 true [] [] [] trivial <| At.a 3 <| At.iSl 24 107 (.tmp 105) (.tmp 106) false 6 (m.entries.map encEnt) .i64 (j : Int) 45 (by omega) (by simp only [List.length_map]; omega) <| At.a 1 ?_
     refine Exists.elim (gE m.entries j (by omega)) fun e3 he3 => ?_
     refine At.lVp 3 109 (.tmp 108) false 6 (m.entries.map encEnt) j 0 false 1 (encEnt e3) (nI e3.term) (mapGet he3) <| At.zD 2 <| AW.cU (termAt r.hard.log (m.at_ + (j : Int) + 1)) e3.term (fun h14 => ?_) (fun h14 => ?_)
     · exact AW.q 1 <| AW.ret (rf (k1 (K_spec_l10Fits _ r m) (show (true) = _ from by have q : cutsB r m = false := (by rw [cutsB, hfit, Bool.true_and, hQ, dropCons (by assumption), cutGo, if_pos (by omega), if_neg (by assumption)]; rw [decide_eq_false (by omega)]); rw [hrow, q]; rfl) (KF.n [])))
     refine AW.skip <| AW.g <| At.a 2 <| At.sI 72 ((j : Int) + 1) (by omega) <| At.z 1 ?_
     exact ⟨j + 1, ⟨by omega, by rw [hQ, dropCons (by assumption), cutGo, if_pos (by omega), if_pos (by assumption), show m.at_ + ((j + 1 : Nat) : Int) = m.at_ + (j : Int) + 1 from by omega]⟩, (by omega), Sub.o (dg [102, 103]) (bs 8 140)⟩
   exact AW.exit <| AW.q 1 <| AW.ret (rf (k1 (K_spec_l10Fits _ r m) (show (true) = _ from by have q : cutsB r m = false := (by rw [cutsB, hfit, Bool.true_and, hQ, List.drop_of_length_le (by omega), cutGo]); rw [hrow, q]; rfl) (KF.n [])))
 refine AW.skip <| AW.seq <| AW.q 1 <| AW.block <| AW.loopW (fun (x : Nat × Int) => match x with | (k, lo) => Go.Sy.mk [.un, .un, .ptr 102 0 0, .ptr 103 0 0, .un, nI lo, nI (k : Int)] [(102, .box 29 (rV r)), (103, .box 33 (mC m (.sl false 6 (m.entries.map encEnt))))]) (fun (k, lo) => k ≤ m.entries.length ∧ rowGo m.term 0 m.entries = rowGo m.term lo (m.entries.drop k)) (fun (k, lo) => m.entries.length - k) (0, 0) ⟨by omega, by rw [List.drop_zero]⟩ (Sub.o (dg [102, 103]) (bs 7 108)) ?_
 rintro ⟨k, lo⟩ ⟨hk, hR⟩
 refine AW.seq <| AW.r <| At.a 4 <| At.sL 17 encEnt m.entries <| At.z 1 <| AW.cD ((k : Int) < (m.entries.length : Int)) (fun h15 => ?_) (fun h15 => ?_)
 · refine AW.skip <| AW.seq <| AW.block <| AW.seq <| AW.seq <| AW.gD Tryz_mix <| At.a 3 <| At.iSl 24 24 (.tmp 22) (.tmp 23) false 6 (m.entries.map encEnt) .i64 (k : Int) 45 (by omega) (by simp only [List.length_map]; omega) <| At.a 1 ?_
   refine Exists.elim (gE m.entries k (by omega)) fun e4 he4 => ?_
   refine At.lVp 3 26 (.tmp 25) false 6 (m.entries.map encEnt) k 0 false 1 (encEnt e4) (nI e4.term) (mapGet he4) <| At.a 3 ?_
   by_cases h16 : e4.term < lo
   · refine At.sB 29 _ _ (sayT h16) <| At.zD 10 <| AW.cond true (by kernel_rfl) (fun _ => ?_) (fun h => by cases h)
     exact AW.q 1 <| AW.ret (rf (k1 (K_spec_l10Fits _ r m) (show (false) = _ from by have q : rowB m = false := (by unfold rowB; (rw [if_neg (by omega)]); rw [hR, dropCons (by assumption), rowGo, Bool.and_eq_false_iff]; left; rw [Bool.eq_false_iff, ne_eq, inR_iff]; omega); rw [q]; rfl) (KF.n [])))
   refine At.sB 29 _ _ (sayF h16) <| At.a 3 <| At.iSl 24 33 (.tmp 31) (.tmp 32) false 6 (m.entries.map encEnt) .i64 (k : Int) 45 (by omega) (by simp only [List.length_map]; omega) <| At.a 1 <| At.lVp 3 35 (.tmp 34) false 6 (m.entries.map encEnt) k 0 false 1 (encEnt e4) (nI e4.term) (mapGet he4) <| At.zD 4 <| AW.cD (e4.term > m.term) (fun h17 => ?_) (fun h17 => ?_)
   · exact AW.q 1 <| AW.ret (rf (k1 (K_spec_l10Fits _ r m) (show (false) = _ from by have q : rowB m = false := (by unfold rowB; (rw [if_neg (by omega)]); rw [hR, dropCons (by assumption), rowGo, Bool.and_eq_false_iff]; left; rw [Bool.eq_false_iff, ne_eq, inR_iff]; omega); rw [q]; rfl) (KF.n [])))
   refine AW.skip <| AW.g <| At.a 3 <| At.iSl 24 43 (.tmp 41) (.tmp 42) false 6 (m.entries.map encEnt) .i64 (k : Int) 45 (by omega) (by simp only [List.length_map]; omega) <| At.a 1 <| At.lVp 3 45 (.tmp 44) false 6 (m.entries.map encEnt) k 0 false 1 (encEnt e4) (nI e4.term) (mapGet he4) <| At.z 1 <| AW.g <| At.a 2 <| At.sI 20 ((k : Int) + 1) (by omega) <| At.z 1 ?_
   exact ⟨(k + 1, e4.term), ⟨by omega, by rw [hR, dropCons (by assumption), rowGo, inR_iff.2 (by omega), Bool.true_and]⟩, (by simp only; omega), Sub.o (dg [102, 103]) (bs 7 108)⟩
 refine AW.exit <| AW.seq <| AW.seq <| AW.gD Tryz_mix <| At.a 3 <| At.c (spec_l10End_spec r) Tryz.call29 true [] [] [] trivial <| At.a 2 ?_
 by_cases h18 : m.at_ > (r.hard.log.length : Int)
 · refine At.sB 51 _ _ (sayT h18) ?_
   have hrow : rowB m = true := by (have q := hR; rw [List.drop_of_length_le (by omega), rowGo] at q; unfold rowB; rw [if_neg (by omega)]; exact q)
   refine At.zD 14 <| AW.cond true (by kernel_rfl) (fun _ => ?_) (fun h => by cases h)
   exact AW.q 1 <| AW.ret (rf (k1 (K_spec_l10Fits _ r m) (show (true) = _ from by have q : fitsB r.hard.log m = false := (by grind [fitsB]); rw [hrow, cutsB, q]; rfl) (KF.n [])))
 refine At.sB 51 _ _ (sayF h18) ?_
 have hrow : rowB m = true := by (have q := hR; rw [List.drop_of_length_le (by omega), rowGo] at q; unfold rowB; rw [if_neg (by omega)]; exact q)
 refine At.a 4 <| At.sB 55 _ _ (sayF h1) <| At.zD 10 <| AW.cond false (by kernel_rfl) (fun h => by cases h) (fun _ => ?_)
 refine AW.skip <| AW.seq <| AW.q 1 <| AW.block ?_
 have hfit : fitsB r.hard.log m = true := by grind [fitsB]
 refine AW.loopW (fun (j : Nat) => Go.Sy.mk [.un, .un, .ptr 102 0 0, .ptr 103 0 0, .un, .un, .un, nI (j : Int)] [(102, .box 29 (rV r)), (103, .box 33 (mC m (.sl false 6 (m.entries.map encEnt))))]) (fun j => j ≤ m.entries.length ∧ cutGo r.hard.log r.commit m.at_ m.entries = cutGo r.hard.log r.commit (m.at_ + (j : Int)) (m.entries.drop j)) (fun j => m.entries.length - j) 0 ⟨by omega, by rw [List.drop_zero]; simp⟩ (Sub.o (dg [102, 103]) (bs 8 140)) ?_
 rintro j ⟨hkj, hQ⟩
 refine AW.seq <| AW.r <| At.a 4 <| At.sL 69 encEnt m.entries <| At.z 1 <| AW.cD ((j : Int) < (m.entries.length : Int)) (fun h20 => ?_) (fun h20 => ?_)
 · refine AW.skip <| AW.seq <| AW.block <| AW.r <| At.a 3 <| At.sI 75 (m.at_ + 1) (by omega) <| At.a 2 <| At.say 77 (nI (IntKind.i64.wrap ((m.at_ + 1) + (j : Int)))) (nI (m.at_ + (j : Int) + 1)) (by kernel_rfl) (sayAs (by omega) (by omega)) <| At.z 1 <| AW.seq <| AW.seq <| AW.gD Tryz_mix <| At.a 5 ?_
   by_cases h21 : (m.at_ + (j : Int) + 1) ≤ r.commit
   · refine At.sB 82 _ _ (sayT h21) <| At.a 3 <| At.c (spec_l10Term_spec r.hard (m.at_ + (j : Int) + 1) (by omega)) Tryz.call49 true [] [] [] trivial <| At.a 3 <| At.iSl 24 90 (.tmp 88) (.tmp 89) false 6 (m.entries.map encEnt) .i64 (j : Int) 45 (by omega) (by simp only [List.length_map]; omega) <| At.a 1 ?_
     refine Exists.elim (gE m.entries j (by omega)) fun e5 he5 => ?_
     refine At.lVp 3 92 (.tmp 91) false 6 (m.entries.map encEnt) j 0 false 1 (encEnt e5) (nI e5.term) (mapGet he5) <| At.zD 2 <| AW.cU (termAt r.hard.log (m.at_ + (j : Int) + 1)) e5.term (fun h22 => ?_) (fun h22 => ?_)
     · exact AW.q 1 <| AW.ret (rf (k1 (K_spec_l10Fits _ r m) (show (false) = _ from by have q : cutsB r m = true := (by rw [cutsB, hfit, Bool.true_and, hQ, dropCons (by assumption), cutGo, if_pos (by omega), if_neg (by assumption)]; rw [decide_eq_true (by omega)]); rw [hrow, q]; rfl) (KF.n [])))
     refine AW.skip <| AW.seq <| AW.gD Tryz_mix <| At.a 2 <| At.c (spec_l10End_spec r) Tryz.call29 true [] [] [] trivial <| At.a 2 ?_
     by_cases h23 : (m.at_ + (j : Int) + 1) > (r.hard.log.length : Int)
     · refine At.sB 99 _ _ (sayT h23) <| At.zD 12 <| AW.cond true (by kernel_rfl) (fun _ => ?_) (fun h => by cases h)
       exact AW.q 1 <| AW.ret (rf (k1 (K_spec_l10Fits _ r m) (show (true) = _ from by have q : fitsB r.hard.log m = false := (by grind [fitsB]); rw [hrow, cutsB, q]; rfl) (KF.n [])))
     refine At.sB 99 _ _ (sayF h23) <| At.a 3 <| At.c (spec_l10Term_spec r.hard (m.at_ + (j : Int) + 1) (by omega)) Tryz.call49 true [] [] [] trivial <| At.a 3 <| At.iSl 24 107 (.tmp 105) (.tmp 106) false 6 (m.entries.map encEnt) .i64 (j : Int) 45 (by omega) (by simp only [List.length_map]; omega) <| At.a 1 <| At.lVp 3 109 (.tmp 108) false 6 (m.entries.map encEnt) j 0 false 1 (encEnt e5) (nI e5.term) (mapGet he5) <| At.zD 2 <| AW.cU (termAt r.hard.log (m.at_ + (j : Int) + 1)) e5.term (fun h24 => ?_) (fun h24 => ?_)
     · exact AW.q 1 <| AW.ret (rf (k1 (K_spec_l10Fits _ r m) (show (true) = _ from by have q : fitsB r.hard.log m = false := (by grind [fitsB]); rw [hrow, cutsB, q]; rfl) (KF.n [])))
     refine AW.skip <| AW.g <| At.a 2 <| At.sI 72 ((j : Int) + 1) (by omega) <| At.z 1 ?_
     exact ⟨j + 1, ⟨by omega, by rw [hQ, dropCons (by assumption), cutGo, if_pos (by omega), if_pos (by assumption), show m.at_ + ((j + 1 : Nat) : Int) = m.at_ + (j : Int) + 1 from by omega]⟩, (by omega), Sub.o (dg [102, 103]) (bs 8 140)⟩
   refine At.sB 82 _ _ (sayF h21) <| At.zD 12 <| AW.cond false (by kernel_rfl) (fun h => by cases h) (fun _ => ?_)
   refine AW.skip <| AW.seq <| AW.gD Tryz_mix <| At.a 2 <| At.c (spec_l10End_spec r) Tryz.call29 true [] [] [] trivial <| At.a 2 ?_
   by_cases h25 : (m.at_ + (j : Int) + 1) > (r.hard.log.length : Int)
   · refine At.sB 99 _ _ (sayT h25) <| At.zD 12 <| AW.cond true (by kernel_rfl) (fun _ => ?_) (fun h => by cases h)
     exact AW.q 1 <| AW.ret (rf (k1 (K_spec_l10Fits _ r m) (show (true) = _ from by have q : cutsB r m = false := (by rw [cutsB, hfit, Bool.true_and, hQ, dropCons (List.getElem?_eq_getElem (l := m.entries) (i := j) (by omega)), cutGo, if_neg (by omega)]); rw [hrow, q]; rfl) (KF.n [])))
   refine At.sB 99 _ _ (sayF h25) <| At.a 3 <| At.c (spec_l10Term_spec r.hard (m.at_ + (j : Int) + 1) (by omega)) Tryz.call49 true [] [] [] trivial <| At.a 3 <| At.iSl 24 107 (.tmp 105) (.tmp 106) false 6 (m.entries.map encEnt) .i64 (j : Int) 45 (by omega) (by simp only [List.length_map]; omega) <| At.a 1 ?_
   refine Exists.elim (gE m.entries j (by omega)) fun e6 he6 => ?_
   refine At.lVp 3 109 (.tmp 108) false 6 (m.entries.map encEnt) j 0 false 1 (encEnt e6) (nI e6.term) (mapGet he6) <| At.zD 2 <| AW.cU (termAt r.hard.log (m.at_ + (j : Int) + 1)) e6.term (fun h26 => ?_) (fun h26 => ?_)
   · exact AW.q 1 <| AW.ret (rf (k1 (K_spec_l10Fits _ r m) (show (true) = _ from by have q : cutsB r m = false := (by rw [cutsB, hfit, Bool.true_and, hQ, dropCons (by assumption), cutGo, if_pos (by omega), if_neg (by assumption)]; rw [decide_eq_false (by omega)]); rw [hrow, q]; rfl) (KF.n [])))
   refine AW.skip <| AW.g <| At.a 2 <| At.sI 72 ((j : Int) + 1) (by omega) <| At.z 1 ?_
   exact ⟨j + 1, ⟨by omega, by rw [hQ, dropCons (by assumption), cutGo, if_pos (by omega), if_pos (by assumption), show m.at_ + ((j + 1 : Nat) : Int) = m.at_ + (j : Int) + 1 from by omega]⟩, (by omega), Sub.o (dg [102, 103]) (bs 8 140)⟩
 exact AW.exit <| AW.q 1 <| AW.ret (rf (k1 (K_spec_l10Fits _ r m) (show (true) = _ from by have q : cutsB r m = false := (by rw [cutsB, hfit, Bool.true_and, hQ, List.drop_of_length_le (by omega), cutGo]); rw [hrow, q]; rfl) (KF.n [])))
theorem spec_l1Max_spec (a : Int) (b : Int) : FnSpec Tryz.prog 19 [nI a, nI b] [] (nI (max a b)) []:= by
 refine FnSpec.of 10 Tryz.func19 rfl Tryz.ntmps19 (by simp) (AW.weakK ?_)
 refine AW.q 1 <| AW.seq <| AW.q 3 <| AW.cD (a > b) (fun h1 => ?_) (fun h1 => ?_)
 · refine AW.q 2 <| AW.ret ?_
   refine ⟨_, Sub.refl _ _, ?_⟩
   refine KF.conv (fun w => nI w) (fun w => []) (show (a) = (max a b) from by omega) ?_
   exact KF.n []
 refine AW.skip <| AW.q 2 <| AW.ret ?_
 refine ⟨_, Sub.refl _ _, ?_⟩
 refine KF.conv (fun w => nI w) (fun w => []) (show (b) = (max a b) from by omega) ?_
 exact KF.n []
end Go.Proofs.YtocjgmdfocaamaaGreat
