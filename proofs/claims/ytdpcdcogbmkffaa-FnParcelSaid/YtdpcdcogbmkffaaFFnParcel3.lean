/- The contracts of the functions that FnParcel reaches (each: what it answers, said over values), printed by a program of this session (wip/sy/g/gen.py). -/
import Derived.Test.YtdpcdcogbmkffaaFFnParcel2
set_option linter.unusedVariables false
set_option linter.unusedSimpArgs false
set_option maxRecDepth 100000
set_option maxHeartbeats 4000000
namespace Go.Proofs.Ytdpcdcogbmkffaa
open Go Go.Sy Go.Proofs
theorem impl_expanded_spec  (block : List UInt8) (hb : block.length = 64) : FnSpec Try.prog 64 [.sl false 1 (block.map encU8)] [] (.agg (sp64 (schedI block))) [] := by
 refine FnSpec.of 84 Try.func64 rfl Try.ntmps64 (by simp) (AW.weakK ?_)
 refine AW.q 1 ?_
 refine AW.r ?_
 refine At.bldA (t := 99) (d := 12) (parts := #[]) (sp64 (List.replicate 64 (0 : Int))) (by kernel_rfl) (by kernel_rfl) (by kernel_rfl) (by kernel_rfl) ?_
 refine At.z 2 ?_
 refine AW.seq ?_
 refine AW.q 1 ?_
 refine AW.block ?_
 refine AW.loopW (fun (x : Nat × List Int) => match x with | (k, q) => Go.Sy.mk [.sl false 1 (block.map encU8), .un, .ptr 102 0 0, .ptr 103 0 0, .un, .un, .un, .un, .un, .un, .un, .un, .un, .int .i64 (k : Int)] [(102, .box 99 (sp64 (List.replicate 64 (0 : Int)))), (103, .box 99 (sp64 q))]) (fun (x : Nat × List Int) => match x with | (k, q) => k ≤ 16 ∧ q = wordsI block k ++ List.replicate (64 - k) 0 ∧ q.length = 64) (fun (x : Nat × List Int) => match x with | (k, q) => 16 - k) (0, List.replicate 64 0) ⟨by omega, by rw [words_start]; rfl, by simp⟩ (Sub.o [(102, 102), (103, 103)] [true, false, true, true, false, false, false, false, false, false, false, false, false, true]) ?_
 rintro ⟨k, q⟩ ⟨hk, hq0, hl0⟩
 refine AW.q 1 ?_
 refine AW.seq ?_
 refine AW.cD ((k : Int) < 16) (fun h1 => ?_) (fun h1 => ?_)
 · refine AW.skip ?_
   refine AW.seq ?_
   refine AW.block ?_
   refine AW.q 2 ?_
   refine AW.r ?_
   refine At.a 3 ?_
   refine At.sI 18 (4 * (k : Int)) (by omega) ?_
   refine At.a 2 ?_
   refine At.sI 20 (4 * (k : Int)) (by omega) ?_
   refine At.a 1 ?_
   refine At.sI 21 ((4 * (k : Int)) + 4) (by omega) ?_
   refine At.sliceSl (t := 32) (d := 22) (e := 5) (es := 1) (x := .tmp 16) (lx := some (.tmp 18)) (hx := some (.tmp 21)) (p := false) (xs := (block.map encU8)) (vl := .int .i64 (4 * (k : Int))) (vh := .int .i64 ((4 * (k : Int)) + 4)) ((4 * (k : Int)).toNat) (((4 * (k : Int)) + 4).toNat) (((block.drop ((4 * (k : Int)).toNat)).take ((((4 * (k : Int)) + 4).toNat) - ((4 * (k : Int)).toNat))).map encU8) (by kernel_rfl) (by kernel_rfl) (by kernel_rfl) (by kernel_rfl) (.inr ⟨_, _, rfl, sayNat (by omega)⟩) (.inr ⟨_, _, rfl, sayNat (by omega)⟩) (by omega) (by simp only [List.length_map]; omega) (by simp [List.map_take, List.map_drop]) ?_
   refine At.a 1 ?_
   refine At.sL 23 encU8 ((block.drop ((4 * (k : Int)).toNat)).take ((((4 * (k : Int)) + 4).toNat) - ((4 * (k : Int)).toNat))) ?_
   refine At.z 1 ?_
   refine AW.block ?_
   refine AW.loopW (fun (x : Nat × List Int) => match x with | (j, q) => Go.Sy.mk [.sl false 1 (block.map encU8), .un, .ptr 102 0 0, .ptr 103 0 0, .int .i64 (k : Int), .un, .un, .un, .un, .un, .un, .un, .un, .int .i64 (k : Int), .un, .un, .un, .un, .un, .un, .un, .un, .sl false 1 (((block.drop ((4 * (k : Int)).toNat)).take ((((4 * (k : Int)) + 4).toNat) - ((4 * (k : Int)).toNat))).map encU8), .int .i64 (((block.drop ((4 * (k : Int)).toNat)).take ((((4 * (k : Int)) + 4).toNat) - ((4 * (k : Int)).toNat))).length : Int), .int .i64 (j : Int)] [(102, .box 99 (sp64 (List.replicate 64 (0 : Int)))), (103, .box 99 (sp64 q))]) (fun (x : Nat × List Int) => match x with | (j, q) => j ≤ 4 ∧ q = wrdQ block k j ∧ q.length = 64) (fun (x : Nat × List Int) => match x with | (j, q) => 4 - j) (0, q) ⟨by omega, by rw [hq0, wrdQ_start (by omega)], by omega⟩ (Sub.o [(102, 102), (103, 103)] [true, false, true, true, true, false, false, false, false, false, false, false, false, true, false, false, false, false, false, false, false, false, true, true, true]) ?_
   rintro ⟨j, q⟩ ⟨hj, hq, hl⟩
   have h4l : ((block.drop (4 * (k : Int)).toNat).take ((4 * (k : Int) + 4).toNat - (4 * (k : Int)).toNat)).length = 4 := by rw [List.length_take, List.length_drop]; omega
   refine AW.q 1 ?_
   refine AW.seq ?_
   refine AW.cD ((j : Int) < (((block.drop ((4 * (k : Int)).toNat)).take ((((4 * (k : Int)) + 4).toNat) - ((4 * (k : Int)).toNat))).length : Int)) (fun h2 => ?_) (fun h2 => ?_)
   · refine AW.skip ?_
     refine AW.seq ?_
     refine AW.block ?_
     refine AW.r ?_
     refine At.iSl 32 26 (.tmp 22) (.tmp 24) false 1 (((block.drop ((4 * (k : Int)).toNat)).take ((((4 * (k : Int)) + 4).toNat) - ((4 * (k : Int)).toNat))).map encU8) .i64 (j : Int) 5 (by omega) (by simp only [List.length_map]; omega) ?_
     refine Exists.elim (gE ((block.drop ((4 * (k : Int)).toNat)).take ((((4 * (k : Int)) + 4).toNat) - ((4 * (k : Int)).toNat))) j (by omega)) fun e1 he1 => ?_
     have hbe1 := UInt8.toNat_lt e1
     refine At.lVp 5 27 (.tmp 26) false 1 (((block.drop ((4 * (k : Int)).toNat)).take ((((4 * (k : Int)) + 4).toNat) - ((4 * (k : Int)).toNat))).map encU8) j 0 false 1 (encU8 e1) (.int .u8 (e1.toNat : Int)) (mapGet he1) ?_
     refine At.z 1 ?_
     refine AW.g ?_
     refine At.a 2 ?_
     refine At.idxArr (t := 99) (d := 30) (i := 103) (len := 64) (x := .tmp 3) (y := .tmp 29) (kd := .i64) (n := (k : Int)) (by kernel_rfl) (by kernel_rfl) (by kernel_rfl) (by kernel_rfl) (by omega) (by omega) ?_
     refine Exists.elim (gE q k (by omega)) fun e2 he2 => ?_
     refine At.ldB (t := 3) (d := 31) (i := 103) (off := k) (tb := 99) (m := 1) (x := .tmp 30) (b := false) (cs := (sp64 q)) (.int .i64 e2) (by kernel_rfl) (by kernel_rfl) (by kernel_rfl) (by kernel_rfl) (by kernel_rfl) (sp64Get (by omega) he2) ?_
     refine At.shift (t := 3) (u := 63) (d := 32) (op := .shl) (x := .tmp 31) (y := .const (.int .u64 8)) (kd := .i64) (kd' := .u64) (a := e2) (b := 8) (shV .shl .i64 e2 8) (by kernel_rfl) (by kernel_rfl) (by kernel_rfl) (by kernel_rfl) (by omega) (shS_shl _ _ _) ?_
     refine At.a 1 ?_
     refine At.conv (s := 5) (t := 3) (d := 34) (x := .tmp 33) (kd := .u8) (kd' := .i64) (a := (e1.toNat : Int)) (.int .i64 (e1.toNat : Int)) (by kernel_rfl) (by kernel_rfl) (by kernel_rfl) (by kernel_rfl) (sayI _ (by have := UInt8.toNat_lt e1; omega)) ?_
     refine At.bits (t := 3) (u := 3) (d := 35) (op := .or) (x := .tmp 32) (y := .tmp 34) (kd := .i64) (a := shV .shl .i64 e2 8) (b := (e1.toNat : Int)) (partW block k j * 256 + (e1.toNat : Int)) (by kernel_rfl) (by kernel_rfl) (by kernel_rfl) (by kernel_rfl) ((bitS_or _ _ _).trans (congrArg some ((orShl (by have := partW_small (b := block) (i := k) (j := j) (by omega); rw [wrdQ_get2 hq he2]; omega) (by omega)).trans (by rw [wrdQ_get2 hq he2])))) ?_
     refine At.idxArr (t := 99) (d := 36) (i := 103) (len := 64) (x := .tmp 3) (y := .tmp 28) (kd := .i64) (n := (k : Int)) (by kernel_rfl) (by kernel_rfl) (by kernel_rfl) (by kernel_rfl) (by omega) (by omega) ?_
     refine At.stB (t := 3) (i := 103) (off := k) (tb := 99) (m := 1) (x := .tmp 36) (y := .tmp 35) (cs := (sp64 q)) (ys := [.int .i64 (partW block k j * 256 + (e1.toNat : Int))]) (v := .int .i64 (partW block k j * 256 + (e1.toNat : Int))) (sp64 (q.set k (partW block k j * 256 + (e1.toNat : Int)))) (by kernel_rfl) (by kernel_rfl) (by kernel_rfl) (by kernel_rfl) (by kernel_rfl) (by kernel_rfl) rfl (sp64Set (by omega) (by omega)) ?_
     refine At.done rfl ?_
     refine AW.g ?_
     refine At.a 1 ?_
     refine At.sI 37 ((j : Int) + 1) (by omega) ?_
     refine At.z 1 ?_
     exact ⟨(j + 1, (q.set k (partW block k j * 256 + (e1.toNat : Int)))), ⟨by omega, by rw [hq, wrdQ_set (partGet2 he1) rfl], by rw [List.length_set]; omega⟩, (by simp only; omega), Sub.o [(102, 102), (103, 103)] [true, false, true, true, true, false, false, false, false, false, false, false, false, true, false, false, false, false, false, false, false, false, true, true, true]⟩
   refine AW.exit ?_
   refine AW.g ?_
   refine At.a 1 ?_
   refine At.sI 38 ((k : Int) + 1) (by omega) ?_
   refine At.z 1 ?_
   exact ⟨(k + 1, q), ⟨by omega, by rw [hq, show j = 4 by omega, wrdQ_end (by omega)], by assumption⟩, (by simp only; omega), Sub.o [(102, 102), (103, 103)] [true, false, true, true, false, false, false, false, false, false, false, false, false, true]⟩
 refine AW.exit ?_
 refine AW.seq ?_
 refine AW.q 1 ?_
 refine AW.block ?_
 refine AW.loopW (fun (x : Nat × List Int) => match x with | (t, g) => Go.Sy.mk [.un, .un, .ptr 102 0 0, .ptr 103 0 0, .un, .un, .un, .int .i64 (t : Int)] [(102, .box 99 (sp64 (List.replicate 64 (0 : Int)))), (103, .box 99 (sp64 g))]) (fun (x : Nat × List Int) => match x with | (t, g) => 16 ≤ t ∧ t ≤ 64 ∧ ∃ l, l.length = t ∧ AllW l ∧ g = l ++ List.replicate (64 - t) 0 ∧ schedI block = extW (64 - t) l) (fun (x : Nat × List Int) => match x with | (t, g) => 64 - t) (16, q) ⟨by omega, by omega, wordsI block 16, by rw [wordsI_len], wordsI_all _ _, by rw [hq0, show k = 16 by omega], rfl⟩ (Sub.o [(102, 102), (103, 103)] [false, false, true, true, false, false, false, true]) ?_
 rintro ⟨t, g⟩ ⟨ht1, ht2, l, hl, hla, hq, hR⟩
 have hqa : AllW g := hq ▸ hla.zeros (64 - t)
 have hql : g.length = 64 := by rw [hq, List.length_append, List.length_replicate]; omega
 refine AW.seq ?_
 refine AW.q 2 ?_
 refine AW.cD ((t : Int) < 64) (fun h3 => ?_) (fun h3 => ?_)
 · refine AW.skip ?_
   refine AW.seq ?_
   refine AW.block ?_
   refine AW.seq ?_
   refine AW.gD Try_mix ?_
   refine At.a 2 ?_
   refine At.sI 44 ((t : Int) - 15) (by omega) ?_
   refine At.idxArr (t := 99) (d := 45) (i := 103) (len := 64) (x := .tmp 3) (y := .tmp 44) (kd := .i64) (n := (t : Int) - 15) (by kernel_rfl) (by kernel_rfl) (by kernel_rfl) (by kernel_rfl) (by omega) (by omega) ?_
   refine Exists.elim (gE g (((t : Int) - 15).toNat) (by omega)) fun e3 he3 => ?_
   have hbe3 := hqa _ (List.mem_of_getElem? he3)
   have hsAe3 := sgA_bd hbe3
   have hsBe3 := sgB_bd hbe3
   unfold W32 at hbe3
   unfold W32 sgA at hsAe3
   unfold W32 sgB at hsBe3
   refine At.ldB (t := 3) (d := 46) (i := 103) (off := (((t : Int) - 15).toNat)) (tb := 99) (m := 1) (x := .tmp 45) (b := false) (cs := (sp64 g)) (.int .i64 e3) (by kernel_rfl) (by kernel_rfl) (by kernel_rfl) (by kernel_rfl) (by kernel_rfl) (sp64Get (by omega) he3) ?_
   refine At.a 2 ?_
   refine At.sI 48 ((t : Int) - 2) (by omega) ?_
   refine At.idxArr (t := 99) (d := 49) (i := 103) (len := 64) (x := .tmp 3) (y := .tmp 48) (kd := .i64) (n := (t : Int) - 2) (by kernel_rfl) (by kernel_rfl) (by kernel_rfl) (by kernel_rfl) (by omega) (by omega) ?_
   refine Exists.elim (gE g (((t : Int) - 2).toNat) (by omega)) fun e4 he4 => ?_
   have hbe4 := hqa _ (List.mem_of_getElem? he4)
   have hsAe4 := sgA_bd hbe4
   have hsBe4 := sgB_bd hbe4
   unfold W32 at hbe4
   unfold W32 sgA at hsAe4
   unfold W32 sgB at hsBe4
   refine At.ldB (t := 3) (d := 50) (i := 103) (off := (((t : Int) - 2).toNat)) (tb := 99) (m := 1) (x := .tmp 49) (b := false) (cs := (sp64 g)) (.int .i64 e4) (by kernel_rfl) (by kernel_rfl) (by kernel_rfl) (by kernel_rfl) (by kernel_rfl) (sp64Get (by omega) he4) ?_
   refine At.zD 2 ?_
   refine AW.r ?_
   refine At.a 1 ?_
   refine At.c (impl_turnRight_spec  e3 7 (by omega) (by omega)) Try.call65 true [] [] [] trivial ?_
   refine At.a 1 ?_
   refine At.c (impl_turnRight_spec  e3 18 (by omega) (by omega)) Try.call65 true [] [] [] trivial ?_
   refine At.bits (t := 3) (u := 3) (d := 55) (op := .xor) (x := .tmp 52) (y := .tmp 54) (kd := .i64) (a := turnI e3 7) (b := turnI e3 18) (bitV .xor .i64 (turnI e3 7) (turnI e3 18)) (by kernel_rfl) (by kernel_rfl) (by kernel_rfl) (by kernel_rfl) (bitS_xor _ _ _) ?_
   refine At.a 1 ?_
   refine At.shift (t := 3) (u := 63) (d := 57) (op := .shr) (x := .tmp 56) (y := .const (.int .u64 3)) (kd := .i64) (kd' := .u64) (a := e3) (b := 3) (shV .shr .i64 e3 3) (by kernel_rfl) (by kernel_rfl) (by kernel_rfl) (by kernel_rfl) (by omega) (shS_shr _ _ _) ?_
   refine At.bits (t := 3) (u := 3) (d := 58) (op := .xor) (x := .tmp 55) (y := .tmp 57) (kd := .i64) (a := bitV .xor .i64 (turnI e3 7) (turnI e3 18)) (b := shV .shr .i64 e3 3) (bitV .xor .i64 (bitV .xor .i64 (turnI e3 7) (turnI e3 18)) (shV .shr .i64 e3 3)) (by kernel_rfl) (by kernel_rfl) (by kernel_rfl) (by kernel_rfl) (bitS_xor _ _ _) ?_
   refine At.z 1 ?_
   refine AW.r ?_
   refine At.a 1 ?_
   refine At.c (impl_turnRight_spec  e4 17 (by omega) (by omega)) Try.call65 true [] [] [] trivial ?_
   refine At.a 1 ?_
   refine At.c (impl_turnRight_spec  e4 19 (by omega) (by omega)) Try.call65 true [] [] [] trivial ?_
   refine At.bits (t := 3) (u := 3) (d := 63) (op := .xor) (x := .tmp 60) (y := .tmp 62) (kd := .i64) (a := turnI e4 17) (b := turnI e4 19) (bitV .xor .i64 (turnI e4 17) (turnI e4 19)) (by kernel_rfl) (by kernel_rfl) (by kernel_rfl) (by kernel_rfl) (bitS_xor _ _ _) ?_
   refine At.a 1 ?_
   refine At.shift (t := 3) (u := 63) (d := 65) (op := .shr) (x := .tmp 64) (y := .const (.int .u64 10)) (kd := .i64) (kd' := .u64) (a := e4) (b := 10) (shV .shr .i64 e4 10) (by kernel_rfl) (by kernel_rfl) (by kernel_rfl) (by kernel_rfl) (by omega) (shS_shr _ _ _) ?_
   refine At.bits (t := 3) (u := 3) (d := 66) (op := .xor) (x := .tmp 63) (y := .tmp 65) (kd := .i64) (a := bitV .xor .i64 (turnI e4 17) (turnI e4 19)) (b := shV .shr .i64 e4 10) (bitV .xor .i64 (bitV .xor .i64 (turnI e4 17) (turnI e4 19)) (shV .shr .i64 e4 10)) (by kernel_rfl) (by kernel_rfl) (by kernel_rfl) (by kernel_rfl) (bitS_xor _ _ _) ?_
   refine At.z 1 ?_
   refine AW.gD Try_mix ?_
   refine At.a 4 ?_
   refine At.sI 70 ((t : Int) - 7) (by omega) ?_
   refine At.idxArr (t := 99) (d := 71) (i := 103) (len := 64) (x := .tmp 3) (y := .tmp 70) (kd := .i64) (n := (t : Int) - 7) (by kernel_rfl) (by kernel_rfl) (by kernel_rfl) (by kernel_rfl) (by omega) (by omega) ?_
   refine Exists.elim (gE g (((t : Int) - 7).toNat) (by omega)) fun e5 he5 => ?_
   have hbe5 := hqa _ (List.mem_of_getElem? he5)
   have hsAe5 := sgA_bd hbe5
   have hsBe5 := sgB_bd hbe5
   unfold W32 at hbe5
   unfold W32 sgA at hsAe5
   unfold W32 sgB at hsBe5
   refine At.ldB (t := 3) (d := 72) (i := 103) (off := (((t : Int) - 7).toNat)) (tb := 99) (m := 1) (x := .tmp 71) (b := false) (cs := (sp64 g)) (.int .i64 e5) (by kernel_rfl) (by kernel_rfl) (by kernel_rfl) (by kernel_rfl) (by kernel_rfl) (sp64Get (by omega) he5) ?_
   refine At.a 1 ?_
   refine At.sI 73 ((bitV .xor .i64 (bitV .xor .i64 (turnI e4 17) (turnI e4 19)) (shV .shr .i64 e4 10)) + e5) (by omega) ?_
   refine At.a 2 ?_
   refine At.sI 75 (((bitV .xor .i64 (bitV .xor .i64 (turnI e4 17) (turnI e4 19)) (shV .shr .i64 e4 10)) + e5) + (bitV .xor .i64 (bitV .xor .i64 (turnI e3 7) (turnI e3 18)) (shV .shr .i64 e3 3))) (by omega) ?_
   refine At.a 2 ?_
   refine At.sI 77 ((t : Int) - 16) (by omega) ?_
   refine At.idxArr (t := 99) (d := 78) (i := 103) (len := 64) (x := .tmp 3) (y := .tmp 77) (kd := .i64) (n := (t : Int) - 16) (by kernel_rfl) (by kernel_rfl) (by kernel_rfl) (by kernel_rfl) (by omega) (by omega) ?_
   refine Exists.elim (gE g (((t : Int) - 16).toNat) (by omega)) fun e6 he6 => ?_
   have hbe6 := hqa _ (List.mem_of_getElem? he6)
   have hsAe6 := sgA_bd hbe6
   have hsBe6 := sgB_bd hbe6
   unfold W32 at hbe6
   unfold W32 sgA at hsAe6
   unfold W32 sgB at hsBe6
   refine At.ldB (t := 3) (d := 79) (i := 103) (off := (((t : Int) - 16).toNat)) (tb := 99) (m := 1) (x := .tmp 78) (b := false) (cs := (sp64 g)) (.int .i64 e6) (by kernel_rfl) (by kernel_rfl) (by kernel_rfl) (by kernel_rfl) (by kernel_rfl) (sp64Get (by omega) he6) ?_
   refine At.a 1 ?_
   refine At.sI 80 ((((bitV .xor .i64 (bitV .xor .i64 (turnI e4 17) (turnI e4 19)) (shV .shr .i64 e4 10)) + e5) + (bitV .xor .i64 (bitV .xor .i64 (turnI e3 7) (turnI e3 18)) (shV .shr .i64 e3 3))) + e6) (by omega) ?_
   refine At.bits (t := 3) (u := 3) (d := 81) (op := .and) (x := .tmp 80) (y := .const (.int .i64 4294967295)) (kd := .i64) (a := (((bitV .xor .i64 (bitV .xor .i64 (turnI e4 17) (turnI e4 19)) (shV .shr .i64 e4 10)) + e5) + (bitV .xor .i64 (bitV .xor .i64 (turnI e3 7) (turnI e3 18)) (shV .shr .i64 e3 3))) + e6) (b := 4294967295) (((((bitV .xor .i64 (bitV .xor .i64 (turnI e4 17) (turnI e4 19)) (shV .shr .i64 e4 10)) + e5) + (bitV .xor .i64 (bitV .xor .i64 (turnI e3 7) (turnI e3 18)) (shV .shr .i64 e3 3))) + e6) % 4294967296) (by kernel_rfl) (by kernel_rfl) (by kernel_rfl) (by kernel_rfl) (andM 32 4294967296 _ _ (by decide) (by decide) (by decide)) ?_
   refine At.idxArr (t := 99) (d := 82) (i := 103) (len := 64) (x := .tmp 3) (y := .tmp 67) (kd := .i64) (n := (t : Int)) (by kernel_rfl) (by kernel_rfl) (by kernel_rfl) (by kernel_rfl) (by omega) (by omega) ?_
   refine At.stB (t := 3) (i := 103) (off := t) (tb := 99) (m := 1) (x := .tmp 82) (y := .tmp 81) (cs := (sp64 g)) (ys := [.int .i64 (((((bitV .xor .i64 (bitV .xor .i64 (turnI e4 17) (turnI e4 19)) (shV .shr .i64 e4 10)) + e5) + (bitV .xor .i64 (bitV .xor .i64 (turnI e3 7) (turnI e3 18)) (shV .shr .i64 e3 3))) + e6) % 4294967296)]) (v := .int .i64 (((((bitV .xor .i64 (bitV .xor .i64 (turnI e4 17) (turnI e4 19)) (shV .shr .i64 e4 10)) + e5) + (bitV .xor .i64 (bitV .xor .i64 (turnI e3 7) (turnI e3 18)) (shV .shr .i64 e3 3))) + e6) % 4294967296)) (sp64 (g.set t (((((bitV .xor .i64 (bitV .xor .i64 (turnI e4 17) (turnI e4 19)) (shV .shr .i64 e4 10)) + e5) + (bitV .xor .i64 (bitV .xor .i64 (turnI e3 7) (turnI e3 18)) (shV .shr .i64 e3 3))) + e6) % 4294967296))) (by kernel_rfl) (by kernel_rfl) (by kernel_rfl) (by kernel_rfl) (by kernel_rfl) (by kernel_rfl) rfl (sp64Set (by omega) (by omega)) ?_
   refine At.done rfl ⟨by kernel_rfl, ?_⟩
   refine AW.g ?_
   refine At.a 2 ?_
   refine At.sI 42 ((t : Int) + 1) (by omega) ?_
   refine At.z 1 ?_
   exact ⟨(t + 1, (g.set t (((((bitV .xor .i64 (bitV .xor .i64 (turnI e4 17) (turnI e4 19)) (shV .shr .i64 e4 10)) + e5) + (bitV .xor .i64 (bitV .xor .i64 (turnI e3 7) (turnI e3 18)) (shV .shr .i64 e3 3))) + e6) % 4294967296))), ⟨by omega, by omega, l ++ [nxW l], by simp [hl], hla.snoc (nxW_bd l), ext_set2 hq hl (by omega) (nx_of2 hl (at_of hq (by omega) (nat_at he3 (by omega))) (at_of hq (by omega) (nat_at he4 (by omega))) (at_of hq (by omega) (nat_at he5 (by omega))) (at_of hq (by omega) (nat_at he6 (by omega)))), by rw [hR, ext_step (by omega)]⟩, (by simp only; omega), Sub.o [(102, 102), (103, 103)] [false, false, true, true, false, false, false, true]⟩
 refine AW.exit ?_
 refine AW.q 2 ?_
 refine AW.ret ?_
 refine ⟨_, Sub.refl _ _, ?_⟩
 refine KF.conv (fun w => .agg (sp64 w)) (fun w => []) (show (g) = (schedI block) from by rw [hR, hq, show 64 - t = 0 by omega]; exact List.append_nil l) ?_
 exact KF.n []
theorem impl_round_spec  (h : List Int) (b : List UInt8) (hh : h.length = 8) (ha : AllW h) (hb : b.length = 64) : FnSpec Try.prog 45 [.agg (sp8 h), .sl false 1 (b.map encU8)] [] (.agg (sp8 (roundI h b))) [] := by
 have hkl := keysI_len
 have hsl := sched_len b
 have hsa := sched_all b
 refine FnSpec.of 131 Try.func45 rfl Try.ntmps45 (by simp) (AW.weakK ?_)
 refine AW.q 2 ?_
 refine AW.r ?_
 refine At.c (impl_constants_spec   ) Try.call63 true [] [] [] trivial ?_
 refine At.z 2 ?_
 refine AW.r ?_
 refine At.a 1 ?_
 refine At.c (impl_expanded_spec  b hb) Try.call64 true [] [] [] trivial ?_
 refine At.z 2 ?_
 refine AW.seq ?_
 refine AW.gD Try_mix ?_
 refine At.idxArr (t := 77) (d := 25) (i := 102) (len := 8) (x := .tmp 2) (y := .const (.int .i64 0)) (kd := .i64) (n := 0) (by kernel_rfl) (by kernel_rfl) (by kernel_rfl) (by kernel_rfl) (by omega) (by omega) ?_
 refine At.a 1 ?_
 refine At.idxArr (t := 77) (d := 27) (i := 102) (len := 8) (x := .tmp 2) (y := .const (.int .i64 1)) (kd := .i64) (n := 1) (by kernel_rfl) (by kernel_rfl) (by kernel_rfl) (by kernel_rfl) (by omega) (by omega) ?_
 refine At.a 1 ?_
 refine At.idxArr (t := 77) (d := 29) (i := 102) (len := 8) (x := .tmp 2) (y := .const (.int .i64 2)) (kd := .i64) (n := 2) (by kernel_rfl) (by kernel_rfl) (by kernel_rfl) (by kernel_rfl) (by omega) (by omega) ?_
 refine At.a 1 ?_
 refine At.idxArr (t := 77) (d := 31) (i := 102) (len := 8) (x := .tmp 2) (y := .const (.int .i64 3)) (kd := .i64) (n := 3) (by kernel_rfl) (by kernel_rfl) (by kernel_rfl) (by kernel_rfl) (by omega) (by omega) ?_
 refine At.a 1 ?_
 refine At.idxArr (t := 77) (d := 33) (i := 102) (len := 8) (x := .tmp 2) (y := .const (.int .i64 4)) (kd := .i64) (n := 4) (by kernel_rfl) (by kernel_rfl) (by kernel_rfl) (by kernel_rfl) (by omega) (by omega) ?_
 refine At.a 1 ?_
 refine At.idxArr (t := 77) (d := 35) (i := 102) (len := 8) (x := .tmp 2) (y := .const (.int .i64 5)) (kd := .i64) (n := 5) (by kernel_rfl) (by kernel_rfl) (by kernel_rfl) (by kernel_rfl) (by omega) (by omega) ?_
 refine At.a 1 ?_
 refine At.idxArr (t := 77) (d := 37) (i := 102) (len := 8) (x := .tmp 2) (y := .const (.int .i64 6)) (kd := .i64) (n := 6) (by kernel_rfl) (by kernel_rfl) (by kernel_rfl) (by kernel_rfl) (by omega) (by omega) ?_
 refine At.a 1 ?_
 refine At.idxArr (t := 77) (d := 39) (i := 102) (len := 8) (x := .tmp 2) (y := .const (.int .i64 7)) (kd := .i64) (n := 7) (by kernel_rfl) (by kernel_rfl) (by kernel_rfl) (by kernel_rfl) (by omega) (by omega) ?_
 refine At.zD 9 ?_
 refine AW.seq ?_
 refine AW.q 1 ?_
 refine AW.block ?_
 refine AW.loopW (fun (x : Nat × V8) => match x with | (t, v) => Go.Sy.mk [.un, .un, .ptr 102 0 0, .un, .ptr 104 0 0, .ptr 105 0 0, .ptr 106 0 0, .int .i64 v.a, .int .i64 v.b, .int .i64 v.c, .int .i64 v.d, .int .i64 v.e, .int .i64 v.f, .int .i64 v.g, .int .i64 v.h, .un, .un, .un, .un, .un, .un, .un, .un, .un, .un, .un, .un, .un, .un, .un, .un, .un, .un, .un, .un, .un, .un, .un, .un, .un, .un, .int .i64 (t : Int)] [(102, .box 77 (sp8 h)), (104, .box 77 (sp8 (List.replicate 8 (0 : Int)))), (105, .box 99 (sp64 keysI)), (106, .box 99 (sp64 (schedI b)))]) (fun (x : Nat × V8) => match x with | (t, v) => t ≤ 64 ∧ v.all ∧ runV keysI (schedI b) (V8.of h) = runV (keysI.drop t) ((schedI b).drop t) v) (fun (x : Nat × V8) => match x with | (t, v) => 64 - t) (0, V8.of h) ⟨by omega, of_all ha, rfl⟩ (Sub.o [(102, 102), (104, 104), (105, 105), (106, 106)] [false, false, true, false, true, true, true, true, true, true, true, true, true, true, true, false, false, false, false, false, false, false, false, false, false, false, false, false, false, false, false, false, false, false, false, false, false, false, false, false, false, true]) ?_
 rintro ⟨t, v⟩ ⟨ht, hv, hR⟩
 have hC := sgC_bd v.e
 have hD := sgD_bd v.a
 obtain ⟨v1, v2, v3, v4, v5, v6, v7, v8⟩ := id hv
 have hch := ch_bd v5 v6 v7
 have hmj := mj_bd v1 v2 v3
 unfold W32 sgC at hC
 unfold W32 sgD at hD
 unfold W32 chI at hch
 unfold W32 mjI at hmj
 unfold W32 at v1 v2 v3 v4 v5 v6 v7 v8
 refine AW.q 1 ?_
 refine AW.seq ?_
 refine AW.cD ((t : Int) < 64) (fun h1 => ?_) (fun h1 => ?_)
 · refine AW.skip ?_
   refine AW.seq ?_
   refine AW.block ?_
   refine AW.q 2 ?_
   refine AW.r ?_
   refine At.a 1 ?_
   refine At.c (impl_turnRight_spec  v.e 6 (by omega) (by omega)) Try.call65 true [] [] [] trivial ?_
   refine At.a 1 ?_
   refine At.c (impl_turnRight_spec  v.e 11 (by omega) (by omega)) Try.call65 true [] [] [] trivial ?_
   refine At.bits (t := 3) (u := 3) (d := 48) (op := .xor) (x := .tmp 45) (y := .tmp 47) (kd := .i64) (a := turnI v.e 6) (b := turnI v.e 11) (bitV .xor .i64 (turnI v.e 6) (turnI v.e 11)) (by kernel_rfl) (by kernel_rfl) (by kernel_rfl) (by kernel_rfl) (bitS_xor _ _ _) ?_
   refine At.a 1 ?_
   refine At.c (impl_turnRight_spec  v.e 25 (by omega) (by omega)) Try.call65 true [] [] [] trivial ?_
   refine At.bits (t := 3) (u := 3) (d := 51) (op := .xor) (x := .tmp 48) (y := .tmp 50) (kd := .i64) (a := bitV .xor .i64 (turnI v.e 6) (turnI v.e 11)) (b := turnI v.e 25) (bitV .xor .i64 (bitV .xor .i64 (turnI v.e 6) (turnI v.e 11)) (turnI v.e 25)) (by kernel_rfl) (by kernel_rfl) (by kernel_rfl) (by kernel_rfl) (bitS_xor _ _ _) ?_
   refine At.z 1 ?_
   refine AW.seq ?_
   refine AW.gD Try_mix ?_
   refine At.a 3 ?_
   refine At.sI 54 (v.h + (bitV .xor .i64 (bitV .xor .i64 (turnI v.e 6) (turnI v.e 11)) (turnI v.e 25))) (by omega) ?_
   refine At.a 2 ?_
   refine At.bits (t := 3) (u := 3) (d := 57) (op := .and) (x := .tmp 55) (y := .tmp 56) (kd := .i64) (a := v.e) (b := v.f) (bitV .and .i64 v.e v.f) (by kernel_rfl) (by kernel_rfl) (by kernel_rfl) (by kernel_rfl) (bitS_and _ _ _) ?_
   refine At.a 1 ?_
   refine At.bits (t := 3) (u := 3) (d := 59) (op := .xor) (x := .const (.int .i64 4294967295)) (y := .tmp 58) (kd := .i64) (a := 4294967295) (b := v.e) (bitV .xor .i64 4294967295 v.e) (by kernel_rfl) (by kernel_rfl) (by kernel_rfl) (by kernel_rfl) (bitS_xor _ _ _) ?_
   refine At.a 1 ?_
   refine At.bits (t := 3) (u := 3) (d := 61) (op := .and) (x := .tmp 59) (y := .tmp 60) (kd := .i64) (a := bitV .xor .i64 4294967295 v.e) (b := v.g) (bitV .and .i64 (bitV .xor .i64 4294967295 v.e) v.g) (by kernel_rfl) (by kernel_rfl) (by kernel_rfl) (by kernel_rfl) (bitS_and _ _ _) ?_
   refine At.bits (t := 3) (u := 3) (d := 62) (op := .xor) (x := .tmp 57) (y := .tmp 61) (kd := .i64) (a := bitV .and .i64 v.e v.f) (b := bitV .and .i64 (bitV .xor .i64 4294967295 v.e) v.g) (bitV .xor .i64 (bitV .and .i64 v.e v.f) (bitV .and .i64 (bitV .xor .i64 4294967295 v.e) v.g)) (by kernel_rfl) (by kernel_rfl) (by kernel_rfl) (by kernel_rfl) (bitS_xor _ _ _) ?_
   refine At.a 1 ?_
   refine At.sI 63 ((v.h + (bitV .xor .i64 (bitV .xor .i64 (turnI v.e 6) (turnI v.e 11)) (turnI v.e 25))) + (bitV .xor .i64 (bitV .and .i64 v.e v.f) (bitV .and .i64 (bitV .xor .i64 4294967295 v.e) v.g))) (by omega) ?_
   refine At.a 1 ?_
   refine At.idxArr (t := 99) (d := 65) (i := 105) (len := 64) (x := .tmp 5) (y := .tmp 64) (kd := .i64) (n := (t : Int)) (by kernel_rfl) (by kernel_rfl) (by kernel_rfl) (by kernel_rfl) (by omega) (by omega) ?_
   refine Exists.elim (gE keysI t (by omega)) fun e1 he1 => ?_
   have hbe1 := keysI_bd _ (List.mem_of_getElem? he1)
   unfold W32 at hbe1
   refine At.ldB (t := 3) (d := 66) (i := 105) (off := t) (tb := 99) (m := 1) (x := .tmp 65) (b := false) (cs := (sp64 keysI)) (.int .i64 e1) (by kernel_rfl) (by kernel_rfl) (by kernel_rfl) (by kernel_rfl) (by kernel_rfl) (sp64Get (by omega) he1) ?_
   refine At.a 1 ?_
   refine At.sI 67 (((v.h + (bitV .xor .i64 (bitV .xor .i64 (turnI v.e 6) (turnI v.e 11)) (turnI v.e 25))) + (bitV .xor .i64 (bitV .and .i64 v.e v.f) (bitV .and .i64 (bitV .xor .i64 4294967295 v.e) v.g))) + e1) (by omega) ?_
   refine At.a 1 ?_
   refine At.idxArr (t := 99) (d := 69) (i := 106) (len := 64) (x := .tmp 6) (y := .tmp 68) (kd := .i64) (n := (t : Int)) (by kernel_rfl) (by kernel_rfl) (by kernel_rfl) (by kernel_rfl) (by omega) (by omega) ?_
   refine Exists.elim (gE (schedI b) t (by omega)) fun e2 he2 => ?_
   have hbe2 := sched_all _ _ (List.mem_of_getElem? he2)
   unfold W32 at hbe2
   refine At.ldB (t := 3) (d := 70) (i := 106) (off := t) (tb := 99) (m := 1) (x := .tmp 69) (b := false) (cs := (sp64 (schedI b))) (.int .i64 e2) (by kernel_rfl) (by kernel_rfl) (by kernel_rfl) (by kernel_rfl) (by kernel_rfl) (sp64Get (by omega) he2) ?_
   refine At.a 1 ?_
   refine At.sI 71 ((((v.h + (bitV .xor .i64 (bitV .xor .i64 (turnI v.e 6) (turnI v.e 11)) (turnI v.e 25))) + (bitV .xor .i64 (bitV .and .i64 v.e v.f) (bitV .and .i64 (bitV .xor .i64 4294967295 v.e) v.g))) + e1) + e2) (by omega) ?_
   refine At.zD 1 ?_
   refine AW.r ?_
   refine At.a 1 ?_
   refine At.c (impl_turnRight_spec  v.a 2 (by omega) (by omega)) Try.call65 true [] [] [] trivial ?_
   refine At.a 1 ?_
   refine At.c (impl_turnRight_spec  v.a 13 (by omega) (by omega)) Try.call65 true [] [] [] trivial ?_
   refine At.bits (t := 3) (u := 3) (d := 76) (op := .xor) (x := .tmp 73) (y := .tmp 75) (kd := .i64) (a := turnI v.a 2) (b := turnI v.a 13) (bitV .xor .i64 (turnI v.a 2) (turnI v.a 13)) (by kernel_rfl) (by kernel_rfl) (by kernel_rfl) (by kernel_rfl) (bitS_xor _ _ _) ?_
   refine At.a 1 ?_
   refine At.c (impl_turnRight_spec  v.a 22 (by omega) (by omega)) Try.call65 true [] [] [] trivial ?_
   refine At.bits (t := 3) (u := 3) (d := 79) (op := .xor) (x := .tmp 76) (y := .tmp 78) (kd := .i64) (a := bitV .xor .i64 (turnI v.a 2) (turnI v.a 13)) (b := turnI v.a 22) (bitV .xor .i64 (bitV .xor .i64 (turnI v.a 2) (turnI v.a 13)) (turnI v.a 22)) (by kernel_rfl) (by kernel_rfl) (by kernel_rfl) (by kernel_rfl) (bitS_xor _ _ _) ?_
   refine At.z 1 ?_
   refine AW.r ?_
   refine At.a 3 ?_
   refine At.bits (t := 3) (u := 3) (d := 83) (op := .and) (x := .tmp 81) (y := .tmp 82) (kd := .i64) (a := v.a) (b := v.b) (bitV .and .i64 v.a v.b) (by kernel_rfl) (by kernel_rfl) (by kernel_rfl) (by kernel_rfl) (bitS_and _ _ _) ?_
   refine At.a 2 ?_
   refine At.bits (t := 3) (u := 3) (d := 86) (op := .and) (x := .tmp 84) (y := .tmp 85) (kd := .i64) (a := v.a) (b := v.c) (bitV .and .i64 v.a v.c) (by kernel_rfl) (by kernel_rfl) (by kernel_rfl) (by kernel_rfl) (bitS_and _ _ _) ?_
   refine At.bits (t := 3) (u := 3) (d := 87) (op := .xor) (x := .tmp 83) (y := .tmp 86) (kd := .i64) (a := bitV .and .i64 v.a v.b) (b := bitV .and .i64 v.a v.c) (bitV .xor .i64 (bitV .and .i64 v.a v.b) (bitV .and .i64 v.a v.c)) (by kernel_rfl) (by kernel_rfl) (by kernel_rfl) (by kernel_rfl) (bitS_xor _ _ _) ?_
   refine At.a 2 ?_
   refine At.bits (t := 3) (u := 3) (d := 90) (op := .and) (x := .tmp 88) (y := .tmp 89) (kd := .i64) (a := v.b) (b := v.c) (bitV .and .i64 v.b v.c) (by kernel_rfl) (by kernel_rfl) (by kernel_rfl) (by kernel_rfl) (bitS_and _ _ _) ?_
   refine At.bits (t := 3) (u := 3) (d := 91) (op := .xor) (x := .tmp 87) (y := .tmp 90) (kd := .i64) (a := bitV .xor .i64 (bitV .and .i64 v.a v.b) (bitV .and .i64 v.a v.c)) (b := bitV .and .i64 v.b v.c) (bitV .xor .i64 (bitV .xor .i64 (bitV .and .i64 v.a v.b) (bitV .and .i64 v.a v.c)) (bitV .and .i64 v.b v.c)) (by kernel_rfl) (by kernel_rfl) (by kernel_rfl) (by kernel_rfl) (bitS_xor _ _ _) ?_
   refine At.a 1 ?_
   refine At.sI 92 ((bitV .xor .i64 (bitV .xor .i64 (turnI v.a 2) (turnI v.a 13)) (turnI v.a 22)) + (bitV .xor .i64 (bitV .xor .i64 (bitV .and .i64 v.a v.b) (bitV .and .i64 v.a v.c)) (bitV .and .i64 v.b v.c))) (by omega) ?_
   refine At.z 1 ?_
   refine AW.r ?_
   refine At.a 6 ?_
   refine At.sI 98 (v.d + ((((v.h + (bitV .xor .i64 (bitV .xor .i64 (turnI v.e 6) (turnI v.e 11)) (turnI v.e 25))) + (bitV .xor .i64 (bitV .and .i64 v.e v.f) (bitV .and .i64 (bitV .xor .i64 4294967295 v.e) v.g))) + e1) + e2)) (by omega) ?_
   refine At.bits (t := 3) (u := 3) (d := 99) (op := .and) (x := .tmp 98) (y := .const (.int .i64 4294967295)) (kd := .i64) (a := v.d + ((((v.h + (bitV .xor .i64 (bitV .xor .i64 (turnI v.e 6) (turnI v.e 11)) (turnI v.e 25))) + (bitV .xor .i64 (bitV .and .i64 v.e v.f) (bitV .and .i64 (bitV .xor .i64 4294967295 v.e) v.g))) + e1) + e2)) (b := 4294967295) ((v.d + ((((v.h + (bitV .xor .i64 (bitV .xor .i64 (turnI v.e 6) (turnI v.e 11)) (turnI v.e 25))) + (bitV .xor .i64 (bitV .and .i64 v.e v.f) (bitV .and .i64 (bitV .xor .i64 4294967295 v.e) v.g))) + e1) + e2)) % 4294967296) (by kernel_rfl) (by kernel_rfl) (by kernel_rfl) (by kernel_rfl) (andM 32 4294967296 _ _ (by decide) (by decide) (by decide)) ?_
   refine At.z 4 ?_
   refine AW.g ?_
   refine At.a 6 ?_
   refine At.sI 105 (((((v.h + (bitV .xor .i64 (bitV .xor .i64 (turnI v.e 6) (turnI v.e 11)) (turnI v.e 25))) + (bitV .xor .i64 (bitV .and .i64 v.e v.f) (bitV .and .i64 (bitV .xor .i64 4294967295 v.e) v.g))) + e1) + e2) + ((bitV .xor .i64 (bitV .xor .i64 (turnI v.a 2) (turnI v.a 13)) (turnI v.a 22)) + (bitV .xor .i64 (bitV .xor .i64 (bitV .and .i64 v.a v.b) (bitV .and .i64 v.a v.c)) (bitV .and .i64 v.b v.c)))) (by omega) ?_
   refine At.bits (t := 3) (u := 3) (d := 106) (op := .and) (x := .tmp 105) (y := .const (.int .i64 4294967295)) (kd := .i64) (a := ((((v.h + (bitV .xor .i64 (bitV .xor .i64 (turnI v.e 6) (turnI v.e 11)) (turnI v.e 25))) + (bitV .xor .i64 (bitV .and .i64 v.e v.f) (bitV .and .i64 (bitV .xor .i64 4294967295 v.e) v.g))) + e1) + e2) + ((bitV .xor .i64 (bitV .xor .i64 (turnI v.a 2) (turnI v.a 13)) (turnI v.a 22)) + (bitV .xor .i64 (bitV .xor .i64 (bitV .and .i64 v.a v.b) (bitV .and .i64 v.a v.c)) (bitV .and .i64 v.b v.c)))) (b := 4294967295) ((((((v.h + (bitV .xor .i64 (bitV .xor .i64 (turnI v.e 6) (turnI v.e 11)) (turnI v.e 25))) + (bitV .xor .i64 (bitV .and .i64 v.e v.f) (bitV .and .i64 (bitV .xor .i64 4294967295 v.e) v.g))) + e1) + e2) + ((bitV .xor .i64 (bitV .xor .i64 (turnI v.a 2) (turnI v.a 13)) (turnI v.a 22)) + (bitV .xor .i64 (bitV .xor .i64 (bitV .and .i64 v.a v.b) (bitV .and .i64 v.a v.c)) (bitV .and .i64 v.b v.c)))) % 4294967296) (by kernel_rfl) (by kernel_rfl) (by kernel_rfl) (by kernel_rfl) (andM 32 4294967296 _ _ (by decide) (by decide) (by decide)) ?_
   refine At.z 4 ?_
   refine AW.g ?_
   refine At.a 1 ?_
   refine At.sI 107 ((t : Int) + 1) (by omega) ?_
   refine At.z 1 ?_
   exact ⟨(t + 1, (⟨((((((v.h + (bitV .xor .i64 (bitV .xor .i64 (turnI v.e 6) (turnI v.e 11)) (turnI v.e 25))) + (bitV .xor .i64 (bitV .and .i64 v.e v.f) (bitV .and .i64 (bitV .xor .i64 4294967295 v.e) v.g))) + e1) + e2) + ((bitV .xor .i64 (bitV .xor .i64 (turnI v.a 2) (turnI v.a 13)) (turnI v.a 22)) + (bitV .xor .i64 (bitV .xor .i64 (bitV .and .i64 v.a v.b) (bitV .and .i64 v.a v.c)) (bitV .and .i64 v.b v.c)))) % 4294967296), v.a, v.b, v.c, ((v.d + ((((v.h + (bitV .xor .i64 (bitV .xor .i64 (turnI v.e 6) (turnI v.e 11)) (turnI v.e 25))) + (bitV .xor .i64 (bitV .and .i64 v.e v.f) (bitV .and .i64 (bitV .xor .i64 4294967295 v.e) v.g))) + e1) + e2)) % 4294967296), v.e, v.f, v.g⟩ : V8)), ⟨by omega, step_all3 hv, step_run3 hR he1 he2⟩, (by simp only; omega), Sub.o [(102, 102), (104, 104), (105, 105), (106, 106)] [false, false, true, false, true, true, true, true, true, true, true, true, true, true, true, false, false, false, false, false, false, false, false, false, false, false, false, false, false, false, false, false, false, false, false, false, false, false, false, false, false, true]⟩
 refine AW.exit ?_
 refine AW.seq ?_
 refine AW.r ?_
 refine At.a 8 ?_
 refine At.bldA (t := 77) (d := 116) (parts := #[(0, .tmp 108), (1, .tmp 109), (2, .tmp 110), (3, .tmp 111), (4, .tmp 112), (5, .tmp 113), (6, .tmp 114), (7, .tmp 115)]) (sp8 ([v.a, v.b, v.c, v.d, v.e, v.f, v.g, v.h])) (by kernel_rfl) (by kernel_rfl) (by kernel_rfl) (by kernel_rfl) ?_
 refine At.z 1 ?_
 refine AW.block ?_
 refine AW.loopW (fun (x : Nat × List Int) => match x with | (i, q) => Go.Sy.mk [.un, .un, .ptr 102 0 0, .un, .ptr 104 0 0, .un, .un, .un, .un, .un, .un, .un, .un, .un, .un, .un, .un, .un, .un, .un, .un, .un, .un, .un, .un, .un, .un, .un, .un, .un, .un, .un, .un, .un, .un, .un, .un, .un, .un, .un, .un, .un, .un, .un, .un, .un, .un, .un, .un, .un, .un, .un, .un, .un, .un, .un, .un, .un, .un, .un, .un, .un, .un, .un, .un, .un, .un, .un, .un, .un, .un, .un, .un, .un, .un, .un, .un, .un, .un, .un, .un, .un, .un, .un, .un, .un, .un, .un, .un, .un, .un, .un, .un, .un, .un, .un, .un, .un, .un, .un, .un, .un, .un, .un, .un, .un, .un, .un, .un, .un, .un, .un, .un, .un, .un, .un, .agg (sp8 ([v.a, v.b, v.c, v.d, v.e, v.f, v.g, v.h])), .int .i64 (i : Int)] [(102, .box 77 (sp8 q)), (104, .box 77 (sp8 (List.replicate 8 (0 : Int))))]) (fun (x : Nat × List Int) => match x with | (i, q) => i ≤ 8 ∧ q = addIn h [v.a, v.b, v.c, v.d, v.e, v.f, v.g, v.h] i ∧ q.length = 8 ∧ AllW q) (fun (x : Nat × List Int) => match x with | (i, q) => 8 - i) (0, h) ⟨by omega, (addIn_zero _ _).symm, hh, ha⟩ (Sub.o [(102, 102), (104, 104)] [false, false, true, false, true, false, false, false, false, false, false, false, false, false, false, false, false, false, false, false, false, false, false, false, false, false, false, false, false, false, false, false, false, false, false, false, false, false, false, false, false, false, false, false, false, false, false, false, false, false, false, false, false, false, false, false, false, false, false, false, false, false, false, false, false, false, false, false, false, false, false, false, false, false, false, false, false, false, false, false, false, false, false, false, false, false, false, false, false, false, false, false, false, false, false, false, false, false, false, false, false, false, false, false, false, false, false, false, false, false, false, false, false, false, false, false, true, true]) ?_
 rintro ⟨i, q⟩ ⟨hi, hq, hql, hqa⟩
 refine AW.q 1 ?_
 refine AW.seq ?_
 refine AW.cD ((i : Int) < 8) (fun h2 => ?_) (fun h2 => ?_)
 · refine AW.skip ?_
   refine AW.seq ?_
   refine AW.block ?_
   refine AW.r ?_
   refine At.a 1 ?_
   refine Exists.elim (gE ([v.a, v.b, v.c, v.d, v.e, v.f, v.g, v.h]) i (by simp only [List.length_map, List.length_append, List.length_take, List.length_drop, List.length_replicate, List.length_set, List.length_cons, List.length_nil]; omega)) fun e3 he3 => ?_
   have hbe3 := all_toL hv _ (List.mem_of_getElem? he3)
   unfold W32 at hbe3
   refine At.idxAgg (t := 77) (d := 120) (len := 8) (x := .tmp 116) (y := .tmp 117) (kd := .i64) (n := (i : Int)) (cs := (sp8 ([v.a, v.b, v.c, v.d, v.e, v.f, v.g, v.h]))) (.int .i64 e3) (by kernel_rfl) (by kernel_rfl) (by kernel_rfl) (by kernel_rfl) (by omega) (by omega) (sp8Get (by omega) he3) ?_
   refine At.z 2 ?_
   refine AW.g ?_
   refine At.a 2 ?_
   refine At.idxArr (t := 77) (d := 123) (i := 102) (len := 8) (x := .tmp 2) (y := .tmp 122) (kd := .i64) (n := (i : Int)) (by kernel_rfl) (by kernel_rfl) (by kernel_rfl) (by kernel_rfl) (by omega) (by omega) ?_
   refine Exists.elim (gE q i (by omega)) fun e4 he4 => ?_
   have hbe4 := hqa _ (List.mem_of_getElem? he4)
   unfold W32 at hbe4
   refine At.ldB (t := 3) (d := 124) (i := 102) (off := i) (tb := 77) (m := 1) (x := .tmp 123) (b := false) (cs := (sp8 q)) (.int .i64 e4) (by kernel_rfl) (by kernel_rfl) (by kernel_rfl) (by kernel_rfl) (by kernel_rfl) (sp8Get (by omega) he4) ?_
   refine At.a 2 ?_
   refine At.sI 126 (e4 + e3) (by omega) ?_
   refine At.bits (t := 3) (u := 3) (d := 127) (op := .and) (x := .tmp 126) (y := .const (.int .i64 4294967295)) (kd := .i64) (a := e4 + e3) (b := 4294967295) ((e4 + e3) % 4294967296) (by kernel_rfl) (by kernel_rfl) (by kernel_rfl) (by kernel_rfl) (andM 32 4294967296 _ _ (by decide) (by decide) (by decide)) ?_
   refine At.idxArr (t := 77) (d := 128) (i := 102) (len := 8) (x := .tmp 2) (y := .tmp 121) (kd := .i64) (n := (i : Int)) (by kernel_rfl) (by kernel_rfl) (by kernel_rfl) (by kernel_rfl) (by omega) (by omega) ?_
   refine At.stB (t := 3) (i := 102) (off := i) (tb := 77) (m := 1) (x := .tmp 128) (y := .tmp 127) (cs := (sp8 q)) (ys := [.int .i64 ((e4 + e3) % 4294967296)]) (v := .int .i64 ((e4 + e3) % 4294967296)) (sp8 (q.set i ((e4 + e3) % 4294967296))) (by kernel_rfl) (by kernel_rfl) (by kernel_rfl) (by kernel_rfl) (by kernel_rfl) (by kernel_rfl) rfl (sp8Set (by omega) (by omega)) ?_
   refine At.done rfl ?_
   refine AW.g ?_
   refine At.a 1 ?_
   refine At.sI 129 ((i : Int) + 1) (by omega) ?_
   refine At.z 1 ?_
   exact ⟨(i + 1, (q.set i ((e4 + e3) % 4294967296))), ⟨by omega, add_set3 hq hh (by omega) he4 he3, by rw [List.length_set]; exact hql, set_all hqa _⟩, (by simp only; omega), Sub.o [(102, 102), (104, 104)] [false, false, true, false, true, false, false, false, false, false, false, false, false, false, false, false, false, false, false, false, false, false, false, false, false, false, false, false, false, false, false, false, false, false, false, false, false, false, false, false, false, false, false, false, false, false, false, false, false, false, false, false, false, false, false, false, false, false, false, false, false, false, false, false, false, false, false, false, false, false, false, false, false, false, false, false, false, false, false, false, false, false, false, false, false, false, false, false, false, false, false, false, false, false, false, false, false, false, false, false, false, false, false, false, false, false, false, false, false, false, false, false, false, false, false, false, true, true]⟩
 refine AW.exit ?_
 refine AW.q 2 ?_
 refine AW.ret ?_
 refine ⟨_, Sub.refl _ _, ?_⟩
 refine KF.conv (fun w => .agg (sp8 w)) (fun w => []) (show (q) = (roundI h b) from by rw [hq, addIn_end hh rfl (by omega)]; exact (round_of (by rw [hR, List.drop_of_length_le (l := keysI) (by rw [keysI_len]; omega)]; rfl)).symm) ?_
 exact KF.n []
theorem impl_Sha_spec  (b : List UInt8) (hb : b.length ≤ 1048576) : FnSpec Try.prog 26 [.sl false 1 (b.map encU8)] [] (.ref 0) [.arr 5 1 ((shaB b).map encU8)] := by
 refine FnSpec.of 73 Try.func26 rfl Try.ntmps26 (by simp) (AW.weakK ?_)
 refine AW.q 1 ?_
 refine AW.seq ?_
 refine AW.r ?_
 refine At.a 2 ?_
 refine At.sL 10 encU8 b ?_
 refine At.z 1 ?_
 refine AW.cD ((b.length : Int) > 4000) (fun h1 => ?_) (fun h1 => ?_)
 · refine AW.q 1 ?_
   refine AW.ret ?_
   refine ⟨_, Sub.nils [⟨false, 2, none, 5001, 5, 1⟩] (by kernel_rfl), ?_⟩
   refine KF.conv (fun w => .ref 0) (fun w => [.arr 5 1 (w.map encU8)]) (show ([]) = (shaB b) from by exact (sha_no (by assumption)).symm) ?_
   exact KF.n [(5001, 0)]
 refine AW.skip ?_
 refine AW.r ?_
 refine At.lit0 (t := 32) (d := 12) (e := 5) (es := 1) (bytes := 1) 112 (by kernel_rfl) (by kernel_rfl) (by kernel_rfl) (by kernel_rfl) ?_
 refine At.a 1 ?_
 refine At.append (t := 32) (d := 14) (e := 5) (es := 1) (bytes := 1) (s := .tmp 12) (x := .tmp 13) (S := .ref 112) (T := .sl false 1 (b.map encU8)) (xs := []) (ys := (b.map encU8)) 114 [112] [] (b.map encU8) (by kernel_rfl) (by kernel_rfl) (by kernel_rfl) (by kernel_rfl) ⟨by kernel_rfl, rfl⟩ ⟨rfl, rfl, (allP_encU8 _), rfl⟩ (by kernel_rfl) (by kernel_rfl) (by simp) (by simp only [List.length_map, List.length_append, List.length_take, List.length_drop, List.length_replicate, List.length_set, List.length_cons, List.length_nil]; omega) (by simp only [List.length_map, List.length_append, List.length_take, List.length_drop, List.length_replicate, List.length_set, List.length_cons, List.length_nil]; omega) ?_
 refine At.ll 15 5 1 115 (0, 6) (([(128 : UInt8)]).map encU8) ?_
 refine At.apK 16 5 1 1 116 114 115 encU8 b ([(128 : UInt8)]) (by simp only [List.length_map, List.length_append, List.length_take, List.length_drop, List.length_replicate, List.length_set, List.length_cons, List.length_nil]; omega) ?_
 refine At.z 1 ?_
 refine AW.seq ?_
 refine AW.block ?_
 refine AW.loopW (fun (x : Nat × List UInt8) => match x with | (k, q) => Go.Sy.mk [.sl false 1 (b.map encU8), .un, .un, .ref 116] [(116, .arr 5 1 (q.map encU8))]) (fun (x : Nat × List UInt8) => match x with | (k, q) => k ≤ padZ b.length ∧ q = b ++ [128] ++ List.replicate k 0) (fun (x : Nat × List UInt8) => match x with | (k, q) => padZ b.length - k) (0, b ++ ([(128 : UInt8)])) ⟨by omega, by simp⟩ (Sub.o [(116, 116)] [true, false, false, true]) ?_
 rintro ⟨k, q⟩ ⟨hk, hq⟩
 have hql : q.length = b.length + 1 + k := by rw [hq]; simp; omega
 have hpz := pad_zero (n := b.length)
 refine AW.seq ?_
 refine AW.r ?_
 refine At.a 2 ?_
 refine At.sL 18 encU8 q ?_
 refine At.div (t := 3) (u := 3) (d := 19) (op := .rem) (x := .tmp 18) (y := .const (.int .i64 64)) (kd := .i64) (a := (q.length : Int)) (b := 64) (by kernel_rfl) (by kernel_rfl) (by kernel_rfl) (by kernel_rfl) (by omega) (.int .i64 ((q.length : Int).tmod 64)) (.inr ⟨rfl, rfl⟩) ?_
 refine At.say 19 (.int .i64 ((q.length : Int).tmod 64)) (.int .i64 ((q.length : Int) % 64)) (by kernel_rfl) (sayRem (by omega)) ?_
 refine At.z 1 ?_
 refine AW.cU ((q.length : Int) % 64) (56 : Int) (fun h2 => ?_) (fun h2 => ?_)
 · refine AW.skip ?_
   refine AW.block ?_
   refine AW.g ?_
   refine At.a 1 ?_
   refine At.ll 22 5 1 122 (0, 6) (([(0 : UInt8)]).map encU8) ?_
   refine At.apK 23 5 1 1 123 116 122 encU8 q ([(0 : UInt8)]) (by simp only [List.length_map, List.length_append, List.length_take, List.length_drop, List.length_replicate, List.length_set, List.length_cons, List.length_nil]; omega) ?_
   refine At.z 1 ?_
   exact ⟨(k + 1, (q ++ ([(0 : UInt8)]))), ⟨by have := pad_less hk (by omega); omega, pad_app hq⟩, (by have := pad_less hk (by omega); simp only; omega), Sub.o [(123, 116)] [true, false, false, true]⟩
 refine AW.exit ?_
 refine AW.seq ?_
 refine AW.q 1 ?_
 refine AW.block ?_
 have hkz := pad_end hk (by omega)
 refine AW.loopW (fun (x : Int × List UInt8) => match x with | (i, p) => Go.Sy.mk [.sl false 1 (b.map encU8), .un, .un, .ref 116, .int .i64 i] [(116, .arr 5 1 (p.map encU8))]) (fun (x : Int × List UInt8) => match x with | (i, p) => -1 ≤ i ∧ i ≤ 7 ∧ p = q ++ (lenB b.length).take (7 - i).toNat) (fun (x : Int × List UInt8) => match x with | (i, p) => (i + 1).toNat) (7, q) ⟨by omega, by omega, by simp⟩ (Sub.o [(116, 116)] [true, false, false, true, true]) ?_
 rintro ⟨i, p⟩ ⟨hi0, hi1, hp⟩
 have hpl : p.length = q.length + (7 - i).toNat := by rw [hp, List.length_append, List.length_take, lenB_len]; omega
 refine AW.seq ?_
 refine AW.q 2 ?_
 refine AW.cD (i ≥ 0) (fun h3 => ?_) (fun h3 => ?_)
 · refine AW.skip ?_
   refine AW.seq ?_
   refine AW.block ?_
   refine AW.g ?_
   refine At.a 3 ?_
   refine At.sL 30 encU8 b ?_
   refine At.a 1 ?_
   refine At.sI 31 (8 * (b.length : Int)) (by omega) ?_
   refine At.a 2 ?_
   refine At.sI 33 (8 * i) (by omega) ?_
   refine At.shift (t := 3) (u := 3) (d := 34) (op := .shr) (x := .tmp 31) (y := .tmp 33) (kd := .i64) (kd' := .i64) (a := 8 * (b.length : Int)) (b := 8 * i) (shV .shr .i64 (8 * (b.length : Int)) (8 * i)) (by kernel_rfl) (by kernel_rfl) (by kernel_rfl) (by kernel_rfl) (by omega) (shS_shr _ _ _) ?_
   refine At.bits (t := 3) (u := 3) (d := 35) (op := .and) (x := .tmp 34) (y := .const (.int .i64 255)) (kd := .i64) (a := shV .shr .i64 (8 * (b.length : Int)) (8 * i)) (b := 255) ((shV .shr .i64 (8 * (b.length : Int)) (8 * i)) % 256) (by kernel_rfl) (by kernel_rfl) (by kernel_rfl) (by kernel_rfl) (andM 8 256 _ _ (by decide) (by decide) (by decide)) ?_
   refine At.conv (s := 3) (t := 5) (d := 36) (x := .tmp 35) (kd := .i64) (kd' := .u8) (a := (shV .shr .i64 (8 * (b.length : Int)) (8 * i)) % 256) (.int .u8 ((u8Of ((shV .shr .i64 (8 * (b.length : Int)) (8 * i)) % 256)).toNat : Int)) (by kernel_rfl) (by kernel_rfl) (by kernel_rfl) (by kernel_rfl) (sayByte _) ?_
   refine At.ll 37 5 1 137 (0, 6) (([(u8Of ((shV .shr .i64 (8 * (b.length : Int)) (8 * i)) % 256))]).map encU8) ?_
   refine At.apK 38 5 1 1 138 116 137 encU8 p ([(u8Of ((shV .shr .i64 (8 * (b.length : Int)) (8 * i)) % 256))]) (by simp only [List.length_map, List.length_append, List.length_take, List.length_drop, List.length_replicate, List.length_set, List.length_cons, List.length_nil]; omega) ?_
   refine At.z 1 ?_
   refine AW.g ?_
   refine At.a 2 ?_
   refine At.sI 27 (i - 1) (by omega) ?_
   refine At.z 1 ?_
   exact ⟨((i - 1), (p ++ ([(u8Of ((shV .shr .i64 (8 * (b.length : Int)) (8 * i)) % 256))]))), ⟨by omega, by omega, by rw [u8Of_mod]; exact lenB_int (by omega) hi1 hp⟩, (by simp only; omega), Sub.o [(138, 116)] [true, false, false, true, true]⟩
 refine AW.exit ?_
 refine AW.seq ?_
 refine AW.weak (Sub.frz 116 5 1 (p.map encU8) (by kernel_rfl) flatU8) ?_
 refine AW.g ?_
 refine At.c (impl_firstWords_spec   ) Try.call44 true [] [] [] trivial ?_
 refine At.z 2 ?_
 refine AW.seq ?_
 refine AW.block ?_
 have hpd := pad_done hq hkz hp (by omega) hi0
 have hpm : p.length % 64 = 0 := by rw [hpd]; exact (padI_len b).1
 refine AW.loopW (fun (x : List Int × List UInt8) => match x with | (h, q) => Go.Sy.mk [.un, .un, .un, .sl true 1 (q.map encU8), .un, .ptr 105 0 0] [(105, .box 77 (sp8 h))]) (fun (x : List Int × List UInt8) => match x with | (h, q) => q.length % 64 = 0 ∧ q.length ≤ 1048576 ∧ h.length = 8 ∧ AllW h ∧ blocksI ((padI b).length / 64) firstI (padI b) = blocksI (q.length / 64) h q) (fun (x : List Int × List UInt8) => match x with | (h, q) => q.length) (firstI, p) ⟨hpm, by omega, rfl, firstI_all, by rw [hpd]⟩ (Sub.o [(105, 105)] [false, false, false, true, false, true]) ?_
 rintro ⟨h, q⟩ ⟨hi2, hi3, hh, ha, hR⟩
 refine AW.seq ?_
 refine AW.r ?_
 refine At.a 2 ?_
 refine At.sL 41 encU8 q ?_
 refine At.z 1 ?_
 refine AW.cD ((q.length : Int) > 0) (fun h4 => ?_) (fun h4 => ?_)
 · refine AW.skip ?_
   refine AW.seq ?_
   refine AW.block ?_
   refine AW.gD Try_mix ?_
   refine At.a 2 ?_
   refine At.sliceSl (t := 32) (d := 47) (e := 5) (es := 1) (x := .tmp 46) (lx := none) (hx := some (.const (.int .i64 64))) (p := true) (xs := (q.map encU8)) (vl := .un) (vh := .int .i64 64) 0 64 ((q.take 64).map encU8) (by kernel_rfl) (by kernel_rfl) (by kernel_rfl) (by kernel_rfl) (.inl ⟨rfl, rfl⟩) (.inr ⟨_, _, rfl, rfl⟩) (by omega) (by simp only [List.length_map]; omega) (by simp [List.map_take, List.map_drop]) ?_
   refine At.c (FnSpec.cv (As := [.agg (sp8 h), .sl true 1 ((q.take 64).map encU8)]) [0, 2] (impl_round_spec  h (q.take 64) hh ha (by rw [List.length_take]; omega))) Try.call45 true [] [] [] trivial ?_
   refine At.zD 1 ?_
   refine AW.g ?_
   refine At.a 1 ?_
   refine At.sliceSl (t := 32) (d := 44) (e := 5) (es := 1) (x := .tmp 43) (lx := some (.const (.int .i64 64))) (hx := none) (p := true) (xs := (q.map encU8)) (vl := .int .i64 64) (vh := .un) 64 ((q.map encU8).length) (((q.drop 64).take (q.length - 64)).map encU8) (by kernel_rfl) (by kernel_rfl) (by kernel_rfl) (by kernel_rfl) (.inr ⟨_, _, rfl, rfl⟩) (.inl ⟨rfl, rfl⟩) (by simp only [List.length_map]; omega) (by omega) (by simp [List.map_take, List.map_drop]) ?_
   refine At.z 1 ?_
   exact ⟨((roundI h (q.take 64)), (q.drop 64).take (q.length - 64)), ⟨by rw [List.length_take, List.length_drop]; omega, by rw [List.length_take, List.length_drop]; omega, round_len _ _ hh, round_all _ _, blk_cut hR (by omega)⟩, (by simp only [List.length_take, List.length_drop]; omega), Sub.o [(105, 105)] [false, false, false, true, false, true]⟩
 refine AW.exit ?_
 refine AW.r ?_
 refine At.lit0 (t := 32) (d := 49) (e := 5) (es := 1) (bytes := 1) 149 (by kernel_rfl) (by kernel_rfl) (by kernel_rfl) (by kernel_rfl) ?_
 refine At.z 1 ?_
 refine AW.seq ?_
 refine AW.q 2 ?_
 refine AW.block ?_
 refine AW.loopW (fun (x : Nat × List UInt8) => match x with | (k, o) => Go.Sy.mk [.un, .un, .un, .un, .un, .un, .ref 149, .un, .un, .un, .un, .un, .un, .un, .un, .un, .un, .un, .un, .un, .un, .un, .un, .un, .un, .un, .un, .un, .un, .un, .un, .un, .un, .un, .un, .un, .un, .un, .un, .un, .un, .un, .un, .un, .un, .un, .un, .un, .un, .un, .agg (sp8 h), .int .i64 (k : Int)] [(149, .arr 5 1 (o.map encU8))]) (fun (x : Nat × List UInt8) => match x with | (k, o) => k ≤ 8 ∧ o.length ≤ 4 * k ∧ outB h = o ++ outB (h.drop k)) (fun (x : Nat × List UInt8) => match x with | (k, o) => 8 - k) (0, []) ⟨by omega, by simp, rfl⟩ (Sub.o [(149, 149)] [false, false, false, false, false, false, true, false, false, false, false, false, false, false, false, false, false, false, false, false, false, false, false, false, false, false, false, false, false, false, false, false, false, false, false, false, false, false, false, false, false, false, false, false, false, false, false, false, false, false, true, true]) ?_
 rintro ⟨k, o⟩ ⟨hk2, ho, hS⟩
 refine AW.q 1 ?_
 refine AW.seq ?_
 refine AW.cD ((k : Int) < 8) (fun h5 => ?_) (fun h5 => ?_)
 · refine AW.skip ?_
   refine AW.seq ?_
   refine AW.block ?_
   refine AW.r ?_
   refine Exists.elim (gE h k (by omega)) fun e1 he1 => ?_
   refine At.idxAgg (t := 77) (d := 53) (len := 8) (x := .tmp 50) (y := .tmp 51) (kd := .i64) (n := (k : Int)) (cs := (sp8 h)) (.int .i64 e1) (by kernel_rfl) (by kernel_rfl) (by kernel_rfl) (by kernel_rfl) (by omega) (by omega) (sp8Get (by omega) he1) ?_
   refine At.z 1 ?_
   refine AW.g ?_
   refine At.a 2 ?_
   refine At.shift (t := 3) (u := 63) (d := 56) (op := .shr) (x := .tmp 55) (y := .const (.int .u64 24)) (kd := .i64) (kd' := .u64) (a := e1) (b := 24) (shV .shr .i64 e1 24) (by kernel_rfl) (by kernel_rfl) (by kernel_rfl) (by kernel_rfl) (by omega) (shS_shr _ _ _) ?_
   refine At.conv (s := 3) (t := 5) (d := 57) (x := .tmp 56) (kd := .i64) (kd' := .u8) (a := shV .shr .i64 e1 24) (.int .u8 ((u8Of (shV .shr .i64 e1 24)).toNat : Int)) (by kernel_rfl) (by kernel_rfl) (by kernel_rfl) (by kernel_rfl) (sayByte _) ?_
   refine At.a 1 ?_
   refine At.shift (t := 3) (u := 63) (d := 59) (op := .shr) (x := .tmp 58) (y := .const (.int .u64 16)) (kd := .i64) (kd' := .u64) (a := e1) (b := 16) (shV .shr .i64 e1 16) (by kernel_rfl) (by kernel_rfl) (by kernel_rfl) (by kernel_rfl) (by omega) (shS_shr _ _ _) ?_
   refine At.bits (t := 3) (u := 3) (d := 60) (op := .and) (x := .tmp 59) (y := .const (.int .i64 255)) (kd := .i64) (a := shV .shr .i64 e1 16) (b := 255) ((shV .shr .i64 e1 16) % 256) (by kernel_rfl) (by kernel_rfl) (by kernel_rfl) (by kernel_rfl) (andM 8 256 _ _ (by decide) (by decide) (by decide)) ?_
   refine At.conv (s := 3) (t := 5) (d := 61) (x := .tmp 60) (kd := .i64) (kd' := .u8) (a := (shV .shr .i64 e1 16) % 256) (.int .u8 ((u8Of ((shV .shr .i64 e1 16) % 256)).toNat : Int)) (by kernel_rfl) (by kernel_rfl) (by kernel_rfl) (by kernel_rfl) (sayByte _) ?_
   refine At.a 1 ?_
   refine At.shift (t := 3) (u := 63) (d := 63) (op := .shr) (x := .tmp 62) (y := .const (.int .u64 8)) (kd := .i64) (kd' := .u64) (a := e1) (b := 8) (shV .shr .i64 e1 8) (by kernel_rfl) (by kernel_rfl) (by kernel_rfl) (by kernel_rfl) (by omega) (shS_shr _ _ _) ?_
   refine At.bits (t := 3) (u := 3) (d := 64) (op := .and) (x := .tmp 63) (y := .const (.int .i64 255)) (kd := .i64) (a := shV .shr .i64 e1 8) (b := 255) ((shV .shr .i64 e1 8) % 256) (by kernel_rfl) (by kernel_rfl) (by kernel_rfl) (by kernel_rfl) (andM 8 256 _ _ (by decide) (by decide) (by decide)) ?_
   refine At.conv (s := 3) (t := 5) (d := 65) (x := .tmp 64) (kd := .i64) (kd' := .u8) (a := (shV .shr .i64 e1 8) % 256) (.int .u8 ((u8Of ((shV .shr .i64 e1 8) % 256)).toNat : Int)) (by kernel_rfl) (by kernel_rfl) (by kernel_rfl) (by kernel_rfl) (sayByte _) ?_
   refine At.a 1 ?_
   refine At.bits (t := 3) (u := 3) (d := 67) (op := .and) (x := .tmp 66) (y := .const (.int .i64 255)) (kd := .i64) (a := e1) (b := 255) (e1 % 256) (by kernel_rfl) (by kernel_rfl) (by kernel_rfl) (by kernel_rfl) (andM 8 256 _ _ (by decide) (by decide) (by decide)) ?_
   refine At.conv (s := 3) (t := 5) (d := 68) (x := .tmp 67) (kd := .i64) (kd' := .u8) (a := e1 % 256) (.int .u8 ((u8Of (e1 % 256)).toNat : Int)) (by kernel_rfl) (by kernel_rfl) (by kernel_rfl) (by kernel_rfl) (sayByte _) ?_
   refine At.ll 69 5 1 169 (0, 6) (([(u8Of (shV .shr .i64 e1 24)), (u8Of ((shV .shr .i64 e1 16) % 256)), (u8Of ((shV .shr .i64 e1 8) % 256)), (u8Of (e1 % 256))]).map encU8) ?_
   refine At.apK 70 5 1 1 170 149 169 encU8 o ([(u8Of (shV .shr .i64 e1 24)), (u8Of ((shV .shr .i64 e1 16) % 256)), (u8Of ((shV .shr .i64 e1 8) % 256)), (u8Of (e1 % 256))]) (by simp only [List.length_map, List.length_append, List.length_take, List.length_drop, List.length_replicate, List.length_set, List.length_cons, List.length_nil]; omega) ?_
   refine At.z 1 ?_
   refine AW.g ?_
   refine At.a 1 ?_
   refine At.sI 71 ((k : Int) + 1) (by omega) ?_
   refine At.z 1 ?_
   exact ⟨(k + 1, (o ++ ([(u8Of (shV .shr .i64 e1 24)), (u8Of ((shV .shr .i64 e1 16) % 256)), (u8Of ((shV .shr .i64 e1 8) % 256)), (u8Of (e1 % 256))]))), ⟨by omega, by simp only [List.length_append, List.length_cons, List.length_nil]; omega, out_step2 hS he1⟩, (by simp only; omega), Sub.o [(170, 149)] [false, false, false, false, false, false, true, false, false, false, false, false, false, false, false, false, false, false, false, false, false, false, false, false, false, false, false, false, false, false, false, false, false, false, false, false, false, false, false, false, false, false, false, false, false, false, false, false, false, false, true, true]⟩
 refine AW.exit ?_
 refine AW.q 2 ?_
 refine AW.ret ?_
 refine ⟨_, Sub.refl _ _, ?_⟩
 refine KF.conv (fun w => .ref 0) (fun w => [.arr 5 1 (w.map encU8)]) (show (o) = (shaB b) from by rw [sha_of (by assumption), hR, blk_end (by omega)]; exact out_end hS (by omega)) ?_
 exact KF.n [(149, 0)]
def K_impl_ParcelWhole (rs : List ResultVar) (p : Prc) (w0_ : ByteArray) (w1_ : Int) : Exit → Sg → Prop := KF Try.prog 0 rs (.tup [.str w0_, .int .i64 w1_]) []
theorem impl_ParcelWhole_spec  (p : Prc) (hp : SmallP p) : FnSpec Try.prog 8 [.agg [.int .i64 p.size, .str p.digest, .sl false 1 (p.parts.map encS)]] [] (.tup [.str ((wholeP p).1), .int .i64 ((wholeP p).2)]) [] := by
 obtain ⟨p1, p2, p3⟩ := id hp
 have hcz := strOf_size (catS p.parts)
 refine FnSpec.of 26 Try.func8 rfl Try.ntmps8 (by simp) (AW.weakK ?_)
 refine AW.q 3 ?_
 refine AW.r ?_
 refine At.a 2 ?_
 refine At.c (strings_Join_spec  p.parts (⟨#[]⟩ : ByteArray) rfl p2 p3) Try.call24 true [] [] [] trivial ?_
 refine At.z 1 ?_
 refine AW.seq ?_
 refine AW.block ?_
 refine AW.r ?_
 refine At.a 1 ?_
 refine At.c (impl_ParcelOk_spec  p hp) Try.call25 true [] [] [] trivial ?_
 refine At.z 2 ?_
 refine AW.cNB (prcOk p) (fun h1 => ?_) (fun h1 => ?_)
 · refine AW.q 2 ?_
   exact AW.ret (rf (k2 (K_impl_ParcelWhole _ p) (show ((⟨#[]⟩ : ByteArray)) = ((wholeP p).1) from by rw [whole_1 (by assumption)]) (show (1) = ((wholeP p).2) from by rw [whole_1 (by assumption)]) (KF.n [])))
 have hpc := prc_cat h1
 have hpm := prc_nums h1
 have hlk : lacksI p = lackGo 0 p.parts := by unfold lacksI; rw [if_pos h1]
 refine AW.r ?_
 refine At.a 1 ?_
 refine At.c (impl_ParcelLacks_spec  p hp) Try.call17 true [] [(1280, 0)] [] trivial ?_
 refine At.a 1 ?_
 refine At.sL 15 encI (lacksI p) ?_
 refine At.z 2 ?_
 refine AW.cD (((lacksI p).length : Int) > 0) (fun h2 => ?_) (fun h2 => ?_)
 · refine AW.q 2 ?_
   exact AW.ret (rf (k2 (K_impl_ParcelWhole _ p) (show ((⟨#[]⟩ : ByteArray)) = ((wholeP p).1) from by rw [whole_2 (by assumption) (by rw [← hlk]; omega)]) (show (2) = ((wholeP p).2) from by rw [whole_2 (by assumption) (by rw [← hlk]; omega)]) (KF.n [])))
 refine AW.seq ?_
 refine AW.gD Try_mix ?_
 refine At.a 1 ?_
 refine At.s2b (s := 9) (t := 32) (e := 5) (d := 19) (x := .tmp 18) (b := strOf (catS p.parts)) ((((strOf (catS p.parts)).data.toList).map encU8)) (by kernel_rfl) (by kernel_rfl) (by kernel_rfl) (by kernel_rfl) (by omega) rfl ?_
 refine At.c (FnSpec.cv (As := [.sl true 1 (((strOf (catS p.parts)).data.toList).map encU8)]) [2] (impl_Sha_spec  ((strOf (catS p.parts)).data.toList) (by rw [data_strOf]; omega))) Try.call26 true [] [(1400, 0)] [] trivial ?_
 refine At.b2s (s := 32) (t := 9) (e := 5) (d := 21) (x := .tmp 20) (T := .ref 1400) (shaB ((strOf (catS p.parts)).data.toList)) [] (by kernel_rfl) (by kernel_rfl) (by kernel_rfl) (by kernel_rfl) ⟨by kernel_rfl, .inl ⟨rfl, (allP_encU8 _)⟩⟩ ?_
 refine At.zD 4 ?_
 refine AW.cNE ((strOf (shaB ((strOf (catS p.parts)).data.toList))).toList) (p.digest.toList) (fun h3 => ?_) (fun h3 => ?_)
 · refine AW.q 2 ?_
   exact AW.ret (rf (k2 (K_impl_ParcelWhole _ p) (show ((⟨#[]⟩ : ByteArray)) = ((wholeP p).1) from by rw [whole_3 (by assumption) (by rw [← hlk]; omega) (by rw [← data_strOf (catS p.parts)]; assumption)]) (show (3) = ((wholeP p).2) from by rw [whole_3 (by assumption) (by rw [← hlk]; omega) (by rw [← data_strOf (catS p.parts)]; assumption)]) (KF.n [])))
 refine AW.skip ?_
 refine AW.q 3 ?_
 exact AW.ret (rf (k2 (K_impl_ParcelWhole _ p) (show (strOf (catS p.parts)) = ((wholeP p).1) from by rw [whole_0 (by assumption) (by rw [← hlk]; omega) (by rw [← data_strOf (catS p.parts)]; assumption)]) (show (0) = ((wholeP p).2) from by rw [whole_0 (by assumption) (by rw [← hlk]; omega) (by rw [← data_strOf (catS p.parts)]; assumption)]) (KF.n [])))
theorem laws_FnParcel_spec  (code : List UInt8) (hc : code.length ≤ 9223372036854775807) : FnSpec Try.prog 4 [.sl false 1 (code.map encU8)] [] (.bool true) [] := by
 refine FnSpec.of 153 Try.func4 rfl Try.ntmps4 (by simp) (AW.weakK ?_)
 refine AW.q 1 ?_
 refine AW.seq ?_
 refine AW.r ?_
 refine At.a 1 ?_
 refine At.c (laws_big_spec  code hc) Try.call10 true [] [] [] trivial ?_
 refine At.done rfl ?_
 refine AW.cD ((code.length : Int) > 1048576) (fun h1 => ?_) (fun h1 => ?_)
 · refine AW.q 1 ?_
   exact AW.ret (rf (KF.n []))
 refine AW.skip ?_
 refine AW.r ?_
 refine At.a 1 ?_
 refine Exists.elim (spec_DrawReleaseText_spec  code (by omega)) fun r1_ hr1_ => ?_
 obtain ⟨qr1_, hr1_⟩ := hr1_
 try dsimp only at qr1_
 refine At.c (hr1_) Try.call11 true [] [] [] trivial ?_
 refine At.a 1 ?_
 refine Exists.elim (spec_DrawShaText_spec  code (by omega)) fun r2_ hr2_ => ?_
 obtain ⟨qr2_, hr2_⟩ := hr2_
 try dsimp only at qr2_
 refine At.c (hr2_) Try.call12 true [] [] [] trivial ?_
 refine At.cat (t := 9) (u := 9) (d := 24) (x := .tmp 21) (y := .tmp 23) (a := r1_) (b := r2_) (by kernel_rfl) (by kernel_rfl) (by kernel_rfl) (by kernel_rfl) (by omega) ?_
 refine At.z 1 ?_
 refine AW.seq ?_
 refine AW.q 3 ?_
 refine AW.cD (((r1_ ++ r2_).size : Int) > 1000) (fun h2 => ?_) (fun h2 => ?_)
 · have hsz : ((r1_ ++ r2_).extract 0 1000).size ≤ 1000 := by rw [ByteArray.size_extract]; omega
   have hdl : ((r1_ ++ r2_).extract 0 1000).data.toList.length = ((r1_ ++ r2_).extract 0 1000).size := Array.length_toList
   have hpo := partsN_of (n := (((r1_ ++ r2_).extract 0 1000).size : Int)) (inR_iff.2 (by omega))
   have hpi := pts_int (l := ((r1_ ++ r2_).extract 0 1000).data.toList) (by omega)
   rw [hdl] at hpi
   have hsl : (shaB ((r1_ ++ r2_).extract 0 1000).data.toList).length = 32 := sha_len (by omega)
   have hst0 := par_start (s := ((r1_ ++ r2_).extract 0 1000)) (d := strOf (shaB ((r1_ ++ r2_).extract 0 1000).data.toList)) (a := decide (atF code 1 % 2 = 0)) hsz rfl
   refine AW.g ?_
   refine At.a 1 ?_
   refine At.slStr (t := 9) (d := 29) (x := .tmp 28) (lx := none) (hx := some (.const (.int .i64 1000))) (s := r1_ ++ r2_) (vl := .un) (vh := .int .i64 1000) 0 1000 (by kernel_rfl) (by kernel_rfl) (by kernel_rfl) (by kernel_rfl) (.inl ⟨rfl, rfl⟩) (.inr ⟨_, _, rfl, rfl⟩) (by omega) (by omega) ?_
   refine At.z 1 ?_
   refine AW.r ?_
   refine At.a 3 ?_
   refine At.s2b (s := 9) (t := 32) (e := 5) (d := 34) (x := .tmp 33) (b := ((r1_ ++ r2_).extract 0 1000)) (((((r1_ ++ r2_).extract 0 1000).data.toList).map encU8)) (by kernel_rfl) (by kernel_rfl) (by kernel_rfl) (by kernel_rfl) (by omega) rfl ?_
   refine At.c (FnSpec.cv (As := [.sl true 1 ((((r1_ ++ r2_).extract 0 1000).data.toList).map encU8)]) [2] (spec_Sha_spec  (((r1_ ++ r2_).extract 0 1000).data.toList) (by rw [hdl]; omega))) Try.call14 true [] [(1700, 0)] [] trivial ?_
   refine At.b2s (s := 32) (t := 9) (e := 5) (d := 36) (x := .tmp 35) (T := .ref 1700) (shaB (((r1_ ++ r2_).extract 0 1000).data.toList)) [] (by kernel_rfl) (by kernel_rfl) (by kernel_rfl) (by kernel_rfl) ⟨by kernel_rfl, .inl ⟨rfl, (allP_encU8 _)⟩⟩ ?_
   refine At.c (impl_ParcelNew_spec  (((r1_ ++ r2_).extract 0 1000).size : Int) (strOf (shaB (((r1_ ++ r2_).extract 0 1000).data.toList))) (by omega) (by rw [strOf_size, hsl]; decide)) Try.call13 true [] [(1740, 0)] [] trivial ?_
   refine At.z 6 ?_
   refine AW.r ?_
   refine At.a 2 ?_
   refine At.c (impl_PartsOf_spec  (((r1_ ++ r2_).extract 0 1000).size : Int) ) Try.call15 true [] [] [] trivial ?_
   refine At.z 1 ?_
   refine AW.seq ?_
   refine AW.r ?_
   refine At.a 3 ?_
   refine At.sB 45 (!((newP (((r1_ ++ r2_).extract 0 1000).size : Int) (strOf (shaB (((r1_ ++ r2_).extract 0 1000).data.toList)))).2)) false (sayB (by rw [show ((newP (((r1_ ++ r2_).extract 0 1000).size : Int) (strOf (shaB (((r1_ ++ r2_).extract 0 1000).data.toList)))).2) = true from (by rw [hst0.1])]; rfl)) ?_
   refine At.a 3 ?_
   refine At.c (spec_PartsOf_spec  (((r1_ ++ r2_).extract 0 1000).size : Int) ) Try.call16 true [] [] [] trivial ?_
   refine At.a 3 ?_
   refine At.sB 52 ((partsN (((r1_ ++ r2_).extract 0 1000).size : Int)) != (partsN (((r1_ ++ r2_).extract 0 1000).size : Int))) false (sayB (bne_self_eq_false _)) ?_
   refine At.a 1 ?_
   refine At.c (impl_ParcelLacks_spec  ((newP (((r1_ ++ r2_).extract 0 1000).size : Int) (strOf (shaB (((r1_ ++ r2_).extract 0 1000).data.toList)))).1) (by rw [hst0.1]; exact st_small hsz _ _)) Try.call17 false [] [(2080, 0)] [(1740, 1, ((((newP (((r1_ ++ r2_).extract 0 1000).size : Int) (strOf (shaB (((r1_ ++ r2_).extract 0 1000).data.toList)))).1).parts).map encS))] ⟨rfl, ⟨9, ((((newP (((r1_ ++ r2_).extract 0 1000).size : Int) (strOf (shaB (((r1_ ++ r2_).extract 0 1000).data.toList)))).1).parts).map encS), by kernel_rfl, FrzIs.same (allP_encS _)⟩, trivial⟩ ?_
   refine At.a 1 ?_
   refine At.sL 55 encI (lacksI ((newP (((r1_ ++ r2_).extract 0 1000).size : Int) (strOf (shaB (((r1_ ++ r2_).extract 0 1000).data.toList)))).1)) ?_
   refine At.z 3 ?_
   refine AW.condF (((lacksI ((newP (((r1_ ++ r2_).extract 0 1000).size : Int) (strOf (shaB (((r1_ ++ r2_).extract 0 1000).data.toList)))).1)).length : Int) != (partsN (((r1_ ++ r2_).extract 0 1000).size : Int))) (by kernel_rfl) (by rw [bne_eq_false_iff_eq]; exact hst0.2) ?_
   refine AW.skip ?_
   refine AW.seq ?_
   refine AW.q 1 ?_
   refine AW.block ?_
   refine AW.loopW (fun (x : Nat × Prc) => match x with | (k, p) => Go.Sy.mk [.sl false 1 (code.map encU8), .un, .un, .str ((r1_ ++ r2_).extract 0 1000), .ptr 104 0 0, .un, .int .i64 (partsN (((r1_ ++ r2_).extract 0 1000).size : Int)), .int .i64 (k : Int)] [(104, .box 28 [.int .i64 p.size, .str p.digest, .ref 1740]), (1740, .arr 9 1 (p.parts.map encS))]) (fun (x : Nat × Prc) => match x with | (k, p) => k ≤ 2 * ptsN ((r1_ ++ r2_).extract 0 1000).data.toList ∧ p = stP ((r1_ ++ r2_).extract 0 1000).data.toList (decide (atF code 1 % 2 = 0)) k) (fun (x : Nat × Prc) => match x with | (k, p) => 2 * ptsN ((r1_ ++ r2_).extract 0 1000).data.toList - k) (0, ((newP (((r1_ ++ r2_).extract 0 1000).size : Int) (strOf (shaB (((r1_ ++ r2_).extract 0 1000).data.toList)))).1)) ⟨by omega, congrArg Prod.fst hst0.1⟩ (Sub.o [(104, 104), (1740, 1740)] [true, false, false, true, true, false, true, true]) ?_
   rintro ⟨k, p⟩ ⟨hk, hp⟩
   refine AW.seq ?_
   refine AW.r ?_
   refine At.a 3 ?_
   refine At.sI 61 (2 * (partsN (((r1_ ++ r2_).extract 0 1000).size : Int))) (by omega) ?_
   refine At.z 1 ?_
   refine AW.cD ((k : Int) < (2 * (partsN (((r1_ ++ r2_).extract 0 1000).size : Int)))) (fun h3 => ?_) (fun h3 => ?_)
   · have hkn := par_lt hpi h3
     refine AW.skip ?_
     refine AW.seq ?_
     refine AW.block ?_
     refine AW.r ?_
     refine At.a 2 ?_
     refine At.div (t := 3) (u := 3) (d := 67) (op := .rem) (x := .tmp 65) (y := .tmp 66) (kd := .i64) (a := (k : Int)) (b := partsN (((r1_ ++ r2_).extract 0 1000).size : Int)) (by kernel_rfl) (by kernel_rfl) (by kernel_rfl) (by kernel_rfl) (by omega) (.int .i64 ((k : Int).tmod (partsN (((r1_ ++ r2_).extract 0 1000).size : Int)))) (.inr ⟨rfl, rfl⟩) ?_
     refine At.say 67 (.int .i64 ((k : Int).tmod (partsN (((r1_ ++ r2_).extract 0 1000).size : Int)))) (.int .i64 ((k : Int) % (partsN (((r1_ ++ r2_).extract 0 1000).size : Int)))) (by kernel_rfl) (sayRem (by omega)) ?_
     refine At.z 1 ?_
     refine AW.seq ?_
     refine AW.r ?_
     refine At.a 1 ?_
     refine At.c (laws_at_spec  code 1 (by omega) (by omega)) Try.call18 true [] [] [] trivial ?_
     have hat := atF_bd (code := code) (i := 1) (by omega)
     refine At.div (t := 3) (u := 3) (d := 70) (op := .rem) (x := .tmp 69) (y := .const (.int .i64 2)) (kd := .i64) (a := atF code 1) (b := 2) (by kernel_rfl) (by kernel_rfl) (by kernel_rfl) (by kernel_rfl) (by omega) (.int .i64 ((atF code 1).tmod 2)) (.inr ⟨rfl, rfl⟩) ?_
     refine At.say 70 (.int .i64 ((atF code 1).tmod 2)) (.int .i64 ((atF code 1) % 2)) (by kernel_rfl) (sayRem (by omega)) ?_
     refine At.z 1 ?_
     refine AW.cE ((atF code 1) % 2) (0 : Int) (fun h4 => ?_) (fun h4 => ?_)
     · have hix := (ix_int (a := decide (atF code 1 % 2 = 0)) hkn).2 (decide_eq_true h4)
       rw [← hpi] at hix
       have hst := par_step hsz hp hkn hix
       have hxl := ix_lt (a := decide (atF code 1 % 2 = 0)) hkn
       refine AW.g ?_
       refine At.a 2 ?_
       refine At.sI 73 ((partsN (((r1_ ++ r2_).extract 0 1000).size : Int)) - 1) (by omega) ?_
       refine At.a 2 ?_
       refine At.div (t := 3) (u := 3) (d := 76) (op := .rem) (x := .tmp 74) (y := .tmp 75) (kd := .i64) (a := (k : Int)) (b := partsN (((r1_ ++ r2_).extract 0 1000).size : Int)) (by kernel_rfl) (by kernel_rfl) (by kernel_rfl) (by kernel_rfl) (by omega) (.int .i64 ((k : Int).tmod (partsN (((r1_ ++ r2_).extract 0 1000).size : Int)))) (.inr ⟨rfl, rfl⟩) ?_
       refine At.say 76 (.int .i64 ((k : Int).tmod (partsN (((r1_ ++ r2_).extract 0 1000).size : Int)))) (.int .i64 ((k : Int) % (partsN (((r1_ ++ r2_).extract 0 1000).size : Int)))) (by kernel_rfl) (sayRem (by omega)) ?_
       refine At.a 1 ?_
       refine At.sI 77 (((partsN (((r1_ ++ r2_).extract 0 1000).size : Int)) - 1) - ((k : Int) % (partsN (((r1_ ++ r2_).extract 0 1000).size : Int)))) (by omega) ?_
       refine At.z 1 ?_
       refine AW.r ?_
       refine At.a 2 ?_
       refine At.c (impl_PartOf_spec  ((r1_ ++ r2_).extract 0 1000) (((partsN (((r1_ ++ r2_).extract 0 1000).size : Int)) - 1) - ((k : Int) % (partsN (((r1_ ++ r2_).extract 0 1000).size : Int)))) hsz (by omega)) Try.call19 true [] [] [] trivial ?_
       refine At.z 5 ?_
       refine AW.r ?_
       refine At.a 3 ?_
       refine At.c (impl_ParcelPut_spec  p (((partsN (((r1_ ++ r2_).extract 0 1000).size : Int)) - 1) - ((k : Int) % (partsN (((r1_ ++ r2_).extract 0 1000).size : Int)))) ((partS ((r1_ ++ r2_).extract 0 1000) (((partsN (((r1_ ++ r2_).extract 0 1000).size : Int)) - 1) - ((k : Int) % (partsN (((r1_ ++ r2_).extract 0 1000).size : Int))))).1) (by rw [hp]; exact st_small hsz _ _) (by omega)) Try.call20 false [] [(2760, 0)] [(1740, 1, (p.parts.map encS))] ⟨rfl, ⟨9, (p.parts.map encS), by kernel_rfl, FrzIs.same (allP_encS _)⟩, trivial⟩ ?_
       refine At.z 6 ?_
       refine AW.seq ?_
       refine AW.r ?_
       refine At.a 3 ?_
       refine At.sB 93 (!((partS ((r1_ ++ r2_).extract 0 1000) (((partsN (((r1_ ++ r2_).extract 0 1000).size : Int)) - 1) - ((k : Int) % (partsN (((r1_ ++ r2_).extract 0 1000).size : Int))))).2)) false (sayB (by rw [show ((partS ((r1_ ++ r2_).extract 0 1000) (((partsN (((r1_ ++ r2_).extract 0 1000).size : Int)) - 1) - ((k : Int) % (partsN (((r1_ ++ r2_).extract 0 1000).size : Int))))).2) = true from hst.1]; rfl)) ?_
       refine At.a 5 ?_
       refine At.sB 98 ((((partS ((r1_ ++ r2_).extract 0 1000) (((partsN (((r1_ ++ r2_).extract 0 1000).size : Int)) - 1) - ((k : Int) % (partsN (((r1_ ++ r2_).extract 0 1000).size : Int))))).1).size : Int) == 0) false (sayB (beq_eq_false_iff_ne.2 (by have := hst.2.1; omega))) ?_
       refine At.a 4 ?_
       by_cases h5 : (k : Int) < (partsN (((r1_ ++ r2_).extract 0 1000).size : Int))
       · refine At.sB 102 _ _ (sayT h5) ?_
         refine At.a 5 ?_
         refine At.sB 107 (((putP p (((partsN (((r1_ ++ r2_).extract 0 1000).size : Int)) - 1) - ((k : Int) % (partsN (((r1_ ++ r2_).extract 0 1000).size : Int)))) ((partS ((r1_ ++ r2_).extract 0 1000) (((partsN (((r1_ ++ r2_).extract 0 1000).size : Int)) - 1) - ((k : Int) % (partsN (((r1_ ++ r2_).extract 0 1000).size : Int))))).1)).2) != 0) false (sayB (by rw [bne_eq_false_iff_eq]; exact hst.2.2.2.2.1 (by omega))) ?_
         refine At.a 4 ?_
         refine At.sB 111 (decide ((k : Int) ≥ (partsN (((r1_ ++ r2_).extract 0 1000).size : Int)))) false (sayB (decide_eq_false (by omega))) ?_
         refine At.z 4 ?_
         refine AW.cond false (by kernel_rfl) (fun h => by cases h) (fun _ => ?_)
         refine AW.skip ?_
         refine AW.q 2 ?_
         refine AW.r ?_
         refine At.a 1 ?_
         refine At.s2bO (s := 9) (t := 32) (e := 5) (d := 118) (x := .tmp 117) (b := (partS ((r1_ ++ r2_).extract 0 1000) (((partsN (((r1_ ++ r2_).extract 0 1000).size : Int)) - 1) - ((k : Int) % (partsN (((r1_ ++ r2_).extract 0 1000).size : Int))))).1) 218 (by kernel_rfl) (by kernel_rfl) (by kernel_rfl) (by kernel_rfl) (by kernel_rfl) ?_
         refine At.z 1 ?_
         refine AW.r ?_
         refine At.a 2 ?_
         refine At.idxRaw (t := 32) (d := 121) (x := .tmp 120) (y := .const (.int .i64 0)) (e := 5) (e' := 5) (j := 218) (l := (((partS ((r1_ ++ r2_).extract 0 1000) (((partsN (((r1_ ++ r2_).extract 0 1000).size : Int)) - 1) - ((k : Int) % (partsN (((r1_ ++ r2_).extract 0 1000).size : Int))))).1).data.toList)) (kd := .i64) (i := 0) (by kernel_rfl) (by kernel_rfl) (by kernel_rfl) (by kernel_rfl) (by kernel_rfl) (by omega) (raw_pos hst.2.1) ?_
         refine Exists.elim (gE (((partS ((r1_ ++ r2_).extract 0 1000) (((partsN (((r1_ ++ r2_).extract 0 1000).size : Int)) - 1) - ((k : Int) % (partsN (((r1_ ++ r2_).extract 0 1000).size : Int))))).1).data.toList) 0 (raw_pos hst.2.1)) fun e1 he1 => ?_
         refine At.ldRaw (t := 5) (d := 122) (i := 218) (e := 5) (j := 0) (x := .tmp 121) (l := (((partS ((r1_ ++ r2_).extract 0 1000) (((partsN (((r1_ ++ r2_).extract 0 1000).size : Int)) - 1) - ((k : Int) % (partsN (((r1_ ++ r2_).extract 0 1000).size : Int))))).1).data.toList)) e1 (by kernel_rfl) (by kernel_rfl) (by kernel_rfl) (by kernel_rfl) (by kernel_rfl) he1 ?_
         refine At.bits (t := 5) (u := 5) (d := 123) (op := .xor) (x := .tmp 122) (y := .const (.int .u8 1)) (kd := .u8) (a := (e1.toNat : Int)) (b := 1) ((e1 ^^^ 1).toNat : Int) (by kernel_rfl) (by kernel_rfl) (by kernel_rfl) (by kernel_rfl) (xor_u8 _ 1) ?_
         refine At.idxRaw (t := 32) (d := 124) (x := .tmp 119) (y := .const (.int .i64 0)) (e := 5) (e' := 5) (j := 218) (l := (((partS ((r1_ ++ r2_).extract 0 1000) (((partsN (((r1_ ++ r2_).extract 0 1000).size : Int)) - 1) - ((k : Int) % (partsN (((r1_ ++ r2_).extract 0 1000).size : Int))))).1).data.toList)) (kd := .i64) (i := 0) (by kernel_rfl) (by kernel_rfl) (by kernel_rfl) (by kernel_rfl) (by kernel_rfl) (by omega) (raw_pos hst.2.1) ?_
         refine At.stRaw (t := 5) (i := 218) (e := 5) (j := 0) (x := .tmp 124) (y := .tmp 123) (l := (((partS ((r1_ ++ r2_).extract 0 1000) (((partsN (((r1_ ++ r2_).extract 0 1000).size : Int)) - 1) - ((k : Int) % (partsN (((r1_ ++ r2_).extract 0 1000).size : Int))))).1).data.toList)) (e1 ^^^ 1) (by kernel_rfl) (by kernel_rfl) (by kernel_rfl) (by kernel_rfl) (by kernel_rfl) (raw_pos hst.2.1) ?_
         refine At.done rfl ?_
         refine AW.r ?_
         refine At.a 3 ?_
         refine At.b2sRaw (s := 32) (t := 9) (e := 5) (d := 129) (i := 218) (x := .tmp 128) (l := ((((partS ((r1_ ++ r2_).extract 0 1000) (((partsN (((r1_ ++ r2_).extract 0 1000).size : Int)) - 1) - ((k : Int) % (partsN (((r1_ ++ r2_).extract 0 1000).size : Int))))).1).data.toList).set 0 (e1 ^^^ 1))) (by kernel_rfl) (by kernel_rfl) (by kernel_rfl) (by kernel_rfl) (by kernel_rfl) ?_
         refine At.c (impl_ParcelPut_spec  ((putP p (((partsN (((r1_ ++ r2_).extract 0 1000).size : Int)) - 1) - ((k : Int) % (partsN (((r1_ ++ r2_).extract 0 1000).size : Int)))) ((partS ((r1_ ++ r2_).extract 0 1000) (((partsN (((r1_ ++ r2_).extract 0 1000).size : Int)) - 1) - ((k : Int) % (partsN (((r1_ ++ r2_).extract 0 1000).size : Int))))).1)).1) (((partsN (((r1_ ++ r2_).extract 0 1000).size : Int)) - 1) - ((k : Int) % (partsN (((r1_ ++ r2_).extract 0 1000).size : Int)))) (strOf ((((partS ((r1_ ++ r2_).extract 0 1000) (((partsN (((r1_ ++ r2_).extract 0 1000).size : Int)) - 1) - ((k : Int) % (partsN (((r1_ ++ r2_).extract 0 1000).size : Int))))).1).data.toList).set 0 (e1 ^^^ 1))) (by rw [hst.2.2.2.1]; exact st_small hsz _ _) (by omega)) Try.call20 false [] [(3600, 0)] [(2760, 1, ((((putP p (((partsN (((r1_ ++ r2_).extract 0 1000).size : Int)) - 1) - ((k : Int) % (partsN (((r1_ ++ r2_).extract 0 1000).size : Int)))) ((partS ((r1_ ++ r2_).extract 0 1000) (((partsN (((r1_ ++ r2_).extract 0 1000).size : Int)) - 1) - ((k : Int) % (partsN (((r1_ ++ r2_).extract 0 1000).size : Int))))).1)).1).parts).map encS))] ⟨rfl, ⟨9, ((((putP p (((partsN (((r1_ ++ r2_).extract 0 1000).size : Int)) - 1) - ((k : Int) % (partsN (((r1_ ++ r2_).extract 0 1000).size : Int)))) ((partS ((r1_ ++ r2_).extract 0 1000) (((partsN (((r1_ ++ r2_).extract 0 1000).size : Int)) - 1) - ((k : Int) % (partsN (((r1_ ++ r2_).extract 0 1000).size : Int))))).1)).1).parts).map encS), by kernel_rfl, FrzIs.same (allP_encS _)⟩, trivial⟩ ?_
         refine At.z 6 ?_
         refine AW.q 2 ?_
         refine AW.condF (((putP ((putP p (((partsN (((r1_ ++ r2_).extract 0 1000).size : Int)) - 1) - ((k : Int) % (partsN (((r1_ ++ r2_).extract 0 1000).size : Int)))) ((partS ((r1_ ++ r2_).extract 0 1000) (((partsN (((r1_ ++ r2_).extract 0 1000).size : Int)) - 1) - ((k : Int) % (partsN (((r1_ ++ r2_).extract 0 1000).size : Int))))).1)).1) (((partsN (((r1_ ++ r2_).extract 0 1000).size : Int)) - 1) - ((k : Int) % (partsN (((r1_ ++ r2_).extract 0 1000).size : Int)))) (strOf ((((partS ((r1_ ++ r2_).extract 0 1000) (((partsN (((r1_ ++ r2_).extract 0 1000).size : Int)) - 1) - ((k : Int) % (partsN (((r1_ ++ r2_).extract 0 1000).size : Int))))).1).data.toList).set 0 (e1 ^^^ 1)))).2) != 3) (by kernel_rfl) (by rw [bne_eq_false_iff_eq]; exact hst.2.2.2.2.2.2 _ (par_ne he1).1 (par_ne he1).2) ?_
         refine AW.skip ?_
         refine AW.g ?_
         refine At.a 2 ?_
         refine At.sI 64 ((k : Int) + 1) (by omega) ?_
         refine At.z 1 ?_
         exact ⟨(k + 1, ((putP p (((partsN (((r1_ ++ r2_).extract 0 1000).size : Int)) - 1) - ((k : Int) % (partsN (((r1_ ++ r2_).extract 0 1000).size : Int)))) ((partS ((r1_ ++ r2_).extract 0 1000) (((partsN (((r1_ ++ r2_).extract 0 1000).size : Int)) - 1) - ((k : Int) % (partsN (((r1_ ++ r2_).extract 0 1000).size : Int))))).1)).1)), ⟨by omega, hst.2.2.2.1⟩, (by simp only; omega), Sub.o [(104, 104), (2760, 1740)] [true, false, false, true, true, false, true, true]⟩
       refine At.sB 102 _ _ (sayF h5) ?_
       refine At.a 9 ?_
       refine At.sB 111 (decide ((k : Int) ≥ (partsN (((r1_ ++ r2_).extract 0 1000).size : Int)))) true (sayB (decide_eq_true (by omega))) ?_
       refine At.z 4 ?_
       refine AW.condF (((putP p (((partsN (((r1_ ++ r2_).extract 0 1000).size : Int)) - 1) - ((k : Int) % (partsN (((r1_ ++ r2_).extract 0 1000).size : Int)))) ((partS ((r1_ ++ r2_).extract 0 1000) (((partsN (((r1_ ++ r2_).extract 0 1000).size : Int)) - 1) - ((k : Int) % (partsN (((r1_ ++ r2_).extract 0 1000).size : Int))))).1)).2) != 2) (by kernel_rfl) (by rw [bne_eq_false_iff_eq]; exact hst.2.2.2.2.2.1 (by omega)) ?_
       refine AW.skip ?_
       refine AW.q 2 ?_
       refine AW.r ?_
       refine At.a 1 ?_
       refine At.s2bO (s := 9) (t := 32) (e := 5) (d := 118) (x := .tmp 117) (b := (partS ((r1_ ++ r2_).extract 0 1000) (((partsN (((r1_ ++ r2_).extract 0 1000).size : Int)) - 1) - ((k : Int) % (partsN (((r1_ ++ r2_).extract 0 1000).size : Int))))).1) 218 (by kernel_rfl) (by kernel_rfl) (by kernel_rfl) (by kernel_rfl) (by kernel_rfl) ?_
       refine At.z 1 ?_
       refine AW.r ?_
       refine At.a 2 ?_
       refine At.idxRaw (t := 32) (d := 121) (x := .tmp 120) (y := .const (.int .i64 0)) (e := 5) (e' := 5) (j := 218) (l := (((partS ((r1_ ++ r2_).extract 0 1000) (((partsN (((r1_ ++ r2_).extract 0 1000).size : Int)) - 1) - ((k : Int) % (partsN (((r1_ ++ r2_).extract 0 1000).size : Int))))).1).data.toList)) (kd := .i64) (i := 0) (by kernel_rfl) (by kernel_rfl) (by kernel_rfl) (by kernel_rfl) (by kernel_rfl) (by omega) (raw_pos hst.2.1) ?_
       refine Exists.elim (gE (((partS ((r1_ ++ r2_).extract 0 1000) (((partsN (((r1_ ++ r2_).extract 0 1000).size : Int)) - 1) - ((k : Int) % (partsN (((r1_ ++ r2_).extract 0 1000).size : Int))))).1).data.toList) 0 (raw_pos hst.2.1)) fun e2 he2 => ?_
       refine At.ldRaw (t := 5) (d := 122) (i := 218) (e := 5) (j := 0) (x := .tmp 121) (l := (((partS ((r1_ ++ r2_).extract 0 1000) (((partsN (((r1_ ++ r2_).extract 0 1000).size : Int)) - 1) - ((k : Int) % (partsN (((r1_ ++ r2_).extract 0 1000).size : Int))))).1).data.toList)) e2 (by kernel_rfl) (by kernel_rfl) (by kernel_rfl) (by kernel_rfl) (by kernel_rfl) he2 ?_
       refine At.bits (t := 5) (u := 5) (d := 123) (op := .xor) (x := .tmp 122) (y := .const (.int .u8 1)) (kd := .u8) (a := (e2.toNat : Int)) (b := 1) ((e2 ^^^ 1).toNat : Int) (by kernel_rfl) (by kernel_rfl) (by kernel_rfl) (by kernel_rfl) (xor_u8 _ 1) ?_
       refine At.idxRaw (t := 32) (d := 124) (x := .tmp 119) (y := .const (.int .i64 0)) (e := 5) (e' := 5) (j := 218) (l := (((partS ((r1_ ++ r2_).extract 0 1000) (((partsN (((r1_ ++ r2_).extract 0 1000).size : Int)) - 1) - ((k : Int) % (partsN (((r1_ ++ r2_).extract 0 1000).size : Int))))).1).data.toList)) (kd := .i64) (i := 0) (by kernel_rfl) (by kernel_rfl) (by kernel_rfl) (by kernel_rfl) (by kernel_rfl) (by omega) (raw_pos hst.2.1) ?_
       refine At.stRaw (t := 5) (i := 218) (e := 5) (j := 0) (x := .tmp 124) (y := .tmp 123) (l := (((partS ((r1_ ++ r2_).extract 0 1000) (((partsN (((r1_ ++ r2_).extract 0 1000).size : Int)) - 1) - ((k : Int) % (partsN (((r1_ ++ r2_).extract 0 1000).size : Int))))).1).data.toList)) (e2 ^^^ 1) (by kernel_rfl) (by kernel_rfl) (by kernel_rfl) (by kernel_rfl) (by kernel_rfl) (raw_pos hst.2.1) ?_
       refine At.done rfl ?_
       refine AW.r ?_
       refine At.a 3 ?_
       refine At.b2sRaw (s := 32) (t := 9) (e := 5) (d := 129) (i := 218) (x := .tmp 128) (l := ((((partS ((r1_ ++ r2_).extract 0 1000) (((partsN (((r1_ ++ r2_).extract 0 1000).size : Int)) - 1) - ((k : Int) % (partsN (((r1_ ++ r2_).extract 0 1000).size : Int))))).1).data.toList).set 0 (e2 ^^^ 1))) (by kernel_rfl) (by kernel_rfl) (by kernel_rfl) (by kernel_rfl) (by kernel_rfl) ?_
       refine At.c (impl_ParcelPut_spec  ((putP p (((partsN (((r1_ ++ r2_).extract 0 1000).size : Int)) - 1) - ((k : Int) % (partsN (((r1_ ++ r2_).extract 0 1000).size : Int)))) ((partS ((r1_ ++ r2_).extract 0 1000) (((partsN (((r1_ ++ r2_).extract 0 1000).size : Int)) - 1) - ((k : Int) % (partsN (((r1_ ++ r2_).extract 0 1000).size : Int))))).1)).1) (((partsN (((r1_ ++ r2_).extract 0 1000).size : Int)) - 1) - ((k : Int) % (partsN (((r1_ ++ r2_).extract 0 1000).size : Int)))) (strOf ((((partS ((r1_ ++ r2_).extract 0 1000) (((partsN (((r1_ ++ r2_).extract 0 1000).size : Int)) - 1) - ((k : Int) % (partsN (((r1_ ++ r2_).extract 0 1000).size : Int))))).1).data.toList).set 0 (e2 ^^^ 1))) (by rw [hst.2.2.2.1]; exact st_small hsz _ _) (by omega)) Try.call20 false [] [(3600, 0)] [(2760, 1, ((((putP p (((partsN (((r1_ ++ r2_).extract 0 1000).size : Int)) - 1) - ((k : Int) % (partsN (((r1_ ++ r2_).extract 0 1000).size : Int)))) ((partS ((r1_ ++ r2_).extract 0 1000) (((partsN (((r1_ ++ r2_).extract 0 1000).size : Int)) - 1) - ((k : Int) % (partsN (((r1_ ++ r2_).extract 0 1000).size : Int))))).1)).1).parts).map encS))] ⟨rfl, ⟨9, ((((putP p (((partsN (((r1_ ++ r2_).extract 0 1000).size : Int)) - 1) - ((k : Int) % (partsN (((r1_ ++ r2_).extract 0 1000).size : Int)))) ((partS ((r1_ ++ r2_).extract 0 1000) (((partsN (((r1_ ++ r2_).extract 0 1000).size : Int)) - 1) - ((k : Int) % (partsN (((r1_ ++ r2_).extract 0 1000).size : Int))))).1)).1).parts).map encS), by kernel_rfl, FrzIs.same (allP_encS _)⟩, trivial⟩ ?_
       refine At.z 6 ?_
       refine AW.q 2 ?_
       refine AW.condF (((putP ((putP p (((partsN (((r1_ ++ r2_).extract 0 1000).size : Int)) - 1) - ((k : Int) % (partsN (((r1_ ++ r2_).extract 0 1000).size : Int)))) ((partS ((r1_ ++ r2_).extract 0 1000) (((partsN (((r1_ ++ r2_).extract 0 1000).size : Int)) - 1) - ((k : Int) % (partsN (((r1_ ++ r2_).extract 0 1000).size : Int))))).1)).1) (((partsN (((r1_ ++ r2_).extract 0 1000).size : Int)) - 1) - ((k : Int) % (partsN (((r1_ ++ r2_).extract 0 1000).size : Int)))) (strOf ((((partS ((r1_ ++ r2_).extract 0 1000) (((partsN (((r1_ ++ r2_).extract 0 1000).size : Int)) - 1) - ((k : Int) % (partsN (((r1_ ++ r2_).extract 0 1000).size : Int))))).1).data.toList).set 0 (e2 ^^^ 1)))).2) != 3) (by kernel_rfl) (by rw [bne_eq_false_iff_eq]; exact hst.2.2.2.2.2.2 _ (par_ne he2).1 (par_ne he2).2) ?_
       refine AW.skip ?_
       refine AW.g ?_
       refine At.a 2 ?_
       refine At.sI 64 ((k : Int) + 1) (by omega) ?_
       refine At.z 1 ?_
       exact ⟨(k + 1, ((putP p (((partsN (((r1_ ++ r2_).extract 0 1000).size : Int)) - 1) - ((k : Int) % (partsN (((r1_ ++ r2_).extract 0 1000).size : Int)))) ((partS ((r1_ ++ r2_).extract 0 1000) (((partsN (((r1_ ++ r2_).extract 0 1000).size : Int)) - 1) - ((k : Int) % (partsN (((r1_ ++ r2_).extract 0 1000).size : Int))))).1)).1)), ⟨by omega, hst.2.2.2.1⟩, (by simp only; omega), Sub.o [(104, 104), (2760, 1740)] [true, false, false, true, true, false, true, true]⟩
     have hix := (ix_int (a := decide (atF code 1 % 2 = 0)) hkn).1 (decide_eq_false h4)
     rw [← hpi] at hix
     have hst := par_step hsz hp hkn hix
     have hxl := ix_lt (a := decide (atF code 1 % 2 = 0)) hkn
     refine AW.skip ?_
     refine AW.r ?_
     refine At.a 2 ?_
     refine At.c (impl_PartOf_spec  ((r1_ ++ r2_).extract 0 1000) ((k : Int) % (partsN (((r1_ ++ r2_).extract 0 1000).size : Int))) hsz (by omega)) Try.call19 true [] [] [] trivial ?_
     refine At.z 5 ?_
     refine AW.r ?_
     refine At.a 3 ?_
     refine At.c (impl_ParcelPut_spec  p ((k : Int) % (partsN (((r1_ ++ r2_).extract 0 1000).size : Int))) ((partS ((r1_ ++ r2_).extract 0 1000) ((k : Int) % (partsN (((r1_ ++ r2_).extract 0 1000).size : Int)))).1) (by rw [hp]; exact st_small hsz _ _) (by omega)) Try.call20 false [] [(2760, 0)] [(1740, 1, (p.parts.map encS))] ⟨rfl, ⟨9, (p.parts.map encS), by kernel_rfl, FrzIs.same (allP_encS _)⟩, trivial⟩ ?_
     refine At.z 6 ?_
     refine AW.seq ?_
     refine AW.r ?_
     refine At.a 3 ?_
     refine At.sB 93 (!((partS ((r1_ ++ r2_).extract 0 1000) ((k : Int) % (partsN (((r1_ ++ r2_).extract 0 1000).size : Int)))).2)) false (sayB (by rw [show ((partS ((r1_ ++ r2_).extract 0 1000) ((k : Int) % (partsN (((r1_ ++ r2_).extract 0 1000).size : Int)))).2) = true from hst.1]; rfl)) ?_
     refine At.a 5 ?_
     refine At.sB 98 ((((partS ((r1_ ++ r2_).extract 0 1000) ((k : Int) % (partsN (((r1_ ++ r2_).extract 0 1000).size : Int)))).1).size : Int) == 0) false (sayB (beq_eq_false_iff_ne.2 (by have := hst.2.1; omega))) ?_
     refine At.a 4 ?_
     by_cases h6 : (k : Int) < (partsN (((r1_ ++ r2_).extract 0 1000).size : Int))
     · refine At.sB 102 _ _ (sayT h6) ?_
       refine At.a 5 ?_
       refine At.sB 107 (((putP p ((k : Int) % (partsN (((r1_ ++ r2_).extract 0 1000).size : Int))) ((partS ((r1_ ++ r2_).extract 0 1000) ((k : Int) % (partsN (((r1_ ++ r2_).extract 0 1000).size : Int)))).1)).2) != 0) false (sayB (by rw [bne_eq_false_iff_eq]; exact hst.2.2.2.2.1 (by omega))) ?_
       refine At.a 4 ?_
       refine At.sB 111 (decide ((k : Int) ≥ (partsN (((r1_ ++ r2_).extract 0 1000).size : Int)))) false (sayB (decide_eq_false (by omega))) ?_
       refine At.z 4 ?_
       refine AW.cond false (by kernel_rfl) (fun h => by cases h) (fun _ => ?_)
       refine AW.skip ?_
       refine AW.q 2 ?_
       refine AW.r ?_
       refine At.a 1 ?_
       refine At.s2bO (s := 9) (t := 32) (e := 5) (d := 118) (x := .tmp 117) (b := (partS ((r1_ ++ r2_).extract 0 1000) ((k : Int) % (partsN (((r1_ ++ r2_).extract 0 1000).size : Int)))).1) 218 (by kernel_rfl) (by kernel_rfl) (by kernel_rfl) (by kernel_rfl) (by kernel_rfl) ?_
       refine At.z 1 ?_
       refine AW.r ?_
       refine At.a 2 ?_
       refine At.idxRaw (t := 32) (d := 121) (x := .tmp 120) (y := .const (.int .i64 0)) (e := 5) (e' := 5) (j := 218) (l := (((partS ((r1_ ++ r2_).extract 0 1000) ((k : Int) % (partsN (((r1_ ++ r2_).extract 0 1000).size : Int)))).1).data.toList)) (kd := .i64) (i := 0) (by kernel_rfl) (by kernel_rfl) (by kernel_rfl) (by kernel_rfl) (by kernel_rfl) (by omega) (raw_pos hst.2.1) ?_
       refine Exists.elim (gE (((partS ((r1_ ++ r2_).extract 0 1000) ((k : Int) % (partsN (((r1_ ++ r2_).extract 0 1000).size : Int)))).1).data.toList) 0 (raw_pos hst.2.1)) fun e3 he3 => ?_
       refine At.ldRaw (t := 5) (d := 122) (i := 218) (e := 5) (j := 0) (x := .tmp 121) (l := (((partS ((r1_ ++ r2_).extract 0 1000) ((k : Int) % (partsN (((r1_ ++ r2_).extract 0 1000).size : Int)))).1).data.toList)) e3 (by kernel_rfl) (by kernel_rfl) (by kernel_rfl) (by kernel_rfl) (by kernel_rfl) he3 ?_
       refine At.bits (t := 5) (u := 5) (d := 123) (op := .xor) (x := .tmp 122) (y := .const (.int .u8 1)) (kd := .u8) (a := (e3.toNat : Int)) (b := 1) ((e3 ^^^ 1).toNat : Int) (by kernel_rfl) (by kernel_rfl) (by kernel_rfl) (by kernel_rfl) (xor_u8 _ 1) ?_
       refine At.idxRaw (t := 32) (d := 124) (x := .tmp 119) (y := .const (.int .i64 0)) (e := 5) (e' := 5) (j := 218) (l := (((partS ((r1_ ++ r2_).extract 0 1000) ((k : Int) % (partsN (((r1_ ++ r2_).extract 0 1000).size : Int)))).1).data.toList)) (kd := .i64) (i := 0) (by kernel_rfl) (by kernel_rfl) (by kernel_rfl) (by kernel_rfl) (by kernel_rfl) (by omega) (raw_pos hst.2.1) ?_
       refine At.stRaw (t := 5) (i := 218) (e := 5) (j := 0) (x := .tmp 124) (y := .tmp 123) (l := (((partS ((r1_ ++ r2_).extract 0 1000) ((k : Int) % (partsN (((r1_ ++ r2_).extract 0 1000).size : Int)))).1).data.toList)) (e3 ^^^ 1) (by kernel_rfl) (by kernel_rfl) (by kernel_rfl) (by kernel_rfl) (by kernel_rfl) (raw_pos hst.2.1) ?_
       refine At.done rfl ?_
       refine AW.r ?_
       refine At.a 3 ?_
       refine At.b2sRaw (s := 32) (t := 9) (e := 5) (d := 129) (i := 218) (x := .tmp 128) (l := ((((partS ((r1_ ++ r2_).extract 0 1000) ((k : Int) % (partsN (((r1_ ++ r2_).extract 0 1000).size : Int)))).1).data.toList).set 0 (e3 ^^^ 1))) (by kernel_rfl) (by kernel_rfl) (by kernel_rfl) (by kernel_rfl) (by kernel_rfl) ?_
       refine At.c (impl_ParcelPut_spec  ((putP p ((k : Int) % (partsN (((r1_ ++ r2_).extract 0 1000).size : Int))) ((partS ((r1_ ++ r2_).extract 0 1000) ((k : Int) % (partsN (((r1_ ++ r2_).extract 0 1000).size : Int)))).1)).1) ((k : Int) % (partsN (((r1_ ++ r2_).extract 0 1000).size : Int))) (strOf ((((partS ((r1_ ++ r2_).extract 0 1000) ((k : Int) % (partsN (((r1_ ++ r2_).extract 0 1000).size : Int)))).1).data.toList).set 0 (e3 ^^^ 1))) (by rw [hst.2.2.2.1]; exact st_small hsz _ _) (by omega)) Try.call20 false [] [(3600, 0)] [(2760, 1, ((((putP p ((k : Int) % (partsN (((r1_ ++ r2_).extract 0 1000).size : Int))) ((partS ((r1_ ++ r2_).extract 0 1000) ((k : Int) % (partsN (((r1_ ++ r2_).extract 0 1000).size : Int)))).1)).1).parts).map encS))] ⟨rfl, ⟨9, ((((putP p ((k : Int) % (partsN (((r1_ ++ r2_).extract 0 1000).size : Int))) ((partS ((r1_ ++ r2_).extract 0 1000) ((k : Int) % (partsN (((r1_ ++ r2_).extract 0 1000).size : Int)))).1)).1).parts).map encS), by kernel_rfl, FrzIs.same (allP_encS _)⟩, trivial⟩ ?_
       refine At.z 6 ?_
       refine AW.q 2 ?_
       refine AW.condF (((putP ((putP p ((k : Int) % (partsN (((r1_ ++ r2_).extract 0 1000).size : Int))) ((partS ((r1_ ++ r2_).extract 0 1000) ((k : Int) % (partsN (((r1_ ++ r2_).extract 0 1000).size : Int)))).1)).1) ((k : Int) % (partsN (((r1_ ++ r2_).extract 0 1000).size : Int))) (strOf ((((partS ((r1_ ++ r2_).extract 0 1000) ((k : Int) % (partsN (((r1_ ++ r2_).extract 0 1000).size : Int)))).1).data.toList).set 0 (e3 ^^^ 1)))).2) != 3) (by kernel_rfl) (by rw [bne_eq_false_iff_eq]; exact hst.2.2.2.2.2.2 _ (par_ne he3).1 (par_ne he3).2) ?_
       refine AW.skip ?_
       refine AW.g ?_
       refine At.a 2 ?_
       refine At.sI 64 ((k : Int) + 1) (by omega) ?_
       refine At.z 1 ?_
       exact ⟨(k + 1, ((putP p ((k : Int) % (partsN (((r1_ ++ r2_).extract 0 1000).size : Int))) ((partS ((r1_ ++ r2_).extract 0 1000) ((k : Int) % (partsN (((r1_ ++ r2_).extract 0 1000).size : Int)))).1)).1)), ⟨by omega, hst.2.2.2.1⟩, (by simp only; omega), Sub.o [(104, 104), (2760, 1740)] [true, false, false, true, true, false, true, true]⟩
     refine At.sB 102 _ _ (sayF h6) ?_
     refine At.a 9 ?_
     refine At.sB 111 (decide ((k : Int) ≥ (partsN (((r1_ ++ r2_).extract 0 1000).size : Int)))) true (sayB (decide_eq_true (by omega))) ?_
     refine At.z 4 ?_
     refine AW.condF (((putP p ((k : Int) % (partsN (((r1_ ++ r2_).extract 0 1000).size : Int))) ((partS ((r1_ ++ r2_).extract 0 1000) ((k : Int) % (partsN (((r1_ ++ r2_).extract 0 1000).size : Int)))).1)).2) != 2) (by kernel_rfl) (by rw [bne_eq_false_iff_eq]; exact hst.2.2.2.2.2.1 (by omega)) ?_
     refine AW.skip ?_
     refine AW.q 2 ?_
     refine AW.r ?_
     refine At.a 1 ?_
     refine At.s2bO (s := 9) (t := 32) (e := 5) (d := 118) (x := .tmp 117) (b := (partS ((r1_ ++ r2_).extract 0 1000) ((k : Int) % (partsN (((r1_ ++ r2_).extract 0 1000).size : Int)))).1) 218 (by kernel_rfl) (by kernel_rfl) (by kernel_rfl) (by kernel_rfl) (by kernel_rfl) ?_
     refine At.z 1 ?_
     refine AW.r ?_
     refine At.a 2 ?_
     refine At.idxRaw (t := 32) (d := 121) (x := .tmp 120) (y := .const (.int .i64 0)) (e := 5) (e' := 5) (j := 218) (l := (((partS ((r1_ ++ r2_).extract 0 1000) ((k : Int) % (partsN (((r1_ ++ r2_).extract 0 1000).size : Int)))).1).data.toList)) (kd := .i64) (i := 0) (by kernel_rfl) (by kernel_rfl) (by kernel_rfl) (by kernel_rfl) (by kernel_rfl) (by omega) (raw_pos hst.2.1) ?_
     refine Exists.elim (gE (((partS ((r1_ ++ r2_).extract 0 1000) ((k : Int) % (partsN (((r1_ ++ r2_).extract 0 1000).size : Int)))).1).data.toList) 0 (raw_pos hst.2.1)) fun e4 he4 => ?_
     refine At.ldRaw (t := 5) (d := 122) (i := 218) (e := 5) (j := 0) (x := .tmp 121) (l := (((partS ((r1_ ++ r2_).extract 0 1000) ((k : Int) % (partsN (((r1_ ++ r2_).extract 0 1000).size : Int)))).1).data.toList)) e4 (by kernel_rfl) (by kernel_rfl) (by kernel_rfl) (by kernel_rfl) (by kernel_rfl) he4 ?_
     refine At.bits (t := 5) (u := 5) (d := 123) (op := .xor) (x := .tmp 122) (y := .const (.int .u8 1)) (kd := .u8) (a := (e4.toNat : Int)) (b := 1) ((e4 ^^^ 1).toNat : Int) (by kernel_rfl) (by kernel_rfl) (by kernel_rfl) (by kernel_rfl) (xor_u8 _ 1) ?_
     refine At.idxRaw (t := 32) (d := 124) (x := .tmp 119) (y := .const (.int .i64 0)) (e := 5) (e' := 5) (j := 218) (l := (((partS ((r1_ ++ r2_).extract 0 1000) ((k : Int) % (partsN (((r1_ ++ r2_).extract 0 1000).size : Int)))).1).data.toList)) (kd := .i64) (i := 0) (by kernel_rfl) (by kernel_rfl) (by kernel_rfl) (by kernel_rfl) (by kernel_rfl) (by omega) (raw_pos hst.2.1) ?_
     refine At.stRaw (t := 5) (i := 218) (e := 5) (j := 0) (x := .tmp 124) (y := .tmp 123) (l := (((partS ((r1_ ++ r2_).extract 0 1000) ((k : Int) % (partsN (((r1_ ++ r2_).extract 0 1000).size : Int)))).1).data.toList)) (e4 ^^^ 1) (by kernel_rfl) (by kernel_rfl) (by kernel_rfl) (by kernel_rfl) (by kernel_rfl) (raw_pos hst.2.1) ?_
     refine At.done rfl ?_
     refine AW.r ?_
     refine At.a 3 ?_
     refine At.b2sRaw (s := 32) (t := 9) (e := 5) (d := 129) (i := 218) (x := .tmp 128) (l := ((((partS ((r1_ ++ r2_).extract 0 1000) ((k : Int) % (partsN (((r1_ ++ r2_).extract 0 1000).size : Int)))).1).data.toList).set 0 (e4 ^^^ 1))) (by kernel_rfl) (by kernel_rfl) (by kernel_rfl) (by kernel_rfl) (by kernel_rfl) ?_
     refine At.c (impl_ParcelPut_spec  ((putP p ((k : Int) % (partsN (((r1_ ++ r2_).extract 0 1000).size : Int))) ((partS ((r1_ ++ r2_).extract 0 1000) ((k : Int) % (partsN (((r1_ ++ r2_).extract 0 1000).size : Int)))).1)).1) ((k : Int) % (partsN (((r1_ ++ r2_).extract 0 1000).size : Int))) (strOf ((((partS ((r1_ ++ r2_).extract 0 1000) ((k : Int) % (partsN (((r1_ ++ r2_).extract 0 1000).size : Int)))).1).data.toList).set 0 (e4 ^^^ 1))) (by rw [hst.2.2.2.1]; exact st_small hsz _ _) (by omega)) Try.call20 false [] [(3600, 0)] [(2760, 1, ((((putP p ((k : Int) % (partsN (((r1_ ++ r2_).extract 0 1000).size : Int))) ((partS ((r1_ ++ r2_).extract 0 1000) ((k : Int) % (partsN (((r1_ ++ r2_).extract 0 1000).size : Int)))).1)).1).parts).map encS))] ⟨rfl, ⟨9, ((((putP p ((k : Int) % (partsN (((r1_ ++ r2_).extract 0 1000).size : Int))) ((partS ((r1_ ++ r2_).extract 0 1000) ((k : Int) % (partsN (((r1_ ++ r2_).extract 0 1000).size : Int)))).1)).1).parts).map encS), by kernel_rfl, FrzIs.same (allP_encS _)⟩, trivial⟩ ?_
     refine At.z 6 ?_
     refine AW.q 2 ?_
     refine AW.condF (((putP ((putP p ((k : Int) % (partsN (((r1_ ++ r2_).extract 0 1000).size : Int))) ((partS ((r1_ ++ r2_).extract 0 1000) ((k : Int) % (partsN (((r1_ ++ r2_).extract 0 1000).size : Int)))).1)).1) ((k : Int) % (partsN (((r1_ ++ r2_).extract 0 1000).size : Int))) (strOf ((((partS ((r1_ ++ r2_).extract 0 1000) ((k : Int) % (partsN (((r1_ ++ r2_).extract 0 1000).size : Int)))).1).data.toList).set 0 (e4 ^^^ 1)))).2) != 3) (by kernel_rfl) (by rw [bne_eq_false_iff_eq]; exact hst.2.2.2.2.2.2 _ (par_ne he4).1 (par_ne he4).2) ?_
     refine AW.skip ?_
     refine AW.g ?_
     refine At.a 2 ?_
     refine At.sI 64 ((k : Int) + 1) (by omega) ?_
     refine At.z 1 ?_
     exact ⟨(k + 1, ((putP p ((k : Int) % (partsN (((r1_ ++ r2_).extract 0 1000).size : Int))) ((partS ((r1_ ++ r2_).extract 0 1000) ((k : Int) % (partsN (((r1_ ++ r2_).extract 0 1000).size : Int)))).1)).1)), ⟨by omega, hst.2.2.2.1⟩, (by simp only; omega), Sub.o [(104, 104), (2760, 1740)] [true, false, false, true, true, false, true, true]⟩
   have hend := par_end hsz hp (par_ge hpi h3)
   refine AW.exit ?_
   refine AW.r ?_
   refine At.a 1 ?_
   refine At.c (impl_ParcelWhole_spec  p (by rw [hp]; exact st_small hsz _ _)) Try.call8 false [] [] [(1740, 1, (p.parts.map encS))] ⟨rfl, ⟨9, (p.parts.map encS), by kernel_rfl, FrzIs.same (allP_encS _)⟩, trivial⟩ ?_
   refine At.z 5 ?_
   refine AW.r ?_
   refine At.a 3 ?_
   refine At.sB 142 (((wholeP p).2) == 0) true (sayB (by rw [hend.1]; rfl)) ?_
   refine At.a 5 ?_
   refine At.sB 147 (((wholeP p).1).toList == ((r1_ ++ r2_).extract 0 1000).toList) true (sayB (by rw [hend.1]; exact beq_self_eq_true _)) ?_
   refine At.a 1 ?_
   refine At.c (impl_ParcelLacks_spec  p (by rw [hp]; exact st_small hsz _ _)) Try.call17 false [] [(3980, 0)] [(1740, 1, (p.parts.map encS))] ⟨rfl, ⟨9, (p.parts.map encS), by kernel_rfl, FrzIs.same (allP_encS _)⟩, trivial⟩ ?_
   refine At.a 1 ?_
   refine At.sL 150 encI (lacksI p) ?_
   refine At.z 3 ?_
   refine AW.ret ?_
   refine ⟨_, Sub.refl _ _, ?_⟩
   refine KF.conv (fun w => .bool w) (fun w => []) (show (((lacksI p).length : Int) == 0) = (true) from by rw [hend.2]; rfl) ?_
   exact KF.n []
 have hsz : (r1_ ++ r2_).size ≤ 1000 := by omega
 have hdl : (r1_ ++ r2_).data.toList.length = (r1_ ++ r2_).size := Array.length_toList
 have hpo := partsN_of (n := ((r1_ ++ r2_).size : Int)) (inR_iff.2 (by omega))
 have hpi := pts_int (l := (r1_ ++ r2_).data.toList) (by omega)
 rw [hdl] at hpi
 have hsl : (shaB (r1_ ++ r2_).data.toList).length = 32 := sha_len (by omega)
 have hst0 := par_start (s := (r1_ ++ r2_)) (d := strOf (shaB (r1_ ++ r2_).data.toList)) (a := decide (atF code 1 % 2 = 0)) hsz rfl
 refine AW.skip ?_
 refine AW.r ?_
 refine At.a 3 ?_
 refine At.s2b (s := 9) (t := 32) (e := 5) (d := 34) (x := .tmp 33) (b := r1_ ++ r2_) ((((r1_ ++ r2_).data.toList).map encU8)) (by kernel_rfl) (by kernel_rfl) (by kernel_rfl) (by kernel_rfl) (by omega) rfl ?_
 refine At.c (FnSpec.cv (As := [.sl true 1 (((r1_ ++ r2_).data.toList).map encU8)]) [2] (spec_Sha_spec  ((r1_ ++ r2_).data.toList) (by rw [hdl]; omega))) Try.call14 true [] [(1700, 0)] [] trivial ?_
 refine At.b2s (s := 32) (t := 9) (e := 5) (d := 36) (x := .tmp 35) (T := .ref 1700) (shaB ((r1_ ++ r2_).data.toList)) [] (by kernel_rfl) (by kernel_rfl) (by kernel_rfl) (by kernel_rfl) ⟨by kernel_rfl, .inl ⟨rfl, (allP_encU8 _)⟩⟩ ?_
 refine At.c (impl_ParcelNew_spec  ((r1_ ++ r2_).size : Int) (strOf (shaB ((r1_ ++ r2_).data.toList))) (by omega) (by rw [strOf_size, hsl]; decide)) Try.call13 true [] [(1740, 0)] [] trivial ?_
 refine At.z 6 ?_
 refine AW.r ?_
 refine At.a 2 ?_
 refine At.c (impl_PartsOf_spec  ((r1_ ++ r2_).size : Int) ) Try.call15 true [] [] [] trivial ?_
 refine At.z 1 ?_
 refine AW.seq ?_
 refine AW.r ?_
 refine At.a 3 ?_
 refine At.sB 45 (!((newP ((r1_ ++ r2_).size : Int) (strOf (shaB ((r1_ ++ r2_).data.toList)))).2)) false (sayB (by rw [show ((newP ((r1_ ++ r2_).size : Int) (strOf (shaB ((r1_ ++ r2_).data.toList)))).2) = true from (by rw [hst0.1])]; rfl)) ?_
 refine At.a 3 ?_
 refine At.c (spec_PartsOf_spec  ((r1_ ++ r2_).size : Int) ) Try.call16 true [] [] [] trivial ?_
 refine At.a 3 ?_
 refine At.sB 52 ((partsN ((r1_ ++ r2_).size : Int)) != (partsN ((r1_ ++ r2_).size : Int))) false (sayB (bne_self_eq_false _)) ?_
 refine At.a 1 ?_
 refine At.c (impl_ParcelLacks_spec  ((newP ((r1_ ++ r2_).size : Int) (strOf (shaB ((r1_ ++ r2_).data.toList)))).1) (by rw [hst0.1]; exact st_small hsz _ _)) Try.call17 false [] [(2080, 0)] [(1740, 1, ((((newP ((r1_ ++ r2_).size : Int) (strOf (shaB ((r1_ ++ r2_).data.toList)))).1).parts).map encS))] ⟨rfl, ⟨9, ((((newP ((r1_ ++ r2_).size : Int) (strOf (shaB ((r1_ ++ r2_).data.toList)))).1).parts).map encS), by kernel_rfl, FrzIs.same (allP_encS _)⟩, trivial⟩ ?_
 refine At.a 1 ?_
 refine At.sL 55 encI (lacksI ((newP ((r1_ ++ r2_).size : Int) (strOf (shaB ((r1_ ++ r2_).data.toList)))).1)) ?_
 refine At.z 3 ?_
 refine AW.condF (((lacksI ((newP ((r1_ ++ r2_).size : Int) (strOf (shaB ((r1_ ++ r2_).data.toList)))).1)).length : Int) != (partsN ((r1_ ++ r2_).size : Int))) (by kernel_rfl) (by rw [bne_eq_false_iff_eq]; exact hst0.2) ?_
 refine AW.skip ?_
 refine AW.seq ?_
 refine AW.q 1 ?_
 refine AW.block ?_
 refine AW.loopW (fun (x : Nat × Prc) => match x with | (k, p) => Go.Sy.mk [.sl false 1 (code.map encU8), .un, .un, .str (r1_ ++ r2_), .ptr 104 0 0, .un, .int .i64 (partsN ((r1_ ++ r2_).size : Int)), .int .i64 (k : Int)] [(104, .box 28 [.int .i64 p.size, .str p.digest, .ref 1740]), (1740, .arr 9 1 (p.parts.map encS))]) (fun (x : Nat × Prc) => match x with | (k, p) => k ≤ 2 * ptsN (r1_ ++ r2_).data.toList ∧ p = stP (r1_ ++ r2_).data.toList (decide (atF code 1 % 2 = 0)) k) (fun (x : Nat × Prc) => match x with | (k, p) => 2 * ptsN (r1_ ++ r2_).data.toList - k) (0, ((newP ((r1_ ++ r2_).size : Int) (strOf (shaB ((r1_ ++ r2_).data.toList)))).1)) ⟨by omega, congrArg Prod.fst hst0.1⟩ (Sub.o [(104, 104), (1740, 1740)] [true, false, false, true, true, false, true, true]) ?_
 rintro ⟨k, p⟩ ⟨hk, hp⟩
 refine AW.seq ?_
 refine AW.r ?_
 refine At.a 3 ?_
 refine At.sI 61 (2 * (partsN ((r1_ ++ r2_).size : Int))) (by omega) ?_
 refine At.z 1 ?_
 refine AW.cD ((k : Int) < (2 * (partsN ((r1_ ++ r2_).size : Int)))) (fun h7 => ?_) (fun h7 => ?_)
 · have hkn := par_lt hpi h7
   refine AW.skip ?_
   refine AW.seq ?_
   refine AW.block ?_
   refine AW.r ?_
   refine At.a 2 ?_
   refine At.div (t := 3) (u := 3) (d := 67) (op := .rem) (x := .tmp 65) (y := .tmp 66) (kd := .i64) (a := (k : Int)) (b := partsN ((r1_ ++ r2_).size : Int)) (by kernel_rfl) (by kernel_rfl) (by kernel_rfl) (by kernel_rfl) (by omega) (.int .i64 ((k : Int).tmod (partsN ((r1_ ++ r2_).size : Int)))) (.inr ⟨rfl, rfl⟩) ?_
   refine At.say 67 (.int .i64 ((k : Int).tmod (partsN ((r1_ ++ r2_).size : Int)))) (.int .i64 ((k : Int) % (partsN ((r1_ ++ r2_).size : Int)))) (by kernel_rfl) (sayRem (by omega)) ?_
   refine At.z 1 ?_
   refine AW.seq ?_
   refine AW.r ?_
   refine At.a 1 ?_
   refine At.c (laws_at_spec  code 1 (by omega) (by omega)) Try.call18 true [] [] [] trivial ?_
   have hat := atF_bd (code := code) (i := 1) (by omega)
   refine At.div (t := 3) (u := 3) (d := 70) (op := .rem) (x := .tmp 69) (y := .const (.int .i64 2)) (kd := .i64) (a := atF code 1) (b := 2) (by kernel_rfl) (by kernel_rfl) (by kernel_rfl) (by kernel_rfl) (by omega) (.int .i64 ((atF code 1).tmod 2)) (.inr ⟨rfl, rfl⟩) ?_
   refine At.say 70 (.int .i64 ((atF code 1).tmod 2)) (.int .i64 ((atF code 1) % 2)) (by kernel_rfl) (sayRem (by omega)) ?_
   refine At.z 1 ?_
   refine AW.cE ((atF code 1) % 2) (0 : Int) (fun h8 => ?_) (fun h8 => ?_)
   · have hix := (ix_int (a := decide (atF code 1 % 2 = 0)) hkn).2 (decide_eq_true h8)
     rw [← hpi] at hix
     have hst := par_step hsz hp hkn hix
     have hxl := ix_lt (a := decide (atF code 1 % 2 = 0)) hkn
     refine AW.g ?_
     refine At.a 2 ?_
     refine At.sI 73 ((partsN ((r1_ ++ r2_).size : Int)) - 1) (by omega) ?_
     refine At.a 2 ?_
     refine At.div (t := 3) (u := 3) (d := 76) (op := .rem) (x := .tmp 74) (y := .tmp 75) (kd := .i64) (a := (k : Int)) (b := partsN ((r1_ ++ r2_).size : Int)) (by kernel_rfl) (by kernel_rfl) (by kernel_rfl) (by kernel_rfl) (by omega) (.int .i64 ((k : Int).tmod (partsN ((r1_ ++ r2_).size : Int)))) (.inr ⟨rfl, rfl⟩) ?_
     refine At.say 76 (.int .i64 ((k : Int).tmod (partsN ((r1_ ++ r2_).size : Int)))) (.int .i64 ((k : Int) % (partsN ((r1_ ++ r2_).size : Int)))) (by kernel_rfl) (sayRem (by omega)) ?_
     refine At.a 1 ?_
     refine At.sI 77 (((partsN ((r1_ ++ r2_).size : Int)) - 1) - ((k : Int) % (partsN ((r1_ ++ r2_).size : Int)))) (by omega) ?_
     refine At.z 1 ?_
     refine AW.r ?_
     refine At.a 2 ?_
     refine At.c (impl_PartOf_spec  (r1_ ++ r2_) (((partsN ((r1_ ++ r2_).size : Int)) - 1) - ((k : Int) % (partsN ((r1_ ++ r2_).size : Int)))) hsz (by omega)) Try.call19 true [] [] [] trivial ?_
     refine At.z 5 ?_
     refine AW.r ?_
     refine At.a 3 ?_
     refine At.c (impl_ParcelPut_spec  p (((partsN ((r1_ ++ r2_).size : Int)) - 1) - ((k : Int) % (partsN ((r1_ ++ r2_).size : Int)))) ((partS (r1_ ++ r2_) (((partsN ((r1_ ++ r2_).size : Int)) - 1) - ((k : Int) % (partsN ((r1_ ++ r2_).size : Int))))).1) (by rw [hp]; exact st_small hsz _ _) (by omega)) Try.call20 false [] [(2760, 0)] [(1740, 1, (p.parts.map encS))] ⟨rfl, ⟨9, (p.parts.map encS), by kernel_rfl, FrzIs.same (allP_encS _)⟩, trivial⟩ ?_
     refine At.z 6 ?_
     refine AW.seq ?_
     refine AW.r ?_
     refine At.a 3 ?_
     refine At.sB 93 (!((partS (r1_ ++ r2_) (((partsN ((r1_ ++ r2_).size : Int)) - 1) - ((k : Int) % (partsN ((r1_ ++ r2_).size : Int))))).2)) false (sayB (by rw [show ((partS (r1_ ++ r2_) (((partsN ((r1_ ++ r2_).size : Int)) - 1) - ((k : Int) % (partsN ((r1_ ++ r2_).size : Int))))).2) = true from hst.1]; rfl)) ?_
     refine At.a 5 ?_
     refine At.sB 98 ((((partS (r1_ ++ r2_) (((partsN ((r1_ ++ r2_).size : Int)) - 1) - ((k : Int) % (partsN ((r1_ ++ r2_).size : Int))))).1).size : Int) == 0) false (sayB (beq_eq_false_iff_ne.2 (by have := hst.2.1; omega))) ?_
     refine At.a 4 ?_
     by_cases h9 : (k : Int) < (partsN ((r1_ ++ r2_).size : Int))
     · refine At.sB 102 _ _ (sayT h9) ?_
       refine At.a 5 ?_
       refine At.sB 107 (((putP p (((partsN ((r1_ ++ r2_).size : Int)) - 1) - ((k : Int) % (partsN ((r1_ ++ r2_).size : Int)))) ((partS (r1_ ++ r2_) (((partsN ((r1_ ++ r2_).size : Int)) - 1) - ((k : Int) % (partsN ((r1_ ++ r2_).size : Int))))).1)).2) != 0) false (sayB (by rw [bne_eq_false_iff_eq]; exact hst.2.2.2.2.1 (by omega))) ?_
       refine At.a 4 ?_
       refine At.sB 111 (decide ((k : Int) ≥ (partsN ((r1_ ++ r2_).size : Int)))) false (sayB (decide_eq_false (by omega))) ?_
       refine At.z 4 ?_
       refine AW.cond false (by kernel_rfl) (fun h => by cases h) (fun _ => ?_)
       refine AW.skip ?_
       refine AW.q 2 ?_
       refine AW.r ?_
       refine At.a 1 ?_
       refine At.s2bO (s := 9) (t := 32) (e := 5) (d := 118) (x := .tmp 117) (b := (partS (r1_ ++ r2_) (((partsN ((r1_ ++ r2_).size : Int)) - 1) - ((k : Int) % (partsN ((r1_ ++ r2_).size : Int))))).1) 218 (by kernel_rfl) (by kernel_rfl) (by kernel_rfl) (by kernel_rfl) (by kernel_rfl) ?_
       refine At.z 1 ?_
       refine AW.r ?_
       refine At.a 2 ?_
       refine At.idxRaw (t := 32) (d := 121) (x := .tmp 120) (y := .const (.int .i64 0)) (e := 5) (e' := 5) (j := 218) (l := (((partS (r1_ ++ r2_) (((partsN ((r1_ ++ r2_).size : Int)) - 1) - ((k : Int) % (partsN ((r1_ ++ r2_).size : Int))))).1).data.toList)) (kd := .i64) (i := 0) (by kernel_rfl) (by kernel_rfl) (by kernel_rfl) (by kernel_rfl) (by kernel_rfl) (by omega) (raw_pos hst.2.1) ?_
       refine Exists.elim (gE (((partS (r1_ ++ r2_) (((partsN ((r1_ ++ r2_).size : Int)) - 1) - ((k : Int) % (partsN ((r1_ ++ r2_).size : Int))))).1).data.toList) 0 (raw_pos hst.2.1)) fun e5 he5 => ?_
       refine At.ldRaw (t := 5) (d := 122) (i := 218) (e := 5) (j := 0) (x := .tmp 121) (l := (((partS (r1_ ++ r2_) (((partsN ((r1_ ++ r2_).size : Int)) - 1) - ((k : Int) % (partsN ((r1_ ++ r2_).size : Int))))).1).data.toList)) e5 (by kernel_rfl) (by kernel_rfl) (by kernel_rfl) (by kernel_rfl) (by kernel_rfl) he5 ?_
       refine At.bits (t := 5) (u := 5) (d := 123) (op := .xor) (x := .tmp 122) (y := .const (.int .u8 1)) (kd := .u8) (a := (e5.toNat : Int)) (b := 1) ((e5 ^^^ 1).toNat : Int) (by kernel_rfl) (by kernel_rfl) (by kernel_rfl) (by kernel_rfl) (xor_u8 _ 1) ?_
       refine At.idxRaw (t := 32) (d := 124) (x := .tmp 119) (y := .const (.int .i64 0)) (e := 5) (e' := 5) (j := 218) (l := (((partS (r1_ ++ r2_) (((partsN ((r1_ ++ r2_).size : Int)) - 1) - ((k : Int) % (partsN ((r1_ ++ r2_).size : Int))))).1).data.toList)) (kd := .i64) (i := 0) (by kernel_rfl) (by kernel_rfl) (by kernel_rfl) (by kernel_rfl) (by kernel_rfl) (by omega) (raw_pos hst.2.1) ?_
       refine At.stRaw (t := 5) (i := 218) (e := 5) (j := 0) (x := .tmp 124) (y := .tmp 123) (l := (((partS (r1_ ++ r2_) (((partsN ((r1_ ++ r2_).size : Int)) - 1) - ((k : Int) % (partsN ((r1_ ++ r2_).size : Int))))).1).data.toList)) (e5 ^^^ 1) (by kernel_rfl) (by kernel_rfl) (by kernel_rfl) (by kernel_rfl) (by kernel_rfl) (raw_pos hst.2.1) ?_
       refine At.done rfl ?_
       refine AW.r ?_
       refine At.a 3 ?_
       refine At.b2sRaw (s := 32) (t := 9) (e := 5) (d := 129) (i := 218) (x := .tmp 128) (l := ((((partS (r1_ ++ r2_) (((partsN ((r1_ ++ r2_).size : Int)) - 1) - ((k : Int) % (partsN ((r1_ ++ r2_).size : Int))))).1).data.toList).set 0 (e5 ^^^ 1))) (by kernel_rfl) (by kernel_rfl) (by kernel_rfl) (by kernel_rfl) (by kernel_rfl) ?_
       refine At.c (impl_ParcelPut_spec  ((putP p (((partsN ((r1_ ++ r2_).size : Int)) - 1) - ((k : Int) % (partsN ((r1_ ++ r2_).size : Int)))) ((partS (r1_ ++ r2_) (((partsN ((r1_ ++ r2_).size : Int)) - 1) - ((k : Int) % (partsN ((r1_ ++ r2_).size : Int))))).1)).1) (((partsN ((r1_ ++ r2_).size : Int)) - 1) - ((k : Int) % (partsN ((r1_ ++ r2_).size : Int)))) (strOf ((((partS (r1_ ++ r2_) (((partsN ((r1_ ++ r2_).size : Int)) - 1) - ((k : Int) % (partsN ((r1_ ++ r2_).size : Int))))).1).data.toList).set 0 (e5 ^^^ 1))) (by rw [hst.2.2.2.1]; exact st_small hsz _ _) (by omega)) Try.call20 false [] [(3600, 0)] [(2760, 1, ((((putP p (((partsN ((r1_ ++ r2_).size : Int)) - 1) - ((k : Int) % (partsN ((r1_ ++ r2_).size : Int)))) ((partS (r1_ ++ r2_) (((partsN ((r1_ ++ r2_).size : Int)) - 1) - ((k : Int) % (partsN ((r1_ ++ r2_).size : Int))))).1)).1).parts).map encS))] ⟨rfl, ⟨9, ((((putP p (((partsN ((r1_ ++ r2_).size : Int)) - 1) - ((k : Int) % (partsN ((r1_ ++ r2_).size : Int)))) ((partS (r1_ ++ r2_) (((partsN ((r1_ ++ r2_).size : Int)) - 1) - ((k : Int) % (partsN ((r1_ ++ r2_).size : Int))))).1)).1).parts).map encS), by kernel_rfl, FrzIs.same (allP_encS _)⟩, trivial⟩ ?_
       refine At.z 6 ?_
       refine AW.q 2 ?_
       refine AW.condF (((putP ((putP p (((partsN ((r1_ ++ r2_).size : Int)) - 1) - ((k : Int) % (partsN ((r1_ ++ r2_).size : Int)))) ((partS (r1_ ++ r2_) (((partsN ((r1_ ++ r2_).size : Int)) - 1) - ((k : Int) % (partsN ((r1_ ++ r2_).size : Int))))).1)).1) (((partsN ((r1_ ++ r2_).size : Int)) - 1) - ((k : Int) % (partsN ((r1_ ++ r2_).size : Int)))) (strOf ((((partS (r1_ ++ r2_) (((partsN ((r1_ ++ r2_).size : Int)) - 1) - ((k : Int) % (partsN ((r1_ ++ r2_).size : Int))))).1).data.toList).set 0 (e5 ^^^ 1)))).2) != 3) (by kernel_rfl) (by rw [bne_eq_false_iff_eq]; exact hst.2.2.2.2.2.2 _ (par_ne he5).1 (par_ne he5).2) ?_
       refine AW.skip ?_
       refine AW.g ?_
       refine At.a 2 ?_
       refine At.sI 64 ((k : Int) + 1) (by omega) ?_
       refine At.z 1 ?_
       exact ⟨(k + 1, ((putP p (((partsN ((r1_ ++ r2_).size : Int)) - 1) - ((k : Int) % (partsN ((r1_ ++ r2_).size : Int)))) ((partS (r1_ ++ r2_) (((partsN ((r1_ ++ r2_).size : Int)) - 1) - ((k : Int) % (partsN ((r1_ ++ r2_).size : Int))))).1)).1)), ⟨by omega, hst.2.2.2.1⟩, (by simp only; omega), Sub.o [(104, 104), (2760, 1740)] [true, false, false, true, true, false, true, true]⟩
     refine At.sB 102 _ _ (sayF h9) ?_
     refine At.a 9 ?_
     refine At.sB 111 (decide ((k : Int) ≥ (partsN ((r1_ ++ r2_).size : Int)))) true (sayB (decide_eq_true (by omega))) ?_
     refine At.z 4 ?_
     refine AW.condF (((putP p (((partsN ((r1_ ++ r2_).size : Int)) - 1) - ((k : Int) % (partsN ((r1_ ++ r2_).size : Int)))) ((partS (r1_ ++ r2_) (((partsN ((r1_ ++ r2_).size : Int)) - 1) - ((k : Int) % (partsN ((r1_ ++ r2_).size : Int))))).1)).2) != 2) (by kernel_rfl) (by rw [bne_eq_false_iff_eq]; exact hst.2.2.2.2.2.1 (by omega)) ?_
     refine AW.skip ?_
     refine AW.q 2 ?_
     refine AW.r ?_
     refine At.a 1 ?_
     refine At.s2bO (s := 9) (t := 32) (e := 5) (d := 118) (x := .tmp 117) (b := (partS (r1_ ++ r2_) (((partsN ((r1_ ++ r2_).size : Int)) - 1) - ((k : Int) % (partsN ((r1_ ++ r2_).size : Int))))).1) 218 (by kernel_rfl) (by kernel_rfl) (by kernel_rfl) (by kernel_rfl) (by kernel_rfl) ?_
     refine At.z 1 ?_
     refine AW.r ?_
     refine At.a 2 ?_
     refine At.idxRaw (t := 32) (d := 121) (x := .tmp 120) (y := .const (.int .i64 0)) (e := 5) (e' := 5) (j := 218) (l := (((partS (r1_ ++ r2_) (((partsN ((r1_ ++ r2_).size : Int)) - 1) - ((k : Int) % (partsN ((r1_ ++ r2_).size : Int))))).1).data.toList)) (kd := .i64) (i := 0) (by kernel_rfl) (by kernel_rfl) (by kernel_rfl) (by kernel_rfl) (by kernel_rfl) (by omega) (raw_pos hst.2.1) ?_
     refine Exists.elim (gE (((partS (r1_ ++ r2_) (((partsN ((r1_ ++ r2_).size : Int)) - 1) - ((k : Int) % (partsN ((r1_ ++ r2_).size : Int))))).1).data.toList) 0 (raw_pos hst.2.1)) fun e6 he6 => ?_
     refine At.ldRaw (t := 5) (d := 122) (i := 218) (e := 5) (j := 0) (x := .tmp 121) (l := (((partS (r1_ ++ r2_) (((partsN ((r1_ ++ r2_).size : Int)) - 1) - ((k : Int) % (partsN ((r1_ ++ r2_).size : Int))))).1).data.toList)) e6 (by kernel_rfl) (by kernel_rfl) (by kernel_rfl) (by kernel_rfl) (by kernel_rfl) he6 ?_
     refine At.bits (t := 5) (u := 5) (d := 123) (op := .xor) (x := .tmp 122) (y := .const (.int .u8 1)) (kd := .u8) (a := (e6.toNat : Int)) (b := 1) ((e6 ^^^ 1).toNat : Int) (by kernel_rfl) (by kernel_rfl) (by kernel_rfl) (by kernel_rfl) (xor_u8 _ 1) ?_
     refine At.idxRaw (t := 32) (d := 124) (x := .tmp 119) (y := .const (.int .i64 0)) (e := 5) (e' := 5) (j := 218) (l := (((partS (r1_ ++ r2_) (((partsN ((r1_ ++ r2_).size : Int)) - 1) - ((k : Int) % (partsN ((r1_ ++ r2_).size : Int))))).1).data.toList)) (kd := .i64) (i := 0) (by kernel_rfl) (by kernel_rfl) (by kernel_rfl) (by kernel_rfl) (by kernel_rfl) (by omega) (raw_pos hst.2.1) ?_
     refine At.stRaw (t := 5) (i := 218) (e := 5) (j := 0) (x := .tmp 124) (y := .tmp 123) (l := (((partS (r1_ ++ r2_) (((partsN ((r1_ ++ r2_).size : Int)) - 1) - ((k : Int) % (partsN ((r1_ ++ r2_).size : Int))))).1).data.toList)) (e6 ^^^ 1) (by kernel_rfl) (by kernel_rfl) (by kernel_rfl) (by kernel_rfl) (by kernel_rfl) (raw_pos hst.2.1) ?_
     refine At.done rfl ?_
     refine AW.r ?_
     refine At.a 3 ?_
     refine At.b2sRaw (s := 32) (t := 9) (e := 5) (d := 129) (i := 218) (x := .tmp 128) (l := ((((partS (r1_ ++ r2_) (((partsN ((r1_ ++ r2_).size : Int)) - 1) - ((k : Int) % (partsN ((r1_ ++ r2_).size : Int))))).1).data.toList).set 0 (e6 ^^^ 1))) (by kernel_rfl) (by kernel_rfl) (by kernel_rfl) (by kernel_rfl) (by kernel_rfl) ?_
     refine At.c (impl_ParcelPut_spec  ((putP p (((partsN ((r1_ ++ r2_).size : Int)) - 1) - ((k : Int) % (partsN ((r1_ ++ r2_).size : Int)))) ((partS (r1_ ++ r2_) (((partsN ((r1_ ++ r2_).size : Int)) - 1) - ((k : Int) % (partsN ((r1_ ++ r2_).size : Int))))).1)).1) (((partsN ((r1_ ++ r2_).size : Int)) - 1) - ((k : Int) % (partsN ((r1_ ++ r2_).size : Int)))) (strOf ((((partS (r1_ ++ r2_) (((partsN ((r1_ ++ r2_).size : Int)) - 1) - ((k : Int) % (partsN ((r1_ ++ r2_).size : Int))))).1).data.toList).set 0 (e6 ^^^ 1))) (by rw [hst.2.2.2.1]; exact st_small hsz _ _) (by omega)) Try.call20 false [] [(3600, 0)] [(2760, 1, ((((putP p (((partsN ((r1_ ++ r2_).size : Int)) - 1) - ((k : Int) % (partsN ((r1_ ++ r2_).size : Int)))) ((partS (r1_ ++ r2_) (((partsN ((r1_ ++ r2_).size : Int)) - 1) - ((k : Int) % (partsN ((r1_ ++ r2_).size : Int))))).1)).1).parts).map encS))] ⟨rfl, ⟨9, ((((putP p (((partsN ((r1_ ++ r2_).size : Int)) - 1) - ((k : Int) % (partsN ((r1_ ++ r2_).size : Int)))) ((partS (r1_ ++ r2_) (((partsN ((r1_ ++ r2_).size : Int)) - 1) - ((k : Int) % (partsN ((r1_ ++ r2_).size : Int))))).1)).1).parts).map encS), by kernel_rfl, FrzIs.same (allP_encS _)⟩, trivial⟩ ?_
     refine At.z 6 ?_
     refine AW.q 2 ?_
     refine AW.condF (((putP ((putP p (((partsN ((r1_ ++ r2_).size : Int)) - 1) - ((k : Int) % (partsN ((r1_ ++ r2_).size : Int)))) ((partS (r1_ ++ r2_) (((partsN ((r1_ ++ r2_).size : Int)) - 1) - ((k : Int) % (partsN ((r1_ ++ r2_).size : Int))))).1)).1) (((partsN ((r1_ ++ r2_).size : Int)) - 1) - ((k : Int) % (partsN ((r1_ ++ r2_).size : Int)))) (strOf ((((partS (r1_ ++ r2_) (((partsN ((r1_ ++ r2_).size : Int)) - 1) - ((k : Int) % (partsN ((r1_ ++ r2_).size : Int))))).1).data.toList).set 0 (e6 ^^^ 1)))).2) != 3) (by kernel_rfl) (by rw [bne_eq_false_iff_eq]; exact hst.2.2.2.2.2.2 _ (par_ne he6).1 (par_ne he6).2) ?_
     refine AW.skip ?_
     refine AW.g ?_
     refine At.a 2 ?_
     refine At.sI 64 ((k : Int) + 1) (by omega) ?_
     refine At.z 1 ?_
     exact ⟨(k + 1, ((putP p (((partsN ((r1_ ++ r2_).size : Int)) - 1) - ((k : Int) % (partsN ((r1_ ++ r2_).size : Int)))) ((partS (r1_ ++ r2_) (((partsN ((r1_ ++ r2_).size : Int)) - 1) - ((k : Int) % (partsN ((r1_ ++ r2_).size : Int))))).1)).1)), ⟨by omega, hst.2.2.2.1⟩, (by simp only; omega), Sub.o [(104, 104), (2760, 1740)] [true, false, false, true, true, false, true, true]⟩
   have hix := (ix_int (a := decide (atF code 1 % 2 = 0)) hkn).1 (decide_eq_false h8)
   rw [← hpi] at hix
   have hst := par_step hsz hp hkn hix
   have hxl := ix_lt (a := decide (atF code 1 % 2 = 0)) hkn
   refine AW.skip ?_
   refine AW.r ?_
   refine At.a 2 ?_
   refine At.c (impl_PartOf_spec  (r1_ ++ r2_) ((k : Int) % (partsN ((r1_ ++ r2_).size : Int))) hsz (by omega)) Try.call19 true [] [] [] trivial ?_
   refine At.z 5 ?_
   refine AW.r ?_
   refine At.a 3 ?_
   refine At.c (impl_ParcelPut_spec  p ((k : Int) % (partsN ((r1_ ++ r2_).size : Int))) ((partS (r1_ ++ r2_) ((k : Int) % (partsN ((r1_ ++ r2_).size : Int)))).1) (by rw [hp]; exact st_small hsz _ _) (by omega)) Try.call20 false [] [(2760, 0)] [(1740, 1, (p.parts.map encS))] ⟨rfl, ⟨9, (p.parts.map encS), by kernel_rfl, FrzIs.same (allP_encS _)⟩, trivial⟩ ?_
   refine At.z 6 ?_
   refine AW.seq ?_
   refine AW.r ?_
   refine At.a 3 ?_
   refine At.sB 93 (!((partS (r1_ ++ r2_) ((k : Int) % (partsN ((r1_ ++ r2_).size : Int)))).2)) false (sayB (by rw [show ((partS (r1_ ++ r2_) ((k : Int) % (partsN ((r1_ ++ r2_).size : Int)))).2) = true from hst.1]; rfl)) ?_
   refine At.a 5 ?_
   refine At.sB 98 ((((partS (r1_ ++ r2_) ((k : Int) % (partsN ((r1_ ++ r2_).size : Int)))).1).size : Int) == 0) false (sayB (beq_eq_false_iff_ne.2 (by have := hst.2.1; omega))) ?_
   refine At.a 4 ?_
   by_cases h10 : (k : Int) < (partsN ((r1_ ++ r2_).size : Int))
   · refine At.sB 102 _ _ (sayT h10) ?_
     refine At.a 5 ?_
     refine At.sB 107 (((putP p ((k : Int) % (partsN ((r1_ ++ r2_).size : Int))) ((partS (r1_ ++ r2_) ((k : Int) % (partsN ((r1_ ++ r2_).size : Int)))).1)).2) != 0) false (sayB (by rw [bne_eq_false_iff_eq]; exact hst.2.2.2.2.1 (by omega))) ?_
     refine At.a 4 ?_
     refine At.sB 111 (decide ((k : Int) ≥ (partsN ((r1_ ++ r2_).size : Int)))) false (sayB (decide_eq_false (by omega))) ?_
     refine At.z 4 ?_
     refine AW.cond false (by kernel_rfl) (fun h => by cases h) (fun _ => ?_)
     refine AW.skip ?_
     refine AW.q 2 ?_
     refine AW.r ?_
     refine At.a 1 ?_
     refine At.s2bO (s := 9) (t := 32) (e := 5) (d := 118) (x := .tmp 117) (b := (partS (r1_ ++ r2_) ((k : Int) % (partsN ((r1_ ++ r2_).size : Int)))).1) 218 (by kernel_rfl) (by kernel_rfl) (by kernel_rfl) (by kernel_rfl) (by kernel_rfl) ?_
     refine At.z 1 ?_
     refine AW.r ?_
     refine At.a 2 ?_
     refine At.idxRaw (t := 32) (d := 121) (x := .tmp 120) (y := .const (.int .i64 0)) (e := 5) (e' := 5) (j := 218) (l := (((partS (r1_ ++ r2_) ((k : Int) % (partsN ((r1_ ++ r2_).size : Int)))).1).data.toList)) (kd := .i64) (i := 0) (by kernel_rfl) (by kernel_rfl) (by kernel_rfl) (by kernel_rfl) (by kernel_rfl) (by omega) (raw_pos hst.2.1) ?_
     refine Exists.elim (gE (((partS (r1_ ++ r2_) ((k : Int) % (partsN ((r1_ ++ r2_).size : Int)))).1).data.toList) 0 (raw_pos hst.2.1)) fun e7 he7 => ?_
     refine At.ldRaw (t := 5) (d := 122) (i := 218) (e := 5) (j := 0) (x := .tmp 121) (l := (((partS (r1_ ++ r2_) ((k : Int) % (partsN ((r1_ ++ r2_).size : Int)))).1).data.toList)) e7 (by kernel_rfl) (by kernel_rfl) (by kernel_rfl) (by kernel_rfl) (by kernel_rfl) he7 ?_
     refine At.bits (t := 5) (u := 5) (d := 123) (op := .xor) (x := .tmp 122) (y := .const (.int .u8 1)) (kd := .u8) (a := (e7.toNat : Int)) (b := 1) ((e7 ^^^ 1).toNat : Int) (by kernel_rfl) (by kernel_rfl) (by kernel_rfl) (by kernel_rfl) (xor_u8 _ 1) ?_
     refine At.idxRaw (t := 32) (d := 124) (x := .tmp 119) (y := .const (.int .i64 0)) (e := 5) (e' := 5) (j := 218) (l := (((partS (r1_ ++ r2_) ((k : Int) % (partsN ((r1_ ++ r2_).size : Int)))).1).data.toList)) (kd := .i64) (i := 0) (by kernel_rfl) (by kernel_rfl) (by kernel_rfl) (by kernel_rfl) (by kernel_rfl) (by omega) (raw_pos hst.2.1) ?_
     refine At.stRaw (t := 5) (i := 218) (e := 5) (j := 0) (x := .tmp 124) (y := .tmp 123) (l := (((partS (r1_ ++ r2_) ((k : Int) % (partsN ((r1_ ++ r2_).size : Int)))).1).data.toList)) (e7 ^^^ 1) (by kernel_rfl) (by kernel_rfl) (by kernel_rfl) (by kernel_rfl) (by kernel_rfl) (raw_pos hst.2.1) ?_
     refine At.done rfl ?_
     refine AW.r ?_
     refine At.a 3 ?_
     refine At.b2sRaw (s := 32) (t := 9) (e := 5) (d := 129) (i := 218) (x := .tmp 128) (l := ((((partS (r1_ ++ r2_) ((k : Int) % (partsN ((r1_ ++ r2_).size : Int)))).1).data.toList).set 0 (e7 ^^^ 1))) (by kernel_rfl) (by kernel_rfl) (by kernel_rfl) (by kernel_rfl) (by kernel_rfl) ?_
     refine At.c (impl_ParcelPut_spec  ((putP p ((k : Int) % (partsN ((r1_ ++ r2_).size : Int))) ((partS (r1_ ++ r2_) ((k : Int) % (partsN ((r1_ ++ r2_).size : Int)))).1)).1) ((k : Int) % (partsN ((r1_ ++ r2_).size : Int))) (strOf ((((partS (r1_ ++ r2_) ((k : Int) % (partsN ((r1_ ++ r2_).size : Int)))).1).data.toList).set 0 (e7 ^^^ 1))) (by rw [hst.2.2.2.1]; exact st_small hsz _ _) (by omega)) Try.call20 false [] [(3600, 0)] [(2760, 1, ((((putP p ((k : Int) % (partsN ((r1_ ++ r2_).size : Int))) ((partS (r1_ ++ r2_) ((k : Int) % (partsN ((r1_ ++ r2_).size : Int)))).1)).1).parts).map encS))] ⟨rfl, ⟨9, ((((putP p ((k : Int) % (partsN ((r1_ ++ r2_).size : Int))) ((partS (r1_ ++ r2_) ((k : Int) % (partsN ((r1_ ++ r2_).size : Int)))).1)).1).parts).map encS), by kernel_rfl, FrzIs.same (allP_encS _)⟩, trivial⟩ ?_
     refine At.z 6 ?_
     refine AW.q 2 ?_
     refine AW.condF (((putP ((putP p ((k : Int) % (partsN ((r1_ ++ r2_).size : Int))) ((partS (r1_ ++ r2_) ((k : Int) % (partsN ((r1_ ++ r2_).size : Int)))).1)).1) ((k : Int) % (partsN ((r1_ ++ r2_).size : Int))) (strOf ((((partS (r1_ ++ r2_) ((k : Int) % (partsN ((r1_ ++ r2_).size : Int)))).1).data.toList).set 0 (e7 ^^^ 1)))).2) != 3) (by kernel_rfl) (by rw [bne_eq_false_iff_eq]; exact hst.2.2.2.2.2.2 _ (par_ne he7).1 (par_ne he7).2) ?_
     refine AW.skip ?_
     refine AW.g ?_
     refine At.a 2 ?_
     refine At.sI 64 ((k : Int) + 1) (by omega) ?_
     refine At.z 1 ?_
     exact ⟨(k + 1, ((putP p ((k : Int) % (partsN ((r1_ ++ r2_).size : Int))) ((partS (r1_ ++ r2_) ((k : Int) % (partsN ((r1_ ++ r2_).size : Int)))).1)).1)), ⟨by omega, hst.2.2.2.1⟩, (by simp only; omega), Sub.o [(104, 104), (2760, 1740)] [true, false, false, true, true, false, true, true]⟩
   refine At.sB 102 _ _ (sayF h10) ?_
   refine At.a 9 ?_
   refine At.sB 111 (decide ((k : Int) ≥ (partsN ((r1_ ++ r2_).size : Int)))) true (sayB (decide_eq_true (by omega))) ?_
   refine At.z 4 ?_
   refine AW.condF (((putP p ((k : Int) % (partsN ((r1_ ++ r2_).size : Int))) ((partS (r1_ ++ r2_) ((k : Int) % (partsN ((r1_ ++ r2_).size : Int)))).1)).2) != 2) (by kernel_rfl) (by rw [bne_eq_false_iff_eq]; exact hst.2.2.2.2.2.1 (by omega)) ?_
   refine AW.skip ?_
   refine AW.q 2 ?_
   refine AW.r ?_
   refine At.a 1 ?_
   refine At.s2bO (s := 9) (t := 32) (e := 5) (d := 118) (x := .tmp 117) (b := (partS (r1_ ++ r2_) ((k : Int) % (partsN ((r1_ ++ r2_).size : Int)))).1) 218 (by kernel_rfl) (by kernel_rfl) (by kernel_rfl) (by kernel_rfl) (by kernel_rfl) ?_
   refine At.z 1 ?_
   refine AW.r ?_
   refine At.a 2 ?_
   refine At.idxRaw (t := 32) (d := 121) (x := .tmp 120) (y := .const (.int .i64 0)) (e := 5) (e' := 5) (j := 218) (l := (((partS (r1_ ++ r2_) ((k : Int) % (partsN ((r1_ ++ r2_).size : Int)))).1).data.toList)) (kd := .i64) (i := 0) (by kernel_rfl) (by kernel_rfl) (by kernel_rfl) (by kernel_rfl) (by kernel_rfl) (by omega) (raw_pos hst.2.1) ?_
   refine Exists.elim (gE (((partS (r1_ ++ r2_) ((k : Int) % (partsN ((r1_ ++ r2_).size : Int)))).1).data.toList) 0 (raw_pos hst.2.1)) fun e8 he8 => ?_
   refine At.ldRaw (t := 5) (d := 122) (i := 218) (e := 5) (j := 0) (x := .tmp 121) (l := (((partS (r1_ ++ r2_) ((k : Int) % (partsN ((r1_ ++ r2_).size : Int)))).1).data.toList)) e8 (by kernel_rfl) (by kernel_rfl) (by kernel_rfl) (by kernel_rfl) (by kernel_rfl) he8 ?_
   refine At.bits (t := 5) (u := 5) (d := 123) (op := .xor) (x := .tmp 122) (y := .const (.int .u8 1)) (kd := .u8) (a := (e8.toNat : Int)) (b := 1) ((e8 ^^^ 1).toNat : Int) (by kernel_rfl) (by kernel_rfl) (by kernel_rfl) (by kernel_rfl) (xor_u8 _ 1) ?_
   refine At.idxRaw (t := 32) (d := 124) (x := .tmp 119) (y := .const (.int .i64 0)) (e := 5) (e' := 5) (j := 218) (l := (((partS (r1_ ++ r2_) ((k : Int) % (partsN ((r1_ ++ r2_).size : Int)))).1).data.toList)) (kd := .i64) (i := 0) (by kernel_rfl) (by kernel_rfl) (by kernel_rfl) (by kernel_rfl) (by kernel_rfl) (by omega) (raw_pos hst.2.1) ?_
   refine At.stRaw (t := 5) (i := 218) (e := 5) (j := 0) (x := .tmp 124) (y := .tmp 123) (l := (((partS (r1_ ++ r2_) ((k : Int) % (partsN ((r1_ ++ r2_).size : Int)))).1).data.toList)) (e8 ^^^ 1) (by kernel_rfl) (by kernel_rfl) (by kernel_rfl) (by kernel_rfl) (by kernel_rfl) (raw_pos hst.2.1) ?_
   refine At.done rfl ?_
   refine AW.r ?_
   refine At.a 3 ?_
   refine At.b2sRaw (s := 32) (t := 9) (e := 5) (d := 129) (i := 218) (x := .tmp 128) (l := ((((partS (r1_ ++ r2_) ((k : Int) % (partsN ((r1_ ++ r2_).size : Int)))).1).data.toList).set 0 (e8 ^^^ 1))) (by kernel_rfl) (by kernel_rfl) (by kernel_rfl) (by kernel_rfl) (by kernel_rfl) ?_
   refine At.c (impl_ParcelPut_spec  ((putP p ((k : Int) % (partsN ((r1_ ++ r2_).size : Int))) ((partS (r1_ ++ r2_) ((k : Int) % (partsN ((r1_ ++ r2_).size : Int)))).1)).1) ((k : Int) % (partsN ((r1_ ++ r2_).size : Int))) (strOf ((((partS (r1_ ++ r2_) ((k : Int) % (partsN ((r1_ ++ r2_).size : Int)))).1).data.toList).set 0 (e8 ^^^ 1))) (by rw [hst.2.2.2.1]; exact st_small hsz _ _) (by omega)) Try.call20 false [] [(3600, 0)] [(2760, 1, ((((putP p ((k : Int) % (partsN ((r1_ ++ r2_).size : Int))) ((partS (r1_ ++ r2_) ((k : Int) % (partsN ((r1_ ++ r2_).size : Int)))).1)).1).parts).map encS))] ⟨rfl, ⟨9, ((((putP p ((k : Int) % (partsN ((r1_ ++ r2_).size : Int))) ((partS (r1_ ++ r2_) ((k : Int) % (partsN ((r1_ ++ r2_).size : Int)))).1)).1).parts).map encS), by kernel_rfl, FrzIs.same (allP_encS _)⟩, trivial⟩ ?_
   refine At.z 6 ?_
   refine AW.q 2 ?_
   refine AW.condF (((putP ((putP p ((k : Int) % (partsN ((r1_ ++ r2_).size : Int))) ((partS (r1_ ++ r2_) ((k : Int) % (partsN ((r1_ ++ r2_).size : Int)))).1)).1) ((k : Int) % (partsN ((r1_ ++ r2_).size : Int))) (strOf ((((partS (r1_ ++ r2_) ((k : Int) % (partsN ((r1_ ++ r2_).size : Int)))).1).data.toList).set 0 (e8 ^^^ 1)))).2) != 3) (by kernel_rfl) (by rw [bne_eq_false_iff_eq]; exact hst.2.2.2.2.2.2 _ (par_ne he8).1 (par_ne he8).2) ?_
   refine AW.skip ?_
   refine AW.g ?_
   refine At.a 2 ?_
   refine At.sI 64 ((k : Int) + 1) (by omega) ?_
   refine At.z 1 ?_
   exact ⟨(k + 1, ((putP p ((k : Int) % (partsN ((r1_ ++ r2_).size : Int))) ((partS (r1_ ++ r2_) ((k : Int) % (partsN ((r1_ ++ r2_).size : Int)))).1)).1)), ⟨by omega, hst.2.2.2.1⟩, (by simp only; omega), Sub.o [(104, 104), (2760, 1740)] [true, false, false, true, true, false, true, true]⟩
 have hend := par_end hsz hp (par_ge hpi h7)
 refine AW.exit ?_
 refine AW.r ?_
 refine At.a 1 ?_
 refine At.c (impl_ParcelWhole_spec  p (by rw [hp]; exact st_small hsz _ _)) Try.call8 false [] [] [(1740, 1, (p.parts.map encS))] ⟨rfl, ⟨9, (p.parts.map encS), by kernel_rfl, FrzIs.same (allP_encS _)⟩, trivial⟩ ?_
 refine At.z 5 ?_
 refine AW.r ?_
 refine At.a 3 ?_
 refine At.sB 142 (((wholeP p).2) == 0) true (sayB (by rw [hend.1]; rfl)) ?_
 refine At.a 5 ?_
 refine At.sB 147 (((wholeP p).1).toList == (r1_ ++ r2_).toList) true (sayB (by rw [hend.1]; exact beq_self_eq_true _)) ?_
 refine At.a 1 ?_
 refine At.c (impl_ParcelLacks_spec  p (by rw [hp]; exact st_small hsz _ _)) Try.call17 false [] [(3980, 0)] [(1740, 1, (p.parts.map encS))] ⟨rfl, ⟨9, (p.parts.map encS), by kernel_rfl, FrzIs.same (allP_encS _)⟩, trivial⟩ ?_
 refine At.a 1 ?_
 refine At.sL 150 encI (lacksI p) ?_
 refine At.z 3 ?_
 refine AW.ret ?_
 refine ⟨_, Sub.refl _ _, ?_⟩
 refine KF.conv (fun w => .bool w) (fun w => []) (show (((lacksI p).length : Int) == 0) = (true) from by rw [hend.2]; rfl) ?_
 exact KF.n []
end Go.Proofs.Ytdpcdcogbmkffaa
