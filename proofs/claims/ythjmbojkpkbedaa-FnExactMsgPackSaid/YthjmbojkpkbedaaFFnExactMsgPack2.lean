/- The contracts of the functions that FnExactMsgPack reaches (each: what it answers, said over values), printed by a program of this session (wip/sy/g/gen.py). -/
import Derived.Test.YthjmbojkpkbedaaFFnExactMsgPack1
set_option linter.unusedVariables false
set_option linter.unusedSimpArgs false
set_option maxRecDepth 100000
set_option maxHeartbeats 4000000
namespace Go.Proofs.Ythjmbojkpkbedaa
open Go Go.Sy Go.Proofs
theorem impl_MsgFits_spec  (m : Msg) (hl : m.entries.length ≤ 1048576) : FnSpec Try.prog 35 [(msgA m)] [] (.bool (msgFits m)) [] := by
 have hfs := fieldsL_small m.kind
 refine FnSpec.of 30 Try.func35 rfl Try.ntmps35 (by simp) (AW.weakK ?_)
 refine AW.q 2 ?_
 refine AW.r ?_
 refine At.a 2 ?_
 refine At.c (impl_fieldsOf_spec  m.kind ) Try.call37 true [] [] [] trivial ?_
 refine At.z 1 ?_
 refine AW.q 3 ?_
 refine AW.seq ?_
 refine AW.q 3 ?_
 refine AW.block ?_
 refine AW.loopW (fun (x : Nat × Msg) => match x with | (k, q) => Go.Sy.mk [.un, .ptr 101 0 0, .un, .str (fieldsL m.kind), .ptr 104 0 0, .un, .un, .un, .un, .un, .un, .int .i64 ((fieldsL m.kind).size : Int), .int .i64 (k : Int)] [(101, .box 34 [.int .i64 m.kind, .int .i64 m.from_, .int .i64 m.term, .int .i64 m.at_, .int .i64 m.atTerm, .int .i64 m.commit, .bool m.yes, .int .i64 m.release, .int .i64 m.part, .str m.bytes, .int .i64 m.cmd.kind, .int .i64 m.cmd.release, .int .i64 m.cmd.node, .int .i64 m.cmd.size, .str m.cmd.digest, .sl false 6 (m.entries.map encEnt)]), (104, .box 34 [.int .i64 q.kind, .int .i64 q.from_, .int .i64 q.term, .int .i64 q.at_, .int .i64 q.atTerm, .int .i64 q.commit, .bool q.yes, .int .i64 q.release, .int .i64 q.part, .str q.bytes, .int .i64 q.cmd.kind, .int .i64 q.cmd.release, .int .i64 q.cmd.node, .int .i64 q.cmd.size, .str q.cmd.digest, .sl false 6 (q.entries.map encEnt)])]) (fun (x : Nat × Msg) => match x with | (k, q) => k ≤ (fieldsL m.kind).size ∧ q.entries.length ≤ 1048576 ∧ runTake m.kind (fieldsL m.kind).data.toList m = runTake m.kind ((fieldsL m.kind).data.toList.drop k) q) (fun (x : Nat × Msg) => match x with | (k, q) => (fieldsL m.kind).size - k) (0, m) ⟨by omega, hl, by rw [List.drop_zero]⟩ (Sub.o [(101, 101), (104, 104)] [false, true, false, true, true, false, false, false, false, false, false, true, true]) ?_
 rintro ⟨k, q⟩ ⟨hk, hq, hR⟩
 refine AW.q 1 ?_
 refine AW.seq ?_
 refine AW.cD ((k : Int) < ((fieldsL m.kind).size : Int)) (fun h1 => ?_) (fun h1 => ?_)
 · refine AW.skip ?_
   refine AW.seq ?_
   refine AW.block ?_
   refine AW.q 2 ?_
   refine AW.r ?_
   refine At.a 2 ?_
   refine Exists.elim (show ∃ e, (fieldsL m.kind).data[k]? = some e from ⟨_, Array.getElem?_eq_getElem (by show _ < (fieldsL m.kind).size; omega)⟩) fun e1 he1 => ?_
   have hl1 : (fieldsL m.kind).data.toList[k]? = some e1 := by simpa using he1
   refine At.idxStr (t := 9) (d := 17) (x := .tmp 15) (y := .tmp 16) (s := fieldsL m.kind) (kd := .i64) (i := (k : Int)) e1 (by kernel_rfl) (by kernel_rfl) (by kernel_rfl) (by kernel_rfl) (by omega) he1 ?_
   refine At.c (impl_Msg_take_spec  q e1 (by omega)) Try.call66 true [(104, 0)] [] [] trivial ?_
   refine At.z 1 ?_
   refine AW.cNB (takeOk q e1.toNat) (fun h2 => ?_) (fun h2 => ?_)
   · refine AW.q 1 ?_
     refine AW.ret ?_
     refine ⟨_, Sub.refl _ _, ?_⟩
     refine KF.conv (fun w => .bool w) (fun w => []) (show (false) = (msgFits m) from by rw [fits_run, hR, dropCons hl1, runTake]; simp [h1, h2]) ?_
     exact KF.n []
   refine AW.skip ?_
   refine AW.g ?_
   refine At.a 1 ?_
   refine At.sI 20 ((k : Int) + 1) (by omega) ?_
   refine At.z 1 ?_
   exact ⟨(k + 1, (takeM q e1.toNat)), ⟨by omega, takeM_small hq _, by rw [hR, dropCons hl1, runTake]; simp only [*, Bool.true_and]⟩, (by simp only; omega), Sub.o [(101, 101), (104, 104)] [false, true, false, true, true, false, false, false, false, false, false, true, true]⟩
 refine AW.exit ?_
 refine AW.r ?_
 refine At.a 3 ?_
 by_cases h3 : (fieldsL m.kind).toList = (⟨#[]⟩ : ByteArray).toList
 · refine At.sB 23 (!((fieldsL m.kind).toList == (⟨#[]⟩ : ByteArray).toList)) false (sayNF (sayET h3)) ?_
   refine At.z 7 ?_
   refine AW.ret ?_
   refine ⟨_, Sub.refl _ _, ?_⟩
   refine KF.conv (fun w => .bool w) (fun w => []) (show (false) = (msgFits m) from by rw [fits_run, show ((fieldsL m.kind).toList == []) = true from beq_iff_eq.2 (by rw [← noBytes]; assumption)]; rfl) ?_
   exact KF.n []
 refine At.sB 23 (!((fieldsL m.kind).toList == (⟨#[]⟩ : ByteArray).toList)) true (sayNT (sayEF h3)) ?_
 refine At.a 4 ?_
 refine At.c (FnSpec.nz (As := [.agg [.int .i64 q.kind, .int .i64 q.from_, .int .i64 q.term, .int .i64 q.at_, .int .i64 q.atTerm, .int .i64 q.commit, .bool q.yes, .int .i64 q.release, .int .i64 q.part, .str q.bytes, .int .i64 q.cmd.kind, .int .i64 q.cmd.release, .int .i64 q.cmd.node, .int .i64 q.cmd.size, .str q.cmd.digest, .sl false 6 (q.entries.map encEnt)], .agg [.int .i64 m.kind, .int .i64 0, .int .i64 0, .int .i64 0, .int .i64 0, .int .i64 0, .bool false, .int .i64 0, .int .i64 0, .str (⟨#[]⟩ : ByteArray), .int .i64 0, .int .i64 0, .int .i64 0, .int .i64 0, .str (⟨#[]⟩ : ByteArray), .nil]]) 6 (impl_MsgSame_spec  q (⟨m.kind, 0, 0, 0, 0, 0, false, 0, 0, (⟨#[]⟩ : ByteArray), ⟨0, 0, 0, 0, (⟨#[]⟩ : ByteArray)⟩, []⟩ : Msg) (by omega) (by simp only [List.length_map, List.length_append, List.length_take, List.length_drop, List.length_replicate, List.length_set, List.length_cons, List.length_nil]; omega))) Try.call23 true [] [] [] trivial ?_
 refine At.z 2 ?_
 refine AW.ret ?_
 refine ⟨_, Sub.refl _ _, ?_⟩
 refine KF.conv (fun w => .bool w) (fun w => []) (show (msgEq q (⟨m.kind, 0, 0, 0, 0, 0, false, 0, 0, (⟨#[]⟩ : ByteArray), ⟨0, 0, 0, 0, (⟨#[]⟩ : ByteArray)⟩, []⟩ : Msg)) = (msgFits m) from by rw [fits_run, hR, List.drop_of_length_le (by rw [Array.length_toList]; show (fieldsL m.kind).size ≤ _; omega), runTake, beq_eq_false_iff_ne.2 (by rw [← noBytes]; assumption)]; rfl) ?_
 exact KF.n []
theorem impl_PutNum_spec  (x : Int) (hx : x ≤ 4611686018427387904) : FnSpec Try.prog 36 [.int .i64 x] [] (.ref 0) [.arr 5 1 ((putI x).map encU8)] := by
 refine FnSpec.of 23 Try.func36 rfl Try.ntmps36 (by simp) (AW.weakK ?_)
 refine AW.q 1 ?_
 refine AW.seq ?_
 refine AW.q 2 ?_
 refine AW.cD (x < 0) (fun h1 => ?_) (fun h1 => ?_)
 · refine AW.q 1 ?_
   refine AW.ret ?_
   refine ⟨_, Sub.nils [⟨false, 2, none, 5001, 5, 1⟩] (by kernel_rfl), ?_⟩
   refine KF.conv (fun w => .ref 0) (fun w => [.arr 5 1 (w.map encU8)]) (show ([]) = (putI x) from by unfold putI; rw [if_pos (by omega)]) ?_
   exact KF.n [(5001, 0)]
 refine AW.skip ?_
 refine AW.r ?_
 refine At.lit0 (t := 28) (d := 6) (e := 5) (es := 1) (bytes := 1) 106 (by kernel_rfl) (by kernel_rfl) (by kernel_rfl) (by kernel_rfl) ?_
 refine At.z 1 ?_
 refine AW.seq ?_
 refine AW.block ?_
 refine AW.loopW (fun (z_ : Int × List UInt8) => match z_ with | (y, o) => Go.Sy.mk [.int .i64 y, .un, .un, .ref 106] [(106, .arr 5 1 (o.map encU8))]) (fun (z_ : Int × List UInt8) => match z_ with | (y, o) => (0 ≤ y ∧ y ≤ x) ∧ putI x = o ++ putN y) (fun (z_ : Int × List UInt8) => match z_ with | (y, o) => y.toNat) (x, []) ⟨⟨by omega, by omega⟩, by unfold putI; rw [if_neg (by omega)]; rfl⟩ (Sub.o [(106, 106)] [true, false, false, true]) ?_
 rintro ⟨y, o⟩ ⟨⟨hy, hyx⟩, hR⟩
 have hl9 := putI_len hx
 have hle := congrArg List.length hR
 rw [List.length_append] at hle
 refine AW.seq ?_
 refine AW.q 2 ?_
 refine AW.cD (y > 127) (fun h2 => ?_) (fun h2 => ?_)
 · refine AW.skip ?_
   refine AW.block ?_
   refine AW.r ?_
   refine At.a 2 ?_
   refine At.bits (t := 3) (u := 3) (d := 11) (op := .and) (x := .tmp 10) (y := .const (.int .i64 127)) (kd := .i64) (a := y) (b := 127) (y % 128) (by kernel_rfl) (by kernel_rfl) (by kernel_rfl) (by kernel_rfl) (andM 7 128 _ _ (by decide) (by decide) (by decide)) ?_
   refine At.bits (t := 3) (u := 3) (d := 12) (op := .or) (x := .tmp 11) (y := .const (.int .i64 128)) (kd := .i64) (a := y % 128) (b := 128) (bitV .or .i64 (y % 128) 128) (by kernel_rfl) (by kernel_rfl) (by kernel_rfl) (by kernel_rfl) (bitS_or _ _ _) ?_
   refine At.conv (s := 3) (t := 5) (d := 13) (x := .tmp 12) (kd := .i64) (kd' := .u8) (a := bitV .or .i64 (y % 128) 128) (.int .u8 ((u8Of (bitV .or .i64 (y % 128) 128)).toNat : Int)) (by kernel_rfl) (by kernel_rfl) (by kernel_rfl) (by kernel_rfl) (sayByte _) ?_
   refine At.ll 14 5 1 114 (56, 6) (([(u8Of (bitV .or .i64 (y % 128) 128))]).map encU8) ?_
   refine At.apK 15 5 1 1 115 106 114 encU8 o ([(u8Of (bitV .or .i64 (y % 128) 128))]) (by simp only [List.length_map, List.length_append, List.length_take, List.length_drop, List.length_replicate, List.length_set, List.length_cons, List.length_nil]; omega) ?_
   refine At.z 1 ?_
   refine AW.g ?_
   refine At.a 1 ?_
   refine At.shift (t := 3) (u := 93) (d := 17) (op := .shr) (x := .tmp 16) (y := .const (.int .u64 7)) (kd := .i64) (kd' := .u64) (a := y) (b := 7) (shV .shr .i64 y 7) (by kernel_rfl) (by kernel_rfl) (by kernel_rfl) (by kernel_rfl) (by omega) (shS_shr _ _ _) ?_
   refine At.z 1 ?_
   exact ⟨((shV .shr .i64 y 7), (o ++ ([(u8Of (bitV .or .i64 (y % 128) 128))]))), ⟨by rw [shr7]; omega, by (try rw [shr7, or128 hy]); exact putI_step hR (by omega)⟩, (by (try rw [shr7]); simp only; omega), Sub.o [(115, 106)] [true, false, false, true]⟩
 refine AW.exit ?_
 refine AW.r ?_
 refine At.a 2 ?_
 refine At.conv (s := 3) (t := 5) (d := 20) (x := .tmp 19) (kd := .i64) (kd' := .u8) (a := y) (.int .u8 ((u8Of y).toNat : Int)) (by kernel_rfl) (by kernel_rfl) (by kernel_rfl) (by kernel_rfl) (sayByte _) ?_
 refine At.ll 21 5 1 121 (56, 6) (([(u8Of y)]).map encU8) ?_
 refine At.apK 22 5 1 1 122 106 121 encU8 o ([(u8Of y)]) (by simp only [List.length_map, List.length_append, List.length_take, List.length_drop, List.length_replicate, List.length_set, List.length_cons, List.length_nil]; omega) ?_
 refine At.z 1 ?_
 refine AW.ret ?_
 refine ⟨_, Sub.refl _ _, ?_⟩
 refine KF.conv (fun w => .ref 0) (fun w => [.arr 5 1 (w.map encU8)]) (show (o ++ ([(u8Of y)])) = (putI x) from by exact putI_end hR (by omega)) ?_
 exact KF.n [(122, 0)]
theorem impl_PutText_spec  (s : ByteArray) (hs : s.size ≤ 1048576) : FnSpec Try.prog 67 [.str s] [] (.ref 0) [.arr 5 1 ((putT s).map encU8)] := by
 have hpl := putI_len (x := (s.size : Int)) (by omega)
 have hsl : s.data.toList.length = s.size := Array.length_toList
 refine FnSpec.of 11 Try.func67 rfl Try.ntmps67 (by simp) (AW.weakK ?_)
 refine AW.q 1 ?_
 refine AW.seq ?_
 refine AW.q 3 ?_
 refine AW.cD ((s.size : Int) > 3000) (fun h1 => ?_) (fun h1 => ?_)
 · refine AW.q 1 ?_
   refine AW.ret ?_
   refine ⟨_, Sub.nils [⟨false, 2, none, 5001, 5, 1⟩] (by kernel_rfl), ?_⟩
   refine KF.conv (fun w => .ref 0) (fun w => [.arr 5 1 (w.map encU8)]) (show ([]) = (putT s) from by rw [putT_no (by assumption)]) ?_
   exact KF.n [(5001, 0)]
 refine AW.skip ?_
 refine AW.r ?_
 refine At.a 2 ?_
 refine At.c (impl_PutNum_spec  (s.size : Int) (by omega)) Try.call36 true [] [(1160, 0)] [] trivial ?_
 refine At.a 1 ?_
 refine At.appStr (t := 28) (u := 9) (d := 10) (e := 5) (s := .tmp 8) (x := .tmp 9) (S := .ref 1160) (b := s) (xs := ((putI (s.size : Int)).map encU8)) 110 [1160] (((putI (s.size : Int)) ++ s.data.toList).map encU8) (by kernel_rfl) (by kernel_rfl) (by kernel_rfl) (by kernel_rfl) (by kernel_rfl) ⟨by kernel_rfl, rfl⟩ (by kernel_rfl) (by kernel_rfl) (by simp) (by simp only [List.length_map]; omega) ?_
 refine At.z 1 ?_
 refine AW.ret ?_
 refine ⟨_, Sub.refl _ _, ?_⟩
 refine KF.conv (fun w => .ref 0) (fun w => [.arr 5 1 (w.map encU8)]) (show ((putI (s.size : Int)) ++ s.data.toList) = (putT s) from by rw [putT_yes (by assumption)]) ?_
 exact KF.n [(110, 0)]
theorem impl_putNums_spec  (list : List Int) (hl : list.length ≤ 3) (hb : ∀ x ∈ list, x ≤ 4611686018427387904) : FnSpec Try.prog 90 [.sl false 1 (list.map encI)] [] (.ref 0) [.arr 5 1 ((putAll list).map encU8)] := by
 refine FnSpec.of 19 Try.func90 rfl Try.ntmps90 (by simp) (AW.weakK ?_)
 refine AW.q 1 ?_
 refine AW.r ?_
 refine At.lit0 (t := 28) (d := 6) (e := 5) (es := 1) (bytes := 1) 106 (by kernel_rfl) (by kernel_rfl) (by kernel_rfl) (by kernel_rfl) ?_
 refine At.z 1 ?_
 refine AW.seq ?_
 refine AW.r ?_
 refine At.a 2 ?_
 refine At.sL 8 encI list ?_
 refine At.z 1 ?_
 refine AW.block ?_
 refine AW.loopW (fun (x : Nat × List UInt8) => match x with | (k, o) => Go.Sy.mk [.un, .un, .un, .ref 106, .un, .un, .un, .sl false 1 (list.map encI), .int .i64 (list.length : Int), .int .i64 (k : Int)] [(106, .arr 5 1 (o.map encU8))]) (fun (x : Nat × List UInt8) => match x with | (k, o) => k ≤ list.length ∧ o.length ≤ 9 * k ∧ putAll list = o ++ putAll (list.drop k)) (fun (x : Nat × List UInt8) => match x with | (k, o) => list.length - k) (0, []) ⟨by omega, by simp, by rw [List.drop_zero]; rfl⟩ (Sub.o [(106, 106)] [false, false, false, true, false, false, false, true, true, true]) ?_
 rintro ⟨k, o⟩ ⟨hk, ho, hR⟩
 refine AW.q 1 ?_
 refine AW.seq ?_
 refine AW.cD ((k : Int) < (list.length : Int)) (fun h1 => ?_) (fun h1 => ?_)
 · refine AW.skip ?_
   refine AW.seq ?_
   refine AW.block ?_
   refine AW.r ?_
   refine At.iSl 85 11 (.tmp 7) (.tmp 9) false 1 (list.map encI) .i64 (k : Int) 3 (by omega) (by simp only [List.length_map]; omega) ?_
   refine Exists.elim (gE list k (by omega)) fun e1 he1 => ?_
   have hxe1 := hb _ (List.mem_of_getElem? he1)
   have hpe1 := putI_len hxe1
   refine At.lVp 3 12 (.tmp 11) false 1 (list.map encI) k 0 false 1 (encI e1) (.int .i64 e1) (mapGet he1) ?_
   refine At.z 1 ?_
   refine AW.g ?_
   refine At.a 2 ?_
   refine At.c (impl_PutNum_spec  e1 (by omega)) Try.call36 true [] [(1300, 0)] [] trivial ?_
   refine At.apC 16 5 1 1 116 106 1300 encU8 o (putI e1) (by omega) (allP_encU8 _) ?_
   refine At.z 1 ?_
   refine AW.g ?_
   refine At.a 1 ?_
   refine At.sI 17 ((k : Int) + 1) (by omega) ?_
   refine At.z 1 ?_
   exact ⟨(k + 1, (o ++ (putI e1))), ⟨by omega, by simp only [List.length_append]; omega, by rw [hR, dropCons he1, putAll, List.append_assoc]⟩, (by simp only; omega), Sub.o [(116, 106)] [false, false, false, true, false, false, false, true, true, true]⟩
 refine AW.exit ?_
 refine AW.q 2 ?_
 refine AW.ret ?_
 refine ⟨_, Sub.refl _ _, ?_⟩
 refine KF.conv (fun w => .ref 0) (fun w => [.arr 5 1 (w.map encU8)]) (show (o) = (putAll list) from by rw [hR, List.drop_of_length_le (by omega)]; simp [putAll]) ?_
 exact KF.n [(106, 0)]
def K_impl_CmdPack (rs : List ResultVar) (c : Cmd) (w0_ : List UInt8) (w1_ : Bool) : Exit → Sg → Prop := KF Try.prog 0 rs (.tup [.ref 0, .bool w1_]) [.arr 5 1 (w0_.map encU8)]
theorem impl_CmdPack_spec  (c : Cmd) : FnSpec Try.prog 68 [.agg [.int .i64 c.kind, .int .i64 c.release, .int .i64 c.node, .int .i64 c.size, .str c.digest]] [] (.tup [.ref 0, .bool (cmdOk c)]) [.arr 5 1 ((cmdP c).map encU8)] := by
 refine FnSpec.of 43 Try.func68 rfl Try.ntmps68 (by simp) (AW.weakK ?_)
 refine AW.q 3 ?_
 refine AW.seq ?_
 refine AW.r ?_
 refine At.a 1 ?_
 refine At.c (impl_CmdOk_spec  c ) Try.call88 true [] [] [] trivial ?_
 refine At.z 1 ?_
 refine AW.cNB (cmdOk c) (fun h1 => ?_) (fun h1 => ?_)
 · refine AW.q 2 ?_
   refine AW.ret ?_
   refine ⟨_, Sub.nils [⟨false, 2, none, 5001, 5, 1⟩] (by kernel_rfl), ?_⟩
   exact k2 (K_impl_CmdPack _ c) (show ([]) = (cmdP c) from by rw [cmdP_no (by assumption)]) (show (false) = (cmdOk c) from by simp [*]) (KF.n [(5001, 0)])
 have hci := cmdOk_in h1
 have p1 := putI_len (x := c.kind) (by omega)
 have p2 := putI_len (x := c.release) (by omega)
 have p3 := putI_len (x := c.node) (by omega)
 have p4 := putI_len (x := c.size) (by omega)
 have p5 : c.digest.data.toList.length = c.digest.size := Array.length_toList
 have p6 := putAll_len3 c.kind c.release c.size (by omega) (by omega) (by omega)
 refine AW.skip ?_
 refine AW.seq ?_
 refine AW.q 2 ?_
 refine AW.block ?_
 refine AW.q 2 ?_
 refine AW.cE c.kind (1 : Int) (fun h2 => ?_) (fun h2 => ?_)
 · refine AW.r ?_
   refine At.a 2 ?_
   refine At.c (impl_PutNum_spec  c.kind (by omega)) Try.call36 true [] [(1260, 0)] [] trivial ?_
   refine At.z 2 ?_
   exact AW.ret (rf (k2 (K_impl_CmdPack _ c) (show (putI c.kind) = (cmdP c) from by rw [cmdP_yes (by assumption)]; simp [cmdB, putAll, h1, h2]) (show (true) = (cmdOk c) from by simp [*]) (KF.n [(1260, 0)])))
 refine AW.q 2 ?_
 refine AW.cE c.kind (2 : Int) (fun h3 => ?_) (fun h3 => ?_)
 · refine AW.seq ?_
   refine AW.gD Try_mix ?_
   refine At.a 6 ?_
   refine At.ll 22 3 1 122 (56, 6) (([c.kind, c.release, c.size]).map encI) ?_
   refine At.c (impl_putNums_spec  ([c.kind, c.release, c.size]) (by simp) (by intro x hx; simp only [List.mem_cons, List.not_mem_nil, or_false] at hx; omega)) Try.call90 false [] [(1460, 0)] [(122, 1, (([c.kind, c.release, c.size]).map encI))] ⟨rfl, ⟨3, (([c.kind, c.release, c.size]).map encI), by kernel_rfl, FrzIs.same (allP_encI _)⟩, trivial⟩ ?_
   refine At.a 2 ?_
   refine At.appStr (t := 28) (u := 9) (d := 26) (e := 5) (s := .tmp 23) (x := .tmp 25) (S := .ref 1460) (b := c.digest) (xs := ((putAll ([c.kind, c.release, c.size])).map encU8)) 126 [1460] (((putAll ([c.kind, c.release, c.size])) ++ c.digest.data.toList).map encU8) (by kernel_rfl) (by kernel_rfl) (by kernel_rfl) (by kernel_rfl) (by kernel_rfl) ⟨by kernel_rfl, rfl⟩ (by kernel_rfl) (by kernel_rfl) (by simp) (by simp only [List.length_map]; omega) ?_
   refine At.zD 2 ?_
   exact AW.ret (rf (k2 (K_impl_CmdPack _ c) (show ((putAll ([c.kind, c.release, c.size])) ++ c.digest.data.toList) = (cmdP c) from by rw [cmdP_yes (by assumption)]; simp [cmdB, putAll, h1, h2, h3]) (show (true) = (cmdOk c) from by simp [*]) (KF.n [(126, 0)])))
 refine AW.q 2 ?_
 refine AW.cE c.kind (3 : Int) (fun h4 => ?_) (fun h4 => ?_)
 · refine AW.r ?_
   refine At.a 6 ?_
   refine At.ll 35 3 1 135 (56, 6) (([c.kind, c.release, c.node]).map encI) ?_
   refine At.c (impl_putNums_spec  ([c.kind, c.release, c.node]) (by simp) (by intro x hx; simp only [List.mem_cons, List.not_mem_nil, or_false] at hx; omega)) Try.call90 false [] [(1720, 0)] [(135, 1, (([c.kind, c.release, c.node]).map encI))] ⟨rfl, ⟨3, (([c.kind, c.release, c.node]).map encI), by kernel_rfl, FrzIs.same (allP_encI _)⟩, trivial⟩ ?_
   refine At.z 2 ?_
   exact AW.ret (rf (k2 (K_impl_CmdPack _ c) (show (putAll ([c.kind, c.release, c.node])) = (cmdP c) from by rw [cmdP_yes (by assumption)]; simp [cmdB, putAll, h1, h2, h3, h4]) (show (true) = (cmdOk c) from by simp [*]) (KF.n [(1720, 0)])))
 refine AW.skip ?_
 refine AW.r ?_
 refine At.a 4 ?_
 refine At.ll 41 3 1 141 (56, 6) (([c.kind, c.release]).map encI) ?_
 refine At.c (impl_putNums_spec  ([c.kind, c.release]) (by simp) (by intro x hx; simp only [List.mem_cons, List.not_mem_nil, or_false] at hx; omega)) Try.call90 false [] [(1840, 0)] [(141, 1, (([c.kind, c.release]).map encI))] ⟨rfl, ⟨3, (([c.kind, c.release]).map encI), by kernel_rfl, FrzIs.same (allP_encI _)⟩, trivial⟩ ?_
 refine At.z 2 ?_
 exact AW.ret (rf (k2 (K_impl_CmdPack _ c) (show (putAll ([c.kind, c.release])) = (cmdP c) from by rw [cmdP_yes (by assumption)]; simp [cmdB, putAll, h1, h2, h3, h4]) (show (true) = (cmdOk c) from by simp [*]) (KF.n [(1840, 0)])))
theorem impl_packEntries_spec  (list : List Ent) (hl : list.length ≤ 6) (hb : ∀ x ∈ list, x.term ≤ 4611686018427387904) : FnSpec Try.prog 69 [.sl false 6 (list.map encEnt)] [] (.ref 0) [.arr 5 1 ((packE list).map encU8)] := by
 have hln := putI_len (x := (list.length : Int)) (by omega)
 refine FnSpec.of 32 Try.func69 rfl Try.ntmps69 (by simp) (AW.weakK ?_)
 refine AW.q 1 ?_
 refine AW.r ?_
 refine At.a 2 ?_
 refine At.sL 9 encEnt list ?_
 refine At.c (impl_PutNum_spec  (list.length : Int) (by omega)) Try.call36 true [] [(1200, 0)] [] trivial ?_
 refine At.z 1 ?_
 refine AW.seq ?_
 refine AW.r ?_
 refine At.a 2 ?_
 refine At.sL 12 encEnt list ?_
 refine At.z 1 ?_
 refine AW.block ?_
 refine AW.loopW (fun (x : Nat × List UInt8) => match x with | (k, o) => Go.Sy.mk [.un, .un, .un, .ref 1200, .un, .un, .un, .un, .un, .un, .un, .sl false 6 (list.map encEnt), .int .i64 (list.length : Int), .int .i64 (k : Int)] [(1200, .arr 5 1 (o.map encU8))]) (fun (x : Nat × List UInt8) => match x with | (k, o) => k ≤ list.length ∧ o.length ≤ 77 * k + 9 ∧ packE list = o ++ entsB (list.drop k)) (fun (x : Nat × List UInt8) => match x with | (k, o) => list.length - k) (0, putI (list.length : Int)) ⟨by omega, by omega, by rw [List.drop_zero]; rfl⟩ (Sub.o [(1200, 1200)] [false, false, false, true, false, false, false, false, false, false, false, true, true, true]) ?_
 rintro ⟨k, o⟩ ⟨hk, ho, hR⟩
 refine AW.q 1 ?_
 refine AW.seq ?_
 refine AW.cD ((k : Int) < (list.length : Int)) (fun h1 => ?_) (fun h1 => ?_)
 · refine AW.skip ?_
   refine AW.seq ?_
   refine AW.block ?_
   refine AW.r ?_
   refine At.iSl 32 15 (.tmp 11) (.tmp 13) false 6 (list.map encEnt) .i64 (k : Int) 56 (by omega) (by simp only [List.length_map]; omega) ?_
   refine Exists.elim (gE list k (by omega)) fun e1 he1 => ?_
   have hxe1 := hb _ (List.mem_of_getElem? he1)
   have hpe1 := putI_len hxe1
   have hqe1 := cmdP_len e1.cmd
   refine At.lVp 56 16 (.tmp 15) false 6 (list.map encEnt) k 0 true 6 (encEnt e1) (.agg [.int .i64 e1.term, .int .i64 e1.cmd.kind, .int .i64 e1.cmd.release, .int .i64 e1.cmd.node, .int .i64 e1.cmd.size, .str e1.cmd.digest]) (mapGet he1) ?_
   refine At.z 2 ?_
   refine AW.r ?_
   refine At.a 2 ?_
   refine At.c (impl_CmdPack_spec  e1.cmd ) Try.call68 true [] [(1400, 0)] [] trivial ?_
   refine At.z 5 ?_
   refine AW.g ?_
   refine At.a 3 ?_
   refine At.c (impl_PutNum_spec  e1.term (by omega)) Try.call36 true [] [(1520, 0)] [] trivial ?_
   refine At.apC 27 5 1 1 127 1200 1520 encU8 o (putI e1.term) (by omega) (allP_encU8 _) ?_
   refine At.a 1 ?_
   refine At.apC 29 5 1 1 129 127 1400 encU8 (o ++ (putI e1.term)) (cmdP e1.cmd) (by simp only [List.length_map, List.length_append, List.length_take, List.length_drop, List.length_replicate, List.length_set, List.length_cons, List.length_nil]; omega) (allP_encU8 _) ?_
   refine At.z 1 ?_
   refine AW.g ?_
   refine At.a 1 ?_
   refine At.sI 30 ((k : Int) + 1) (by omega) ?_
   refine At.z 1 ?_
   exact ⟨(k + 1, ((o ++ (putI e1.term)) ++ (cmdP e1.cmd))), ⟨by omega, by simp only [List.length_append]; omega, by rw [hR, dropCons he1, entsB]; simp only [List.append_assoc]⟩, (by simp only; omega), Sub.o [(129, 1200)] [false, false, false, true, false, false, false, false, false, false, false, true, true, true]⟩
 refine AW.exit ?_
 refine AW.q 2 ?_
 refine AW.ret ?_
 refine ⟨_, Sub.refl _ _, ?_⟩
 refine KF.conv (fun w => .ref 0) (fun w => [.arr 5 1 (w.map encU8)]) (show (o) = (packE list) from by rw [hR, List.drop_of_length_le (by omega)]; simp [entsB]) ?_
 exact KF.n [(1200, 0)]
def K_impl_Msg_pack (rs : List ResultVar) (m : Msg) (field : UInt8) (w0_ : List UInt8) : Exit → Sg → Prop := KF Try.prog 1 rs (.ref 1) [.box 34 [.int .i64 m.kind, .int .i64 m.from_, .int .i64 m.term, .int .i64 m.at_, .int .i64 m.atTerm, .int .i64 m.commit, .bool m.yes, .int .i64 m.release, .int .i64 m.part, .str m.bytes, .int .i64 m.cmd.kind, .int .i64 m.cmd.release, .int .i64 m.cmd.node, .int .i64 m.cmd.size, .str m.cmd.digest, .sl false 6 (m.entries.map encEnt)], .arr 5 1 (w0_.map encU8)]
theorem impl_Msg_pack_spec  (m : Msg) (field : UInt8) (hk : m.entries.length ≤ 6) (hp : Packs m) : FnSpec Try.prog 38 [.ptr 0 0 0, .int .u8 (field.toNat : Int)] [.box 34 [.int .i64 m.kind, .int .i64 m.from_, .int .i64 m.term, .int .i64 m.at_, .int .i64 m.atTerm, .int .i64 m.commit, .bool m.yes, .int .i64 m.release, .int .i64 m.part, .str m.bytes, .int .i64 m.cmd.kind, .int .i64 m.cmd.release, .int .i64 m.cmd.node, .int .i64 m.cmd.size, .str m.cmd.digest, .sl false 6 (m.entries.map encEnt)]] (.ref 1) [.box 34 [.int .i64 m.kind, .int .i64 m.from_, .int .i64 m.term, .int .i64 m.at_, .int .i64 m.atTerm, .int .i64 m.commit, .bool m.yes, .int .i64 m.release, .int .i64 m.part, .str m.bytes, .int .i64 m.cmd.kind, .int .i64 m.cmd.release, .int .i64 m.cmd.node, .int .i64 m.cmd.size, .str m.cmd.digest, .sl false 6 (m.entries.map encEnt)], .arr 5 1 ((fByte m field.toNat).map encU8)] := by
 obtain ⟨b1, b2, b3, b4, b5, b6, b7, b8, b9⟩ := id hp
 refine FnSpec.of 88 Try.func38 rfl Try.ntmps38 (by simp) (AW.weakK ?_)
 refine AW.q 1 ?_
 refine AW.seq ?_
 refine AW.q 1 ?_
 refine AW.block ?_
 refine AW.q 2 ?_
 refine AW.cE (field.toNat : Int) (102 : Int) (fun h1 => ?_) (fun h1 => ?_)
 · refine AW.r ?_
   refine At.a 4 ?_
   refine At.c (impl_PutNum_spec  m.from_ (by omega)) Try.call36 true [] [(1280, 0)] [] trivial ?_
   refine At.z 1 ?_
   exact AW.ret (rf (k1 (K_impl_Msg_pack _ m field) (show (putI m.from_) = (fByte m field.toNat) from by simp only [fByte, h1, if_true, if_false] <;> rfl) (KF.n [(0, 0), (1280, 1)])))
 refine AW.q 2 ?_
 refine AW.cE (field.toNat : Int) (116 : Int) (fun h2 => ?_) (fun h2 => ?_)
 · refine AW.r ?_
   refine At.a 4 ?_
   refine At.c (impl_PutNum_spec  m.term (by omega)) Try.call36 true [] [(1420, 0)] [] trivial ?_
   refine At.z 1 ?_
   exact AW.ret (rf (k1 (K_impl_Msg_pack _ m field) (show (putI m.term) = (fByte m field.toNat) from by simp only [fByte, h1, h2, if_true, if_false] <;> rfl) (KF.n [(0, 0), (1420, 1)])))
 refine AW.q 2 ?_
 refine AW.cE (field.toNat : Int) (97 : Int) (fun h3 => ?_) (fun h3 => ?_)
 · refine AW.r ?_
   refine At.a 4 ?_
   refine At.c (impl_PutNum_spec  m.at_ (by omega)) Try.call36 true [] [(1560, 0)] [] trivial ?_
   refine At.z 1 ?_
   exact AW.ret (rf (k1 (K_impl_Msg_pack _ m field) (show (putI m.at_) = (fByte m field.toNat) from by simp only [fByte, h1, h2, h3, if_true, if_false] <;> rfl) (KF.n [(0, 0), (1560, 1)])))
 refine AW.q 2 ?_
 refine AW.cE (field.toNat : Int) (120 : Int) (fun h4 => ?_) (fun h4 => ?_)
 · refine AW.r ?_
   refine At.a 4 ?_
   refine At.c (impl_PutNum_spec  m.atTerm (by omega)) Try.call36 true [] [(1700, 0)] [] trivial ?_
   refine At.z 1 ?_
   exact AW.ret (rf (k1 (K_impl_Msg_pack _ m field) (show (putI m.atTerm) = (fByte m field.toNat) from by simp only [fByte, h1, h2, h3, h4, if_true, if_false] <;> rfl) (KF.n [(0, 0), (1700, 1)])))
 refine AW.q 2 ?_
 refine AW.cE (field.toNat : Int) (99 : Int) (fun h5 => ?_) (fun h5 => ?_)
 · refine AW.r ?_
   refine At.a 4 ?_
   refine At.c (impl_PutNum_spec  m.commit (by omega)) Try.call36 true [] [(1840, 0)] [] trivial ?_
   refine At.z 1 ?_
   exact AW.ret (rf (k1 (K_impl_Msg_pack _ m field) (show (putI m.commit) = (fByte m field.toNat) from by simp only [fByte, h1, h2, h3, h4, h5, if_true, if_false] <;> rfl) (KF.n [(0, 0), (1840, 1)])))
 refine AW.q 2 ?_
 refine AW.cE (field.toNat : Int) (121 : Int) (fun h6 => ?_) (fun h6 => ?_)
 · refine AW.seq ?_
   refine AW.q 4 ?_
   refine AW.cB (m.yes) (fun h7 => ?_) (fun h7 => ?_)
   · refine AW.r ?_
     refine At.c (impl_PutNum_spec  1 (by omega)) Try.call36 true [] [(1980, 0)] [] trivial ?_
     refine At.z 1 ?_
     exact AW.ret (rf (k1 (K_impl_Msg_pack _ m field) (show (putI 1) = (fByte m field.toNat) from by simp only [fByte, h1, h2, h3, h4, h5, h6, h7, if_true, if_false] <;> rfl) (KF.n [(0, 0), (1980, 1)])))
   refine AW.skip ?_
   refine AW.r ?_
   refine At.c (impl_PutNum_spec  0 (by omega)) Try.call36 true [] [(2000, 0)] [] trivial ?_
   refine At.z 1 ?_
   exact AW.ret (rf (k1 (K_impl_Msg_pack _ m field) (show (putI 0) = (fByte m field.toNat) from by simp only [fByte, h1, h2, h3, h4, h5, h6, h7, if_true, if_false] <;> rfl) (KF.n [(0, 0), (2000, 1)])))
 refine AW.q 2 ?_
 refine AW.cE (field.toNat : Int) (114 : Int) (fun h8 => ?_) (fun h8 => ?_)
 · refine AW.r ?_
   refine At.a 4 ?_
   refine At.c (impl_PutNum_spec  m.release (by omega)) Try.call36 true [] [(2140, 0)] [] trivial ?_
   refine At.z 1 ?_
   exact AW.ret (rf (k1 (K_impl_Msg_pack _ m field) (show (putI m.release) = (fByte m field.toNat) from by simp only [fByte, h1, h2, h3, h4, h5, h6, h8, if_true, if_false] <;> rfl) (KF.n [(0, 0), (2140, 1)])))
 refine AW.q 2 ?_
 refine AW.cE (field.toNat : Int) (112 : Int) (fun h9 => ?_) (fun h9 => ?_)
 · refine AW.r ?_
   refine At.a 4 ?_
   refine At.c (impl_PutNum_spec  m.part (by omega)) Try.call36 true [] [(2280, 0)] [] trivial ?_
   refine At.z 1 ?_
   exact AW.ret (rf (k1 (K_impl_Msg_pack _ m field) (show (putI m.part) = (fByte m field.toNat) from by simp only [fByte, h1, h2, h3, h4, h5, h6, h8, h9, if_true, if_false] <;> rfl) (KF.n [(0, 0), (2280, 1)])))
 refine AW.q 2 ?_
 refine AW.cE (field.toNat : Int) (98 : Int) (fun h10 => ?_) (fun h10 => ?_)
 · refine AW.r ?_
   refine At.a 4 ?_
   refine At.c (impl_PutText_spec  m.bytes (by omega)) Try.call67 true [] [(2420, 0)] [] trivial ?_
   refine At.z 1 ?_
   exact AW.ret (rf (k1 (K_impl_Msg_pack _ m field) (show (putT m.bytes) = (fByte m field.toNat) from by simp only [fByte, h1, h2, h3, h4, h5, h6, h8, h9, h10, if_true, if_false] <;> rfl) (KF.n [(0, 0), (2420, 1)])))
 refine AW.q 2 ?_
 refine AW.cE (field.toNat : Int) (100 : Int) (fun h11 => ?_) (fun h11 => ?_)
 · refine AW.r ?_
   refine At.a 4 ?_
   refine At.c (impl_CmdPack_spec  m.cmd ) Try.call68 true [] [(2580, 0)] [] trivial ?_
   refine At.z 5 ?_
   refine AW.q 2 ?_
   exact AW.ret (rf (k1 (K_impl_Msg_pack _ m field) (show (cmdP m.cmd) = (fByte m field.toNat) from by simp only [fByte, h1, h2, h3, h4, h5, h6, h8, h9, h10, h11, if_true, if_false] <;> rfl) (KF.n [(0, 0), (2580, 1)])))
 refine AW.skip ?_
 refine AW.r ?_
 refine At.a 4 ?_
 refine At.c (impl_packEntries_spec  m.entries hk b9) Try.call69 true [] [(2740, 0)] [] trivial ?_
 refine At.z 1 ?_
 exact AW.ret (rf (k1 (K_impl_Msg_pack _ m field) (show (packE m.entries) = (fByte m field.toNat) from by simp only [fByte, h1, h2, h3, h4, h5, h6, h8, h9, h10, h11, if_true, if_false] <;> rfl) (KF.n [(0, 0), (2740, 1)])))
theorem impl_Sum_spec  (b : List UInt8) (hb : b.length ≤ 1048576) : FnSpec Try.prog 91 [.sl false 1 (b.map encU8)] [] (.int .i64 (sumB b)) [] := by
 refine FnSpec.of 27 Try.func91 rfl Try.ntmps91 (by simp) (AW.weakK ?_)
 refine AW.q 1 ?_
 refine AW.q 2 ?_
 refine AW.seq ?_
 refine AW.r ?_
 refine At.a 2 ?_
 refine At.sL 8 encU8 b ?_
 refine At.z 1 ?_
 refine AW.block ?_
 refine AW.loopW (fun (x : Nat × Int × Int) => match x with | (k, x, y) => Go.Sy.mk [.un, .un, .un, .int .i64 x, .int .i64 y, .un, .un, .sl false 1 (b.map encU8), .int .i64 (b.length : Int), .int .i64 (k : Int)] []) (fun (x : Nat × Int × Int) => match x with | (k, x, y) => k ≤ b.length ∧ (0 ≤ x ∧ x < 65521) ∧ (0 ≤ y ∧ y < 65521) ∧ sumGo b 1 0 = sumGo (b.drop k) x y) (fun (x : Nat × Int × Int) => match x with | (k, x, y) => b.length - k) (0, 1, 0) ⟨by omega, by omega, by omega, by rw [List.drop_zero]⟩ (Sub.o [] [false, false, false, true, true, false, false, true, true, true]) ?_
 rintro ⟨k, x, y⟩ ⟨hk, hx, hy, hR⟩
 refine AW.q 1 ?_
 refine AW.seq ?_
 refine AW.cD ((k : Int) < (b.length : Int)) (fun h1 => ?_) (fun h1 => ?_)
 · refine AW.skip ?_
   refine AW.seq ?_
   refine AW.block ?_
   refine AW.r ?_
   refine At.iSl 28 11 (.tmp 7) (.tmp 9) false 1 (b.map encU8) .i64 (k : Int) 5 (by omega) (by simp only [List.length_map]; omega) ?_
   refine Exists.elim (gE b k (by omega)) fun e1 he1 => ?_
   have hbe1 := UInt8.toNat_lt e1
   refine At.lVp 5 12 (.tmp 11) false 1 (b.map encU8) k 0 false 1 (encU8 e1) (.int .u8 (e1.toNat : Int)) (mapGet he1) ?_
   refine At.z 1 ?_
   refine AW.r ?_
   refine At.a 2 ?_
   refine At.conv (s := 5) (t := 3) (d := 15) (x := .tmp 14) (kd := .u8) (kd' := .i64) (a := (e1.toNat : Int)) (.int .i64 (e1.toNat : Int)) (by kernel_rfl) (by kernel_rfl) (by kernel_rfl) (by kernel_rfl) (sayI _ (by have := UInt8.toNat_lt e1; omega)) ?_
   refine At.a 1 ?_
   refine At.sI 16 (x + (e1.toNat : Int)) (by omega) ?_
   refine At.div (t := 3) (u := 3) (d := 17) (op := .rem) (x := .tmp 16) (y := .const (.int .i64 65521)) (kd := .i64) (a := x + (e1.toNat : Int)) (b := 65521) (by kernel_rfl) (by kernel_rfl) (by kernel_rfl) (by kernel_rfl) (by omega) (.int .i64 ((x + (e1.toNat : Int)).tmod 65521)) (.inr ⟨rfl, rfl⟩) ?_
   refine At.say 17 (.int .i64 ((x + (e1.toNat : Int)).tmod 65521)) (.int .i64 ((x + (e1.toNat : Int)) % 65521)) (by kernel_rfl) (sayRem (by omega)) ?_
   refine At.z 1 ?_
   refine AW.g ?_
   refine At.a 3 ?_
   refine At.sI 20 (y + ((x + (e1.toNat : Int)) % 65521)) (by omega) ?_
   refine At.div (t := 3) (u := 3) (d := 21) (op := .rem) (x := .tmp 20) (y := .const (.int .i64 65521)) (kd := .i64) (a := y + ((x + (e1.toNat : Int)) % 65521)) (b := 65521) (by kernel_rfl) (by kernel_rfl) (by kernel_rfl) (by kernel_rfl) (by omega) (.int .i64 ((y + ((x + (e1.toNat : Int)) % 65521)).tmod 65521)) (.inr ⟨rfl, rfl⟩) ?_
   refine At.say 21 (.int .i64 ((y + ((x + (e1.toNat : Int)) % 65521)).tmod 65521)) (.int .i64 ((y + ((x + (e1.toNat : Int)) % 65521)) % 65521)) (by kernel_rfl) (sayRem (by omega)) ?_
   refine At.z 1 ?_
   refine AW.g ?_
   refine At.a 1 ?_
   refine At.sI 22 ((k : Int) + 1) (by omega) ?_
   refine At.z 1 ?_
   exact ⟨(k + 1, ((x + (e1.toNat : Int)) % 65521), ((y + ((x + (e1.toNat : Int)) % 65521)) % 65521)), ⟨by omega, by omega, by omega, sum_step hR he1⟩, (by simp only; omega), Sub.o [] [false, false, false, true, true, false, false, true, true, true]⟩
 refine AW.exit ?_
 refine AW.r ?_
 refine At.a 2 ?_
 refine At.sI 24 (65536 * y) (by omega) ?_
 refine At.a 2 ?_
 refine At.sI 26 ((65536 * y) + x) (by omega) ?_
 refine At.z 1 ?_
 refine AW.ret ?_
 refine ⟨_, Sub.refl _ _, ?_⟩
 refine KF.conv (fun w => .int .i64 w) (fun w => []) (show ((65536 * y) + x) = (sumB b) from sum_end hR (by omega)) ?_
 exact KF.n []
theorem impl_sumBytes_spec  (b : List UInt8) (hb : b.length ≤ 1048576) : FnSpec Try.prog 70 [.sl false 1 (b.map encU8)] [] (.ref 0) [.arr 5 1 ((sum4 (sumB b)).map encU8)] := by
 refine FnSpec.of 22 Try.func70 rfl Try.ntmps70 (by simp) (AW.weakK ?_)
 refine AW.q 1 ?_
 refine AW.r ?_
 refine At.a 1 ?_
 refine At.c (impl_Sum_spec  b hb) Try.call91 true [] [] [] trivial ?_
 refine At.z 1 ?_
 refine AW.r ?_
 refine At.a 1 ?_
 refine At.bits (t := 3) (u := 3) (d := 7) (op := .and) (x := .tmp 6) (y := .const (.int .i64 255)) (kd := .i64) (a := sumB b) (b := 255) ((sumB b) % 256) (by kernel_rfl) (by kernel_rfl) (by kernel_rfl) (by kernel_rfl) (andM 8 256 _ _ (by decide) (by decide) (by decide)) ?_
 refine At.conv (s := 3) (t := 5) (d := 8) (x := .tmp 7) (kd := .i64) (kd' := .u8) (a := (sumB b) % 256) (.int .u8 ((u8Of ((sumB b) % 256)).toNat : Int)) (by kernel_rfl) (by kernel_rfl) (by kernel_rfl) (by kernel_rfl) (sayByte _) ?_
 refine At.a 1 ?_
 refine At.shift (t := 3) (u := 93) (d := 10) (op := .shr) (x := .tmp 9) (y := .const (.int .u64 8)) (kd := .i64) (kd' := .u64) (a := sumB b) (b := 8) (shV .shr .i64 (sumB b) 8) (by kernel_rfl) (by kernel_rfl) (by kernel_rfl) (by kernel_rfl) (by omega) (shS_shr _ _ _) ?_
 refine At.bits (t := 3) (u := 3) (d := 11) (op := .and) (x := .tmp 10) (y := .const (.int .i64 255)) (kd := .i64) (a := shV .shr .i64 (sumB b) 8) (b := 255) ((shV .shr .i64 (sumB b) 8) % 256) (by kernel_rfl) (by kernel_rfl) (by kernel_rfl) (by kernel_rfl) (andM 8 256 _ _ (by decide) (by decide) (by decide)) ?_
 refine At.conv (s := 3) (t := 5) (d := 12) (x := .tmp 11) (kd := .i64) (kd' := .u8) (a := (shV .shr .i64 (sumB b) 8) % 256) (.int .u8 ((u8Of ((shV .shr .i64 (sumB b) 8) % 256)).toNat : Int)) (by kernel_rfl) (by kernel_rfl) (by kernel_rfl) (by kernel_rfl) (sayByte _) ?_
 refine At.a 1 ?_
 refine At.shift (t := 3) (u := 93) (d := 14) (op := .shr) (x := .tmp 13) (y := .const (.int .u64 16)) (kd := .i64) (kd' := .u64) (a := sumB b) (b := 16) (shV .shr .i64 (sumB b) 16) (by kernel_rfl) (by kernel_rfl) (by kernel_rfl) (by kernel_rfl) (by omega) (shS_shr _ _ _) ?_
 refine At.bits (t := 3) (u := 3) (d := 15) (op := .and) (x := .tmp 14) (y := .const (.int .i64 255)) (kd := .i64) (a := shV .shr .i64 (sumB b) 16) (b := 255) ((shV .shr .i64 (sumB b) 16) % 256) (by kernel_rfl) (by kernel_rfl) (by kernel_rfl) (by kernel_rfl) (andM 8 256 _ _ (by decide) (by decide) (by decide)) ?_
 refine At.conv (s := 3) (t := 5) (d := 16) (x := .tmp 15) (kd := .i64) (kd' := .u8) (a := (shV .shr .i64 (sumB b) 16) % 256) (.int .u8 ((u8Of ((shV .shr .i64 (sumB b) 16) % 256)).toNat : Int)) (by kernel_rfl) (by kernel_rfl) (by kernel_rfl) (by kernel_rfl) (sayByte _) ?_
 refine At.a 1 ?_
 refine At.shift (t := 3) (u := 93) (d := 18) (op := .shr) (x := .tmp 17) (y := .const (.int .u64 24)) (kd := .i64) (kd' := .u64) (a := sumB b) (b := 24) (shV .shr .i64 (sumB b) 24) (by kernel_rfl) (by kernel_rfl) (by kernel_rfl) (by kernel_rfl) (by omega) (shS_shr _ _ _) ?_
 refine At.bits (t := 3) (u := 3) (d := 19) (op := .and) (x := .tmp 18) (y := .const (.int .i64 255)) (kd := .i64) (a := shV .shr .i64 (sumB b) 24) (b := 255) ((shV .shr .i64 (sumB b) 24) % 256) (by kernel_rfl) (by kernel_rfl) (by kernel_rfl) (by kernel_rfl) (andM 8 256 _ _ (by decide) (by decide) (by decide)) ?_
 refine At.conv (s := 3) (t := 5) (d := 20) (x := .tmp 19) (kd := .i64) (kd' := .u8) (a := (shV .shr .i64 (sumB b) 24) % 256) (.int .u8 ((u8Of ((shV .shr .i64 (sumB b) 24) % 256)).toNat : Int)) (by kernel_rfl) (by kernel_rfl) (by kernel_rfl) (by kernel_rfl) (sayByte _) ?_
 refine At.ll 21 5 1 121 (56, 6) (([(u8Of ((sumB b) % 256)), (u8Of ((shV .shr .i64 (sumB b) 8) % 256)), (u8Of ((shV .shr .i64 (sumB b) 16) % 256)), (u8Of ((shV .shr .i64 (sumB b) 24) % 256))]).map encU8) ?_
 refine At.z 1 ?_
 refine AW.ret ?_
 refine ⟨_, Sub.refl _ _, ?_⟩
 refine KF.conv (fun w => .ref 0) (fun w => [.arr 5 1 (w.map encU8)]) (show ([(u8Of ((sumB b) % 256)), (u8Of ((shV .shr .i64 (sumB b) 8) % 256)), (u8Of ((shV .shr .i64 (sumB b) 16) % 256)), (u8Of ((shV .shr .i64 (sumB b) 24) % 256))]) = (sum4 (sumB b)) from sum4_impl _) ?_
 exact KF.n [(121, 0)]
def K_impl_Seal (rs : List ResultVar) (b : List UInt8) (w0_ : List UInt8) (w1_ : Bool) : Exit → Sg → Prop := KF Try.prog 0 rs (.tup [.ref 0, .bool w1_]) [.arr 5 1 (w0_.map encU8)]
theorem impl_Seal_spec  (b : List UInt8) (hb : b.length ≤ 1048576) : FnSpec Try.prog 39 [.sl false 1 (b.map encU8)] [] (.tup [.ref 0, .bool (decide (¬ (b.length : Int) > 3000))]) [.arr 5 1 ((sealP b).map encU8)] := by
 have hpl := putI_len (x := (b.length : Int)) (by omega)
 have hsl : (sum4 (sumB b)).length = 4 := rfl
 refine FnSpec.of 15 Try.func39 rfl Try.ntmps39 (by simp) (AW.weakK ?_)
 refine AW.q 2 ?_
 refine AW.seq ?_
 refine AW.r ?_
 refine At.a 2 ?_
 refine At.sL 5 encU8 b ?_
 refine At.z 1 ?_
 refine AW.cD ((b.length : Int) > 3000) (fun h1 => ?_) (fun h1 => ?_)
 · refine AW.q 2 ?_
   refine AW.ret ?_
   refine ⟨_, Sub.nils [⟨false, 2, none, 5001, 5, 1⟩] (by kernel_rfl), ?_⟩
   exact k2 (K_impl_Seal _ b) (show ([]) = (sealP b) from by rw [sealP_no (by assumption)]) (show (false) = (decide (¬ (b.length : Int) > 3000)) from by rw [decide_eq_false (by omega)]) (KF.n [(5001, 0)])
 refine AW.skip ?_
 refine AW.r ?_
 refine At.a 2 ?_
 refine At.sL 8 encU8 b ?_
 refine At.c (impl_PutNum_spec  (b.length : Int) (by omega)) Try.call36 true [] [(1180, 0)] [] trivial ?_
 refine At.a 1 ?_
 refine At.append (t := 28) (d := 11) (e := 5) (es := 1) (bytes := 1) (s := .tmp 9) (x := .tmp 10) (S := .ref 1180) (T := .sl false 1 (b.map encU8)) (xs := ((putI (b.length : Int)).map encU8)) (ys := (b.map encU8)) 111 [1180] [] (((putI (b.length : Int)) ++ b).map encU8) (by kernel_rfl) (by kernel_rfl) (by kernel_rfl) (by kernel_rfl) ⟨by kernel_rfl, rfl⟩ ⟨rfl, rfl, (allP_encU8 _), rfl⟩ (by kernel_rfl) (by kernel_rfl) (by simp) (by simp only [List.length_map]; omega) (by simp only [List.length_map]; omega) ?_
 refine At.a 1 ?_
 refine At.c (impl_sumBytes_spec  b hb) Try.call70 true [] [(1260, 0)] [] trivial ?_
 refine At.apC 14 5 1 1 114 111 1260 encU8 ((putI (b.length : Int)) ++ b) (sum4 (sumB b)) (by simp only [List.length_map, List.length_append, List.length_take, List.length_drop, List.length_replicate, List.length_set, List.length_cons, List.length_nil]; omega) (allP_encU8 _) ?_
 refine At.z 2 ?_
 exact AW.ret (rf (k2 (K_impl_Seal _ b) (show (((putI (b.length : Int)) ++ b) ++ (sum4 (sumB b))) = (sealP b) from by rw [sealP_yes (by assumption)]) (show (true) = (decide (¬ (b.length : Int) > 3000)) from by rw [decide_eq_true (by assumption)]) (KF.n [(114, 0)])))
def K_impl_MsgPack (rs : List ResultVar) (m : Msg) (w0_ : List UInt8) (w1_ : Bool) : Exit → Sg → Prop := KF Try.prog 0 rs (.tup [.ref 0, .bool w1_]) [.arr 5 1 (w0_.map encU8)]
theorem impl_MsgPack_spec  (m : Msg) (hl : m.entries.length ≤ 1048576) : FnSpec Try.prog 9 [(msgA m)] [] (.tup [.ref 0, .bool (msgPok m)]) [.arr 5 1 ((msgP m).map encU8)] := by
 have hfs := fieldsL_six m.kind
 refine FnSpec.of 32 Try.func9 rfl Try.ntmps9 (by simp) (AW.weakK ?_)
 refine AW.q 3 ?_
 refine AW.seq ?_
 refine AW.r ?_
 refine At.a 1 ?_
 refine At.c (impl_MsgFits_spec  m hl) Try.call35 true [] [] [] trivial ?_
 refine At.z 1 ?_
 refine AW.cNB (msgFits m) (fun h1 => ?_) (fun h1 => ?_)
 · refine AW.q 2 ?_
   refine AW.ret ?_
   refine ⟨_, Sub.nils [⟨false, 2, none, 5001, 5, 1⟩] (by kernel_rfl), ?_⟩
   exact k2 (K_impl_MsgPack _ m) (show ([]) = (msgP m) from by rw [msgP_no (by assumption)]) (show (false) = (msgPok m) from by rw [msgPok_no (by assumption)]) (KF.n [(5001, 0)])
 have hmp := msgFits_packs h1
 have hm6 := (msgFits_nums h1).2.2.2.2
 have hkl := putI_len (x := m.kind) (by have := msgFits_kind h1; omega)
 have hkk := msgFits_kind h1
 refine AW.skip ?_
 refine AW.r ?_
 refine At.a 2 ?_
 refine At.c (impl_PutNum_spec  m.kind (by omega)) Try.call36 true [] [(1240, 0)] [] trivial ?_
 refine At.z 1 ?_
 refine AW.r ?_
 refine At.a 2 ?_
 refine At.c (impl_fieldsOf_spec  m.kind ) Try.call37 true [] [] [] trivial ?_
 refine At.z 1 ?_
 refine AW.seq ?_
 refine AW.q 3 ?_
 refine AW.block ?_
 refine AW.loopW (fun (x : Nat × List UInt8) => match x with | (k, o) => Go.Sy.mk [.un, .ptr 101 0 0, .un, .un, .ref 1240, .str (fieldsL m.kind), .un, .un, .un, .un, .un, .un, .un, .un, .un, .un, .un, .int .i64 ((fieldsL m.kind).size : Int), .int .i64 (k : Int)] [(101, .box 34 [.int .i64 m.kind, .int .i64 m.from_, .int .i64 m.term, .int .i64 m.at_, .int .i64 m.atTerm, .int .i64 m.commit, .bool m.yes, .int .i64 m.release, .int .i64 m.part, .str m.bytes, .int .i64 m.cmd.kind, .int .i64 m.cmd.release, .int .i64 m.cmd.node, .int .i64 m.cmd.size, .str m.cmd.digest, .sl false 6 (m.entries.map encEnt)]), (1240, .arr 5 1 (o.map encU8))]) (fun (x : Nat × List UInt8) => match x with | (k, o) => k ≤ (fieldsL m.kind).size ∧ o.length ≤ 4000 * k + 9 ∧ msgB m = o ++ fAll m ((fieldsL m.kind).data.toList.drop k)) (fun (x : Nat × List UInt8) => match x with | (k, o) => (fieldsL m.kind).size - k) (0, putI m.kind) ⟨by omega, by omega, by rw [List.drop_zero]; exact rfl⟩ (Sub.o [(101, 101), (1240, 1240)] [false, true, false, false, true, true, false, false, false, false, false, false, false, false, false, false, false, true, true]) ?_
 rintro ⟨k, o⟩ ⟨hk, ho, hR⟩
 refine AW.q 1 ?_
 refine AW.seq ?_
 refine AW.cD ((k : Int) < ((fieldsL m.kind).size : Int)) (fun h2 => ?_) (fun h2 => ?_)
 · refine AW.skip ?_
   refine AW.seq ?_
   refine AW.block ?_
   refine AW.q 2 ?_
   refine AW.g ?_
   refine At.a 3 ?_
   refine Exists.elim (show ∃ e, (fieldsL m.kind).data[k]? = some e from ⟨_, Array.getElem?_eq_getElem (by show _ < (fieldsL m.kind).size; omega)⟩) fun e1 he1 => ?_
   have hl1 : (fieldsL m.kind).data.toList[k]? = some e1 := by simpa using he1
   have hfl := fByte_len hm6 hmp (e1.toNat : Int)
   refine At.idxStr (t := 9) (d := 24) (x := .tmp 22) (y := .tmp 23) (s := fieldsL m.kind) (kd := .i64) (i := (k : Int)) e1 (by kernel_rfl) (by kernel_rfl) (by kernel_rfl) (by kernel_rfl) (by omega) he1 ?_
   refine At.c (impl_Msg_pack_spec  m e1 hm6 hmp) Try.call38 true [(101, 0)] [(1500, 1)] [] trivial ?_
   refine At.apC 26 5 1 1 126 1240 1500 encU8 o (fByte m e1.toNat) (by omega) (allP_encU8 _) ?_
   refine At.z 1 ?_
   refine AW.g ?_
   refine At.a 1 ?_
   refine At.sI 27 ((k : Int) + 1) (by omega) ?_
   refine At.z 1 ?_
   exact ⟨(k + 1, (o ++ (fByte m e1.toNat))), ⟨by omega, by simp only [List.length_append, List.length_cons, List.length_nil]; omega, by rw [hR, dropCons hl1, fAll]; simp only [List.append_assoc]⟩, (by simp only; omega), Sub.o [(101, 101), (126, 1240)] [false, true, false, false, true, true, false, false, false, false, false, false, false, false, false, false, false, true, true]⟩
 refine AW.exit ?_
 refine AW.r ?_
 refine At.a 1 ?_
 refine At.c (impl_Seal_spec  o (by omega)) Try.call39 false [] [(1580, 0)] [(1240, 1, (o.map encU8))] ⟨rfl, ⟨5, (o.map encU8), by kernel_rfl, FrzIs.same (allP_encU8 _)⟩, trivial⟩ ?_
 refine At.z 4 ?_
 exact AW.ret (rf (k2 (K_impl_MsgPack _ m) (show (sealP o) = (msgP m) from by rw [msgP_yes (by assumption), hR, List.drop_of_length_le (by rw [Array.length_toList]; show (fieldsL m.kind).size ≤ _; omega)]; simp [fAll]) (show (decide (¬ (o.length : Int) > 3000)) = (msgPok m) from by rw [msgPok_yes (by assumption), hR, List.drop_of_length_le (by rw [Array.length_toList]; show (fieldsL m.kind).size ≤ _; omega)]; simp [fAll]) (KF.n [(1580, 0)])))
theorem laws_eqByteS_spec  (a : List UInt8) (b : List UInt8) (ha : a.length ≤ 1048576) (hb : b.length ≤ 1048576) : FnSpec Try.prog 10 [.sl false 1 (a.map encU8), .sl false 1 (b.map encU8)] [] (.bool (listEq eqU a b)) [] := by
 refine FnSpec.of 26 Try.func10 rfl Try.ntmps10 (by simp) (AW.weakK ?_)
 refine AW.q 1 ?_
 refine AW.seq ?_
 refine AW.r ?_
 refine At.a 2 ?_
 refine At.sL 7 encU8 a ?_
 refine At.a 2 ?_
 refine At.sL 9 encU8 b ?_
 refine At.z 1 ?_
 refine AW.cU (a.length : Int) (b.length : Int) (fun h1 => ?_) (fun h1 => ?_)
 · refine AW.q 1 ?_
   refine AW.ret ?_
   refine ⟨_, Sub.refl _ _, ?_⟩
   refine KF.conv (fun w => .bool w) (fun w => []) (show (false) = (listEq eqU a b) from by rw [listEq_len (by omega)]) ?_
   exact KF.n []
 refine AW.skip ?_
 refine AW.seq ?_
 refine AW.q 1 ?_
 refine AW.block ?_
 refine AW.loopW (fun (k : Nat) => Go.Sy.mk [.sl false 1 (a.map encU8), .sl false 1 (b.map encU8), .un, .un, .un, .int .i64 (k : Int)] []) (fun (k : Nat) => k ≤ a.length ∧ listEq eqU a b = listEq eqU (a.drop k) (b.drop k)) (fun (k : Nat) => a.length - k) 0 ⟨by omega, by rw [List.drop_zero, List.drop_zero]⟩ (Sub.o [] [true, true, false, false, false, true]) ?_
 rintro k ⟨hk, hR⟩
 refine AW.seq ?_
 refine AW.r ?_
 refine At.a 3 ?_
 refine At.sL 13 encU8 a ?_
 refine At.z 1 ?_
 refine AW.cD ((k : Int) < (a.length : Int)) (fun h2 => ?_) (fun h2 => ?_)
 · refine AW.skip ?_
   refine AW.seq ?_
   refine AW.block ?_
   refine AW.seq ?_
   refine AW.gD Try_mix ?_
   refine At.a 2 ?_
   refine At.iSl 28 19 (.tmp 17) (.tmp 18) false 1 (a.map encU8) .i64 (k : Int) 5 (by omega) (by simp only [List.length_map]; omega) ?_
   refine Exists.elim (gE a k (by omega)) fun e1 he1 => ?_
   refine At.lVp 5 20 (.tmp 19) false 1 (a.map encU8) k 0 false 1 (encU8 e1) (.int .u8 (e1.toNat : Int)) (mapGet he1) ?_
   refine At.a 2 ?_
   refine At.iSl 28 23 (.tmp 21) (.tmp 22) false 1 (b.map encU8) .i64 (k : Int) 5 (by omega) (by simp only [List.length_map]; omega) ?_
   refine Exists.elim (gE b k (by omega)) fun e2 he2 => ?_
   refine At.lVp 5 24 (.tmp 23) false 1 (b.map encU8) k 0 false 1 (encU8 e2) (.int .u8 (e2.toNat : Int)) (mapGet he2) ?_
   refine At.zD 1 ?_
   refine AW.cU (e1.toNat : Int) (e2.toNat : Int) (fun h3 => ?_) (fun h3 => ?_)
   · refine AW.q 1 ?_
     refine AW.ret ?_
     refine ⟨_, Sub.refl _ _, ?_⟩
     refine KF.conv (fun w => .bool w) (fun w => []) (show (false) = (listEq eqU a b) from by rw [hR, dropCons he1, dropCons he2, listEq]; simp [eqU, *]) ?_
     exact KF.n []
   refine AW.skip ?_
   refine AW.g ?_
   refine At.a 2 ?_
   refine At.sI 16 ((k : Int) + 1) (by omega) ?_
   refine At.z 1 ?_
   exact ⟨k + 1, ⟨by omega, by rw [hR, dropCons he1, dropCons he2, listEq]; simp [eqU, *]⟩, (by omega), Sub.o [] [true, true, false, false, false, true]⟩
 refine AW.exit ?_
 refine AW.q 1 ?_
 refine AW.ret ?_
 refine ⟨_, Sub.refl _ _, ?_⟩
 refine KF.conv (fun w => .bool w) (fun w => []) (show (true) = (listEq eqU a b) from by rw [hR, List.drop_of_length_le (by omega), List.drop_of_length_le (by omega)]; rfl) ?_
 exact KF.n []
theorem laws_eqCmd_spec  (a : Cmd) (b : Cmd) : FnSpec Try.prog 40 [.agg [.int .i64 a.kind, .int .i64 a.release, .int .i64 a.node, .int .i64 a.size, .str a.digest], .agg [.int .i64 b.kind, .int .i64 b.release, .int .i64 b.node, .int .i64 b.size, .str b.digest]] [] (.bool (cmdEq a b)) [] := by
 refine FnSpec.of 30 Try.func40 rfl Try.ntmps40 (by simp) (AW.weakK ?_)
 refine AW.q 3 ?_
 refine AW.seq ?_
 refine AW.q 5 ?_
 refine AW.cU a.kind b.kind (fun h1 => ?_) (fun h1 => ?_)
 · refine AW.q 1 ?_
   refine AW.ret ?_
   refine ⟨_, Sub.refl _ _, ?_⟩
   refine KF.conv (fun w => .bool w) (fun w => []) (show (false) = (cmdEq a b) from by simp [cmdEq, *]) ?_
   exact KF.n []
 refine AW.skip ?_
 refine AW.seq ?_
 refine AW.q 5 ?_
 refine AW.cU a.release b.release (fun h2 => ?_) (fun h2 => ?_)
 · refine AW.q 1 ?_
   refine AW.ret ?_
   refine ⟨_, Sub.refl _ _, ?_⟩
   refine KF.conv (fun w => .bool w) (fun w => []) (show (false) = (cmdEq a b) from by simp [cmdEq, *]) ?_
   exact KF.n []
 refine AW.skip ?_
 refine AW.seq ?_
 refine AW.q 5 ?_
 refine AW.cU a.node b.node (fun h3 => ?_) (fun h3 => ?_)
 · refine AW.q 1 ?_
   refine AW.ret ?_
   refine ⟨_, Sub.refl _ _, ?_⟩
   refine KF.conv (fun w => .bool w) (fun w => []) (show (false) = (cmdEq a b) from by simp [cmdEq, *]) ?_
   exact KF.n []
 refine AW.skip ?_
 refine AW.seq ?_
 refine AW.q 5 ?_
 refine AW.cU a.size b.size (fun h4 => ?_) (fun h4 => ?_)
 · refine AW.q 1 ?_
   refine AW.ret ?_
   refine ⟨_, Sub.refl _ _, ?_⟩
   refine KF.conv (fun w => .bool w) (fun w => []) (show (false) = (cmdEq a b) from by simp [cmdEq, *]) ?_
   exact KF.n []
 refine AW.skip ?_
 refine AW.seq ?_
 refine AW.q 5 ?_
 refine AW.cNE (a.digest.toList) (b.digest.toList) (fun h5 => ?_) (fun h5 => ?_)
 · refine AW.q 1 ?_
   refine AW.ret ?_
   refine ⟨_, Sub.refl _ _, ?_⟩
   refine KF.conv (fun w => .bool w) (fun w => []) (show (false) = (cmdEq a b) from by simp [cmdEq, *]) ?_
   exact KF.n []
 refine AW.skip ?_
 refine AW.q 1 ?_
 refine AW.ret ?_
 refine ⟨_, Sub.refl _ _, ?_⟩
 refine KF.conv (fun w => .bool w) (fun w => []) (show (true) = (cmdEq a b) from by simp [cmdEq, *]) ?_
 exact KF.n []
theorem laws_eqEntry_spec  (a : Ent) (b : Ent) : FnSpec Try.prog 71 [.agg [.int .i64 a.term, .int .i64 a.cmd.kind, .int .i64 a.cmd.release, .int .i64 a.cmd.node, .int .i64 a.cmd.size, .str a.cmd.digest], .agg [.int .i64 b.term, .int .i64 b.cmd.kind, .int .i64 b.cmd.release, .int .i64 b.cmd.node, .int .i64 b.cmd.size, .str b.cmd.digest]] [] (.bool (entEq a b)) [] := by
 refine FnSpec.of 16 Try.func71 rfl Try.ntmps71 (by simp) (AW.weakK ?_)
 refine AW.q 3 ?_
 refine AW.seq ?_
 refine AW.q 5 ?_
 refine AW.cU a.term b.term (fun h1 => ?_) (fun h1 => ?_)
 · refine AW.q 1 ?_
   refine AW.ret ?_
   refine ⟨_, Sub.refl _ _, ?_⟩
   refine KF.conv (fun w => .bool w) (fun w => []) (show (false) = (entEq a b) from by simp [entEq, *]) ?_
   exact KF.n []
 refine AW.skip ?_
 refine AW.seq ?_
 refine AW.r ?_
 refine At.a 4 ?_
 refine At.c (laws_eqCmd_spec  a.cmd b.cmd ) Try.call40 true [] [] [] trivial ?_
 refine At.z 1 ?_
 refine AW.cNB (cmdEq a.cmd b.cmd) (fun h2 => ?_) (fun h2 => ?_)
 · refine AW.q 1 ?_
   refine AW.ret ?_
   refine ⟨_, Sub.refl _ _, ?_⟩
   refine KF.conv (fun w => .bool w) (fun w => []) (show (false) = (entEq a b) from by simp [entEq, *]) ?_
   exact KF.n []
 refine AW.skip ?_
 refine AW.q 1 ?_
 refine AW.ret ?_
 refine ⟨_, Sub.refl _ _, ?_⟩
 refine KF.conv (fun w => .bool w) (fun w => []) (show (true) = (entEq a b) from by simp [entEq, *]) ?_
 exact KF.n []
theorem laws_eqEntryS_spec  (a : List Ent) (b : List Ent) (ha : a.length ≤ 1048576) (hb : b.length ≤ 1048576) : FnSpec Try.prog 41 [.sl false 6 (a.map encEnt), .sl false 6 (b.map encEnt)] [] (.bool (listEq entEq a b)) [] := by
 refine FnSpec.of 27 Try.func41 rfl Try.ntmps41 (by simp) (AW.weakK ?_)
 refine AW.q 1 ?_
 refine AW.seq ?_
 refine AW.r ?_
 refine At.a 2 ?_
 refine At.sL 7 encEnt a ?_
 refine At.a 2 ?_
 refine At.sL 9 encEnt b ?_
 refine At.z 1 ?_
 refine AW.cU (a.length : Int) (b.length : Int) (fun h1 => ?_) (fun h1 => ?_)
 · refine AW.q 1 ?_
   refine AW.ret ?_
   refine ⟨_, Sub.refl _ _, ?_⟩
   refine KF.conv (fun w => .bool w) (fun w => []) (show (false) = (listEq entEq a b) from by rw [listEq_len (by omega)]) ?_
   exact KF.n []
 refine AW.skip ?_
 refine AW.seq ?_
 refine AW.q 1 ?_
 refine AW.block ?_
 refine AW.loopW (fun (k : Nat) => Go.Sy.mk [.sl false 6 (a.map encEnt), .sl false 6 (b.map encEnt), .un, .un, .un, .int .i64 (k : Int)] []) (fun (k : Nat) => k ≤ a.length ∧ listEq entEq a b = listEq entEq (a.drop k) (b.drop k)) (fun (k : Nat) => a.length - k) 0 ⟨by omega, by rw [List.drop_zero, List.drop_zero]⟩ (Sub.o [] [true, true, false, false, false, true]) ?_
 rintro k ⟨hk, hR⟩
 refine AW.seq ?_
 refine AW.r ?_
 refine At.a 3 ?_
 refine At.sL 13 encEnt a ?_
 refine At.z 1 ?_
 refine AW.cD ((k : Int) < (a.length : Int)) (fun h2 => ?_) (fun h2 => ?_)
 · refine AW.skip ?_
   refine AW.seq ?_
   refine AW.block ?_
   refine AW.seq ?_
   refine AW.gD Try_mix ?_
   refine At.a 2 ?_
   refine At.iSl 32 19 (.tmp 17) (.tmp 18) false 6 (a.map encEnt) .i64 (k : Int) 56 (by omega) (by simp only [List.length_map]; omega) ?_
   refine Exists.elim (gE a k (by omega)) fun e1 he1 => ?_
   refine At.lVp 56 20 (.tmp 19) false 6 (a.map encEnt) k 0 true 6 (encEnt e1) (.agg [.int .i64 e1.term, .int .i64 e1.cmd.kind, .int .i64 e1.cmd.release, .int .i64 e1.cmd.node, .int .i64 e1.cmd.size, .str e1.cmd.digest]) (mapGet he1) ?_
   refine At.a 2 ?_
   refine At.iSl 32 23 (.tmp 21) (.tmp 22) false 6 (b.map encEnt) .i64 (k : Int) 56 (by omega) (by simp only [List.length_map]; omega) ?_
   refine Exists.elim (gE b k (by omega)) fun e2 he2 => ?_
   refine At.lVp 56 24 (.tmp 23) false 6 (b.map encEnt) k 0 true 6 (encEnt e2) (.agg [.int .i64 e2.term, .int .i64 e2.cmd.kind, .int .i64 e2.cmd.release, .int .i64 e2.cmd.node, .int .i64 e2.cmd.size, .str e2.cmd.digest]) (mapGet he2) ?_
   refine At.c (laws_eqEntry_spec  e1 e2 ) Try.call71 true [] [] [] trivial ?_
   refine At.zD 1 ?_
   refine AW.cNB (entEq e1 e2) (fun h3 => ?_) (fun h3 => ?_)
   · refine AW.q 1 ?_
     refine AW.ret ?_
     refine ⟨_, Sub.refl _ _, ?_⟩
     refine KF.conv (fun w => .bool w) (fun w => []) (show (false) = (listEq entEq a b) from by rw [hR, dropCons he1, dropCons he2, listEq]; simp [eqI, *]) ?_
     exact KF.n []
   refine AW.skip ?_
   refine AW.g ?_
   refine At.a 2 ?_
   refine At.sI 16 ((k : Int) + 1) (by omega) ?_
   refine At.z 1 ?_
   exact ⟨k + 1, ⟨by omega, by rw [hR, dropCons he1, dropCons he2, listEq]; simp [eqI, *]⟩, (by omega), Sub.o [] [true, true, false, false, false, true]⟩
 refine AW.exit ?_
 refine AW.q 1 ?_
 refine AW.ret ?_
 refine ⟨_, Sub.refl _ _, ?_⟩
 refine KF.conv (fun w => .bool w) (fun w => []) (show (true) = (listEq entEq a b) from by rw [hR, List.drop_of_length_le (by omega), List.drop_of_length_le (by omega)]; rfl) ?_
 exact KF.n []
def K_laws_eqMsg (rs : List ResultVar) (a : Msg) (b : Msg) (w0_ : Bool) : Exit → Sg → Prop := KF Try.prog 0 rs (.bool w0_) []
theorem laws_eqMsg_spec  (a : Msg) (b : Msg) (ha : a.entries.length ≤ 1048576) (hb : b.entries.length ≤ 1048576) : FnSpec Try.prog 11 [(msgA a), (msgA b)] [] (.bool (msgEq a b)) [] := by
 refine FnSpec.of 67 Try.func11 rfl Try.ntmps11 (by simp) (AW.weakK ?_)
 refine AW.q 3 ?_
 refine AW.seq ?_
 refine AW.q 5 ?_
 refine AW.cU a.kind b.kind (fun h1 => ?_) (fun h1 => ?_)
 · refine AW.q 1 ?_
   exact AW.ret (rf (k1 (K_laws_eqMsg _ a b) (show (false) = (msgEq a b) from by simp [msgEq, h1]) (KF.n [])))
 refine AW.skip ?_
 refine AW.seq ?_
 refine AW.q 5 ?_
 refine AW.cU a.from_ b.from_ (fun h2 => ?_) (fun h2 => ?_)
 · refine AW.q 1 ?_
   exact AW.ret (rf (k1 (K_laws_eqMsg _ a b) (show (false) = (msgEq a b) from by simp [msgEq, h1, h2]) (KF.n [])))
 refine AW.skip ?_
 refine AW.seq ?_
 refine AW.q 5 ?_
 refine AW.cU a.term b.term (fun h3 => ?_) (fun h3 => ?_)
 · refine AW.q 1 ?_
   exact AW.ret (rf (k1 (K_laws_eqMsg _ a b) (show (false) = (msgEq a b) from by simp [msgEq, h1, h2, h3]) (KF.n [])))
 refine AW.skip ?_
 refine AW.seq ?_
 refine AW.q 5 ?_
 refine AW.cU a.at_ b.at_ (fun h4 => ?_) (fun h4 => ?_)
 · refine AW.q 1 ?_
   exact AW.ret (rf (k1 (K_laws_eqMsg _ a b) (show (false) = (msgEq a b) from by simp [msgEq, h1, h2, h3, h4]) (KF.n [])))
 refine AW.skip ?_
 refine AW.seq ?_
 refine AW.q 5 ?_
 refine AW.cU a.atTerm b.atTerm (fun h5 => ?_) (fun h5 => ?_)
 · refine AW.q 1 ?_
   exact AW.ret (rf (k1 (K_laws_eqMsg _ a b) (show (false) = (msgEq a b) from by simp [msgEq, h1, h2, h3, h4, h5]) (KF.n [])))
 refine AW.skip ?_
 refine AW.seq ?_
 refine AW.q 5 ?_
 refine AW.cU a.commit b.commit (fun h6 => ?_) (fun h6 => ?_)
 · refine AW.q 1 ?_
   exact AW.ret (rf (k1 (K_laws_eqMsg _ a b) (show (false) = (msgEq a b) from by simp [msgEq, h1, h2, h3, h4, h5, h6]) (KF.n [])))
 refine AW.skip ?_
 refine AW.seq ?_
 refine AW.r ?_
 refine At.a 4 ?_
 refine At.eqB (t := 4) (u := 4) (d := 39) (op := .neq) (x := .tmp 36) (y := .tmp 38) (a := a.yes) (b := b.yes) (by kernel_rfl) (by kernel_rfl) (by kernel_rfl) (by kernel_rfl) (by kernel_rfl) (.bool (!(a.yes == b.yes))) (.inr ⟨rfl, rfl⟩) ?_
 refine At.done rfl ?_
 refine AW.cNB (a.yes == b.yes) (fun h7 => ?_) (fun h7 => ?_)
 · refine AW.q 1 ?_
   exact AW.ret (rf (k1 (K_laws_eqMsg _ a b) (show (false) = (msgEq a b) from by simp [msgEq, h1, h2, h3, h4, h5, h6, h7]) (KF.n [])))
 refine AW.skip ?_
 refine AW.seq ?_
 refine AW.q 5 ?_
 refine AW.cU a.release b.release (fun h8 => ?_) (fun h8 => ?_)
 · refine AW.q 1 ?_
   exact AW.ret (rf (k1 (K_laws_eqMsg _ a b) (show (false) = (msgEq a b) from by simp [msgEq, h1, h2, h3, h4, h5, h6, h7, h8]) (KF.n [])))
 refine AW.skip ?_
 refine AW.seq ?_
 refine AW.q 5 ?_
 refine AW.cU a.part b.part (fun h9 => ?_) (fun h9 => ?_)
 · refine AW.q 1 ?_
   exact AW.ret (rf (k1 (K_laws_eqMsg _ a b) (show (false) = (msgEq a b) from by simp [msgEq, h1, h2, h3, h4, h5, h6, h7, h8, h9]) (KF.n [])))
 refine AW.skip ?_
 refine AW.seq ?_
 refine AW.q 5 ?_
 refine AW.cNE (a.bytes.toList) (b.bytes.toList) (fun h10 => ?_) (fun h10 => ?_)
 · refine AW.q 1 ?_
   exact AW.ret (rf (k1 (K_laws_eqMsg _ a b) (show (false) = (msgEq a b) from by simp [msgEq, h1, h2, h3, h4, h5, h6, h7, h8, h9, h10]) (KF.n [])))
 refine AW.skip ?_
 refine AW.seq ?_
 refine AW.r ?_
 refine At.a 4 ?_
 refine At.c (laws_eqCmd_spec  a.cmd b.cmd ) Try.call40 true [] [] [] trivial ?_
 refine At.z 1 ?_
 refine AW.cNB (cmdEq a.cmd b.cmd) (fun h11 => ?_) (fun h11 => ?_)
 · refine AW.q 1 ?_
   exact AW.ret (rf (k1 (K_laws_eqMsg _ a b) (show (false) = (msgEq a b) from by simp [msgEq, h1, h2, h3, h4, h5, h6, h7, h8, h9, h10, h11]) (KF.n [])))
 refine AW.skip ?_
 refine AW.seq ?_
 refine AW.r ?_
 refine At.a 4 ?_
 refine At.c (laws_eqEntryS_spec  a.entries b.entries (by omega) (by omega)) Try.call41 true [] [] [] trivial ?_
 refine At.z 1 ?_
 refine AW.cNB (listEq entEq a.entries b.entries) (fun h12 => ?_) (fun h12 => ?_)
 · refine AW.q 1 ?_
   exact AW.ret (rf (k1 (K_laws_eqMsg _ a b) (show (false) = (msgEq a b) from by simp [msgEq, h1, h2, h3, h4, h5, h6, h7, h8, h9, h10, h11, h12]) (KF.n [])))
 refine AW.skip ?_
 refine AW.q 1 ?_
 exact AW.ret (rf (k1 (K_laws_eqMsg _ a b) (show (true) = (msgEq a b) from by simp [msgEq, h1, h2, h3, h4, h5, h6, h7, h8, h9, h10, h11, h12]) (KF.n [])))
theorem laws_markText_spec  (k : Int) (hk : k ≤ 4611686018427387904) : FnSpec Try.prog 72 [.int .i64 k] [] (.str (markT k)) [] := by
 refine FnSpec.of 20 Try.func72 rfl Try.ntmps72 (by simp) (AW.weakK ?_)
 refine AW.q 1 ?_
 refine AW.seq ?_
 refine AW.q 2 ?_
 refine AW.cD (k ≤ 0) (fun h1 => ?_) (fun h1 => ?_)
 · refine AW.q 1 ?_
   refine AW.ret ?_
   refine ⟨_, Sub.refl _ _, ?_⟩
   refine KF.conv (fun w => .str w) (fun w => []) (show ((⟨#[109, 48]⟩ : ByteArray)) = (markT k) from by rw [markT, if_pos (by omega)]) ?_
   exact KF.n []
 refine AW.skip ?_
 refine AW.q 1 ?_
 refine AW.seq ?_
 refine AW.block ?_
 refine AW.loopW (fun (x : Int × ByteArray) => match x with | (n, acc) => Go.Sy.mk [.int .i64 n, .un, .un, .str acc] []) (fun (x : Int × ByteArray) => match x with | (n, acc) => 0 ≤ n ∧ (acc.size : Int) + n ≤ k ∧ markGo k.toNat ⟨#[]⟩ = markGo n.toNat acc) (fun (x : Int × ByteArray) => match x with | (n, acc) => n.toNat) (k, ⟨#[]⟩) ⟨by omega, by show ((0 : Nat) : Int) + k ≤ k; omega, rfl⟩ (Sub.o [] [true, false, false, true]) ?_
 rintro ⟨n, acc⟩ ⟨hn, hs, hR⟩
 refine AW.seq ?_
 refine AW.q 2 ?_
 refine AW.cD (n > 0) (fun h2 => ?_) (fun h2 => ?_)
 · refine AW.skip ?_
   refine AW.block ?_
   refine AW.r ?_
   refine At.a 1 ?_
   refine At.div (t := 3) (u := 3) (d := 9) (op := .rem) (x := .tmp 8) (y := .const (.int .i64 10)) (kd := .i64) (a := n) (b := 10) (by kernel_rfl) (by kernel_rfl) (by kernel_rfl) (by kernel_rfl) (by omega) (.int .i64 (n.tmod 10)) (.inr ⟨rfl, rfl⟩) ?_
   refine At.say 9 (.int .i64 (n.tmod 10)) (.int .i64 (n % 10)) (by kernel_rfl) (sayRem (by omega)) ?_
   refine At.a 1 ?_
   refine At.sI 10 (48 + (n % 10)) (by omega) ?_
   refine At.conv (s := 3) (t := 5) (d := 11) (x := .tmp 10) (kd := .i64) (kd' := .u8) (a := 48 + (n % 10)) (.int .u8 ((u8Of (48 + (n % 10))).toNat : Int)) (by kernel_rfl) (by kernel_rfl) (by kernel_rfl) (by kernel_rfl) (sayByte _) ?_
   refine At.ll 12 5 1 112 (56, 6) (([(u8Of (48 + (n % 10)))]).map encU8) ?_
   refine At.b2s (s := 28) (t := 9) (e := 5) (d := 13) (x := .tmp 12) (T := .ref 112) ([(u8Of (48 + (n % 10)))]) [] (by kernel_rfl) (by kernel_rfl) (by kernel_rfl) (by kernel_rfl) ⟨by kernel_rfl, .inl ⟨rfl, (allP_encU8 _)⟩⟩ ?_
   refine At.a 1 ?_
   refine At.cat (t := 9) (u := 9) (d := 15) (x := .tmp 13) (y := .tmp 14) (a := strOf ([(u8Of (48 + (n % 10)))])) (b := acc) (by kernel_rfl) (by kernel_rfl) (by kernel_rfl) (by kernel_rfl) (by simp only [strOf_size, cat_size, List.length_cons, List.length_nil]; omega) ?_
   refine At.z 1 ?_
   refine AW.g ?_
   refine At.a 1 ?_
   refine At.div (t := 3) (u := 3) (d := 17) (op := .quo) (x := .tmp 16) (y := .const (.int .i64 10)) (kd := .i64) (a := n) (b := 10) (by kernel_rfl) (by kernel_rfl) (by kernel_rfl) (by kernel_rfl) (by omega) (.int .i64 (IntKind.i64.wrap (n.tdiv 10))) (.inl ⟨rfl, rfl⟩) ?_
   refine At.say 17 (.int .i64 (IntKind.i64.wrap (n.tdiv 10))) (.int .i64 (n / 10)) (by kernel_rfl) (sayQuo (by omega) (by omega) (by omega)) ?_
   refine At.z 1 ?_
   exact ⟨((n / 10), ((strOf ([(u8Of (48 + (n % 10)))])) ++ acc)), ⟨by omega, by rw [cat_size, strOf_size]; simp only [List.length_cons, List.length_nil]; omega, by rw [hR, markGo_step (by assumption)]⟩, (by simp only; omega), Sub.o [] [true, false, false, true]⟩
 refine AW.exit ?_
 refine AW.r ?_
 refine At.a 1 ?_
 refine At.cat (t := 9) (u := 9) (d := 19) (x := .const (.string ⟨#[109]⟩)) (y := .tmp 18) (a := (⟨#[109]⟩ : ByteArray)) (b := acc) (by kernel_rfl) (by kernel_rfl) (by kernel_rfl) (by kernel_rfl) (by have q : (⟨#[109]⟩ : ByteArray).size = 1 := rfl; rw [q]; omega) ?_
 refine At.z 1 ?_
 refine AW.ret ?_
 refine ⟨_, Sub.refl _ _, ?_⟩
 refine KF.conv (fun w => .str w) (fun w => []) (show ((⟨#[109]⟩ : ByteArray) ++ acc) = (markT k) from by rw [markT, if_neg (by omega), hR, markGo_zero (by assumption)]) ?_
 exact KF.n []
theorem laws_markEntryS_spec  (a : List Ent) (k : Int) (hk : 0 ≤ k) (ha : a.length ≤ 1048576) (he : ends nxE a k ≤ 4611686018427387904) : FnSpec Try.prog 42 [.ref 0, .int .i64 k] [.arr 56 6 (a.map encEnt)] (.int .i64 (ends nxE a k)) [.arr 56 6 ((marks markE nxE a k).map encEnt)] := by
 refine FnSpec.of 61 Try.func42 rfl Try.ntmps42 (by simp) (AW.weakK ?_)
 refine AW.q 1 ?_
 refine AW.seq ?_
 refine AW.q 1 ?_
 refine AW.block ?_
 refine AW.loopW (fun (x : Nat × Int × List Ent) => match x with | (i, kk, o) => Go.Sy.mk [.ref 0, .int .i64 kk, .un, .un, .un, .int .i64 (i : Int)] [(0, .arr 56 6 (o.map encEnt))]) (fun (x : Nat × Int × List Ent) => match x with | (i, kk, o) => 0 ≤ kk ∧ MInv markE nxE a k i kk o) (fun (x : Nat × Int × List Ent) => match x with | (i, kk, o) => a.length - i) (0, k, a) ⟨hk, MInv.start⟩ (Sub.o [(0, 0)] [true, true, false, false, false, true]) ?_
 rintro ⟨i, kk, o⟩ ⟨hkk, hR⟩
 have hle := hR.ge nxE_ge
 have hlo := hR.2.1
 refine AW.seq ?_
 refine AW.r ?_
 refine At.a 3 ?_
 refine At.sL 8 encEnt o ?_
 refine At.z 1 ?_
 refine AW.cD ((i : Int) < (o.length : Int)) (fun h1 => ?_) (fun h1 => ?_)
 · refine AW.skip ?_
   refine AW.seq ?_
   refine AW.block ?_
   refine AW.r ?_
   refine At.a 3 ?_
   refine At.iRf 32 15 (.tmp 12) (.tmp 13) 0 (o.map encEnt) .i64 (i : Int) 56 6 (by omega) (by simp only [List.length_map]; omega) ?_
   refine At.a 1 ?_
   refine Exists.elim (gE o i (by omega)) fun e1 he1 => ?_
   have hlt := hR.le nxE_ge he1
   rw [nxE] at hlt
   refine At.sEl 3 0 56 6 i 0 (.tmp 16) (.tmp 14) (o.map encEnt) ((o.set i (⟨kk, e1.cmd⟩ : Ent)).map encEnt) [.int .i64 kk] (.int .i64 kk) (encEnt e1) (encEnt (⟨kk, e1.cmd⟩ : Ent)) (mapGet he1) setV ?_
   refine At.done rfl ?_
   refine AW.r ?_
   refine At.a 2 ?_
   refine At.sI 18 (kk + 1) (by omega) ?_
   refine At.z 1 ?_
   refine AW.r ?_
   refine At.a 3 ?_
   refine At.iRf 32 22 (.tmp 19) (.tmp 20) 0 ((o.set i (⟨kk, e1.cmd⟩ : Ent)).map encEnt) .i64 (i : Int) 56 6 (by omega) (by simp only [List.length_map, List.length_append, List.length_take, List.length_drop, List.length_replicate, List.length_set, List.length_cons, List.length_nil]; omega) ?_
   refine At.a 2 ?_
   refine At.sEl 3 0 56 6 i 1 (.tmp 24) (.tmp 21) ((o.set i (⟨kk, e1.cmd⟩ : Ent)).map encEnt) ((o.set i (⟨kk, ⟨kk + 1, e1.cmd.release, e1.cmd.node, e1.cmd.size, e1.cmd.digest⟩⟩ : Ent)).map encEnt) [.int .i64 (kk + 1)] (.int .i64 (kk + 1)) (encEnt (⟨kk, e1.cmd⟩ : Ent)) (encEnt (⟨kk, ⟨kk + 1, e1.cmd.release, e1.cmd.node, e1.cmd.size, e1.cmd.digest⟩⟩ : Ent)) (mapGet (setGet he1)) setSetV ?_
   refine At.done rfl ?_
   refine AW.r ?_
   refine At.a 2 ?_
   refine At.sJ 26 ((kk + 1) + 1) (kk + 2) (by omega) (by omega) ?_
   refine At.z 1 ?_
   refine AW.r ?_
   refine At.a 3 ?_
   refine At.iRf 32 30 (.tmp 27) (.tmp 28) 0 ((o.set i (⟨kk, ⟨kk + 1, e1.cmd.release, e1.cmd.node, e1.cmd.size, e1.cmd.digest⟩⟩ : Ent)).map encEnt) .i64 (i : Int) 56 6 (by omega) (by simp only [List.length_map, List.length_append, List.length_take, List.length_drop, List.length_replicate, List.length_set, List.length_cons, List.length_nil]; omega) ?_
   refine At.a 2 ?_
   refine At.sEl 3 0 56 6 i 2 (.tmp 32) (.tmp 29) ((o.set i (⟨kk, ⟨kk + 1, e1.cmd.release, e1.cmd.node, e1.cmd.size, e1.cmd.digest⟩⟩ : Ent)).map encEnt) ((o.set i (⟨kk, ⟨kk + 1, kk + 2, e1.cmd.node, e1.cmd.size, e1.cmd.digest⟩⟩ : Ent)).map encEnt) [.int .i64 (kk + 2)] (.int .i64 (kk + 2)) (encEnt (⟨kk, ⟨kk + 1, e1.cmd.release, e1.cmd.node, e1.cmd.size, e1.cmd.digest⟩⟩ : Ent)) (encEnt (⟨kk, ⟨kk + 1, kk + 2, e1.cmd.node, e1.cmd.size, e1.cmd.digest⟩⟩ : Ent)) (mapGet (setGet he1)) setSetV ?_
   refine At.done rfl ?_
   refine AW.r ?_
   refine At.a 2 ?_
   refine At.sJ 34 ((kk + 2) + 1) (kk + 3) (by omega) (by omega) ?_
   refine At.z 1 ?_
   refine AW.r ?_
   refine At.a 3 ?_
   refine At.iRf 32 38 (.tmp 35) (.tmp 36) 0 ((o.set i (⟨kk, ⟨kk + 1, kk + 2, e1.cmd.node, e1.cmd.size, e1.cmd.digest⟩⟩ : Ent)).map encEnt) .i64 (i : Int) 56 6 (by omega) (by simp only [List.length_map, List.length_append, List.length_take, List.length_drop, List.length_replicate, List.length_set, List.length_cons, List.length_nil]; omega) ?_
   refine At.a 2 ?_
   refine At.sEl 3 0 56 6 i 3 (.tmp 40) (.tmp 37) ((o.set i (⟨kk, ⟨kk + 1, kk + 2, e1.cmd.node, e1.cmd.size, e1.cmd.digest⟩⟩ : Ent)).map encEnt) ((o.set i (⟨kk, ⟨kk + 1, kk + 2, kk + 3, e1.cmd.size, e1.cmd.digest⟩⟩ : Ent)).map encEnt) [.int .i64 (kk + 3)] (.int .i64 (kk + 3)) (encEnt (⟨kk, ⟨kk + 1, kk + 2, e1.cmd.node, e1.cmd.size, e1.cmd.digest⟩⟩ : Ent)) (encEnt (⟨kk, ⟨kk + 1, kk + 2, kk + 3, e1.cmd.size, e1.cmd.digest⟩⟩ : Ent)) (mapGet (setGet he1)) setSetV ?_
   refine At.done rfl ?_
   refine AW.r ?_
   refine At.a 2 ?_
   refine At.sJ 42 ((kk + 3) + 1) (kk + 4) (by omega) (by omega) ?_
   refine At.z 1 ?_
   refine AW.r ?_
   refine At.a 3 ?_
   refine At.iRf 32 46 (.tmp 43) (.tmp 44) 0 ((o.set i (⟨kk, ⟨kk + 1, kk + 2, kk + 3, e1.cmd.size, e1.cmd.digest⟩⟩ : Ent)).map encEnt) .i64 (i : Int) 56 6 (by omega) (by simp only [List.length_map, List.length_append, List.length_take, List.length_drop, List.length_replicate, List.length_set, List.length_cons, List.length_nil]; omega) ?_
   refine At.a 2 ?_
   refine At.sEl 3 0 56 6 i 4 (.tmp 48) (.tmp 45) ((o.set i (⟨kk, ⟨kk + 1, kk + 2, kk + 3, e1.cmd.size, e1.cmd.digest⟩⟩ : Ent)).map encEnt) ((o.set i (⟨kk, ⟨kk + 1, kk + 2, kk + 3, kk + 4, e1.cmd.digest⟩⟩ : Ent)).map encEnt) [.int .i64 (kk + 4)] (.int .i64 (kk + 4)) (encEnt (⟨kk, ⟨kk + 1, kk + 2, kk + 3, e1.cmd.size, e1.cmd.digest⟩⟩ : Ent)) (encEnt (⟨kk, ⟨kk + 1, kk + 2, kk + 3, kk + 4, e1.cmd.digest⟩⟩ : Ent)) (mapGet (setGet he1)) setSetV ?_
   refine At.done rfl ?_
   refine AW.r ?_
   refine At.a 2 ?_
   refine At.sJ 50 ((kk + 4) + 1) (kk + 5) (by omega) (by omega) ?_
   refine At.z 1 ?_
   refine AW.r ?_
   refine At.a 3 ?_
   refine At.c (laws_markText_spec  (kk + 5) (by omega)) Try.call72 true [] [] [] trivial ?_
   refine At.iRf 32 55 (.tmp 51) (.tmp 52) 0 ((o.set i (⟨kk, ⟨kk + 1, kk + 2, kk + 3, kk + 4, e1.cmd.digest⟩⟩ : Ent)).map encEnt) .i64 (i : Int) 56 6 (by omega) (by simp only [List.length_map, List.length_append, List.length_take, List.length_drop, List.length_replicate, List.length_set, List.length_cons, List.length_nil]; omega) ?_
   refine At.a 2 ?_
   refine At.sEl 9 0 56 6 i 5 (.tmp 57) (.tmp 54) ((o.set i (⟨kk, ⟨kk + 1, kk + 2, kk + 3, kk + 4, e1.cmd.digest⟩⟩ : Ent)).map encEnt) ((o.set i (⟨kk, ⟨kk + 1, kk + 2, kk + 3, kk + 4, markT (kk + 5)⟩⟩ : Ent)).map encEnt) [.str (markT (kk + 5))] (.str (markT (kk + 5))) (encEnt (⟨kk, ⟨kk + 1, kk + 2, kk + 3, kk + 4, e1.cmd.digest⟩⟩ : Ent)) (encEnt (⟨kk, ⟨kk + 1, kk + 2, kk + 3, kk + 4, markT (kk + 5)⟩⟩ : Ent)) (mapGet (setGet he1)) setSetV ?_
   refine At.done rfl ?_
   refine AW.g ?_
   refine At.a 2 ?_
   refine At.sJ 59 ((kk + 5) + 1) (kk + 6) (by omega) (by omega) ?_
   refine At.z 1 ?_
   refine AW.g ?_
   refine At.a 2 ?_
   refine At.sI 11 ((i : Int) + 1) (by omega) ?_
   refine At.z 1 ?_
   exact ⟨(i + 1, (kk + 6), (o.set i (⟨kk, ⟨kk + 1, kk + 2, kk + 3, kk + 4, markT (kk + 5)⟩⟩ : Ent))), ⟨by omega, hR.step he1 rfl rfl⟩, (by simp only; omega), Sub.o [(0, 0)] [true, true, false, false, false, true]⟩
 refine AW.exit ?_
 refine AW.q 2 ?_
 refine AW.ret ?_
 refine ⟨_, Sub.refl _ _, ?_⟩
 refine KF.conv (fun w => .int .i64 w) (fun w => [.arr 56 6 ((marks markE nxE a k).map encEnt)]) (show (kk) = (ends nxE a k) from (hR.done (by omega)).2) ?_
 refine KF.conv (fun w => .int .i64 kk) (fun w => [.arr 56 6 (w.map encEnt)]) (show (o) = (marks markE nxE a k) from (hR.done (by omega)).1) ?_
 exact KF.n [(0, 0)]
theorem laws_markMsg_spec  (a : Msg) (k : Int) (hk : 0 ≤ k) (ha : a.entries.length ≤ 1048576) (he : ends nxE a.entries k ≤ 4611686018427387904) : FnSpec Try.prog 12 [.agg [.int .i64 a.kind, .int .i64 a.from_, .int .i64 a.term, .int .i64 a.at_, .int .i64 a.atTerm, .int .i64 a.commit, .bool a.yes, .int .i64 a.release, .int .i64 a.part, .str a.bytes, .int .i64 a.cmd.kind, .int .i64 a.cmd.release, .int .i64 a.cmd.node, .int .i64 a.cmd.size, .str a.cmd.digest, .ref 0], .int .i64 k] [.arr 56 6 (a.entries.map encEnt)] (.int .i64 (ends nxE a.entries k)) [.arr 56 6 ((marks markE nxE a.entries k).map encEnt)] := by
 refine FnSpec.of 10 Try.func12 rfl Try.ntmps12 (by simp) (AW.weakK ?_)
 refine AW.q 2 ?_
 refine AW.r ?_
 refine At.a 3 ?_
 refine At.c (laws_markEntryS_spec  a.entries k (by omega) (by omega) (by omega)) Try.call42 true [(0, 0)] [] [] trivial ?_
 refine At.z 1 ?_
 refine AW.q 2 ?_
 exact AW.ret (rf (KF.n [(0, 0)]))
theorem laws_markByteS_spec  (a : List UInt8) (k : Int) (hk : 0 ≤ k) (ha : a.length ≤ 1048576) (he : ends nxU a k ≤ 4611686018427387904) : FnSpec Try.prog 13 [.ref 0, .int .i64 k] [.arr 5 1 (a.map encU8)] (.int .i64 (ends nxU a k)) [.arr 5 1 ((marks markU nxU a k).map encU8)] := by
 refine FnSpec.of 20 Try.func13 rfl Try.ntmps13 (by simp) (AW.weakK ?_)
 refine AW.q 1 ?_
 refine AW.seq ?_
 refine AW.q 1 ?_
 refine AW.block ?_
 refine AW.loopW (fun (x : Nat × Int × List UInt8) => match x with | (i, kk, o) => Go.Sy.mk [.ref 0, .int .i64 kk, .un, .un, .un, .int .i64 (i : Int)] [(0, .arr 5 1 (o.map encU8))]) (fun (x : Nat × Int × List UInt8) => match x with | (i, kk, o) => 0 ≤ kk ∧ MInv markU nxU a k i kk o) (fun (x : Nat × Int × List UInt8) => match x with | (i, kk, o) => a.length - i) (0, k, a) ⟨hk, MInv.start⟩ (Sub.o [(0, 0)] [true, true, false, false, false, true]) ?_
 rintro ⟨i, kk, o⟩ ⟨hkk, hR⟩
 have hle := hR.ge nxU_ge
 have hlo := hR.2.1
 refine AW.seq ?_
 refine AW.r ?_
 refine At.a 3 ?_
 refine At.sL 8 encU8 o ?_
 refine At.z 1 ?_
 refine AW.cD ((i : Int) < (o.length : Int)) (fun h1 => ?_) (fun h1 => ?_)
 · refine AW.skip ?_
   refine AW.seq ?_
   refine AW.block ?_
   refine AW.r ?_
   refine At.a 3 ?_
   refine At.conv (s := 3) (t := 5) (d := 15) (x := .tmp 14) (kd := .i64) (kd' := .u8) (a := kk) (.int .u8 ((u8Of kk).toNat : Int)) (by kernel_rfl) (by kernel_rfl) (by kernel_rfl) (by kernel_rfl) (sayByte _) ?_
   refine At.iRf 28 16 (.tmp 12) (.tmp 13) 0 (o.map encU8) .i64 (i : Int) 5 1 (by omega) (by simp only [List.length_map]; omega) ?_
   refine Exists.elim (gE o i (by omega)) fun e1 he1 => ?_
   have hlt := hR.le nxU_ge he1
   rw [nxU] at hlt
   refine At.sEl 5 0 5 1 i 0 (.tmp 16) (.tmp 15) (o.map encU8) ((o.set i (u8Of kk)).map encU8) [.int .u8 ((u8Of kk).toNat : Int)] (.int .u8 ((u8Of kk).toNat : Int)) (encU8 e1) (encU8 (u8Of kk)) (mapGet he1) setV ?_
   refine At.done rfl ?_
   refine AW.g ?_
   refine At.a 2 ?_
   refine At.sI 18 (kk + 1) (by omega) ?_
   refine At.z 1 ?_
   refine AW.g ?_
   refine At.a 2 ?_
   refine At.sI 11 ((i : Int) + 1) (by omega) ?_
   refine At.z 1 ?_
   exact ⟨(i + 1, (kk + 1), (o.set i (u8Of kk))), ⟨by omega, hR.step he1 rfl rfl⟩, (by simp only; omega), Sub.o [(0, 0)] [true, true, false, false, false, true]⟩
 refine AW.exit ?_
 refine AW.q 2 ?_
 refine AW.ret ?_
 refine ⟨_, Sub.refl _ _, ?_⟩
 refine KF.conv (fun w => .int .i64 w) (fun w => [.arr 5 1 ((marks markU nxU a k).map encU8)]) (show (kk) = (ends nxU a k) from (hR.done (by omega)).2) ?_
 refine KF.conv (fun w => .int .i64 kk) (fun w => [.arr 5 1 (w.map encU8)]) (show (o) = (marks markU nxU a k) from (hR.done (by omega)).1) ?_
 exact KF.n [(0, 0)]
theorem laws_heldByteS_spec  (a : List UInt8) (k : Int) (ha : a.length ≤ 1048576) (hk : 0 ≤ k ∧ k + 20 * a.length ≤ 4611686018427387904) : FnSpec Try.prog 14 [.sl false 1 (a.map encU8), .int .i64 k] [] (.int .i64 (held okU nxU a k)) [] := by
 refine FnSpec.of 22 Try.func14 rfl Try.ntmps14 (by simp) (AW.weakK ?_)
 refine AW.q 1 ?_
 refine AW.seq ?_
 refine AW.q 1 ?_
 refine AW.block ?_
 refine AW.loopW (fun (x : Nat × Int) => match x with | (i, kk) => Go.Sy.mk [.sl false 1 (a.map encU8), .int .i64 kk, .un, .un, .un, .int .i64 (i : Int)] []) (fun (x : Nat × Int) => match x with | (i, kk) => i ≤ a.length ∧ 0 ≤ kk ∧ kk + 20 * ((a.length : Int) - i) ≤ 4611686018427387904 ∧ held okU nxU a k = held okU nxU (a.drop i) kk) (fun (x : Nat × Int) => match x with | (i, kk) => a.length - i) (0, k) ⟨by omega, by omega, by omega, by rw [List.drop_zero]⟩ (Sub.o [] [true, true, false, false, false, true]) ?_
 rintro ⟨i, kk⟩ ⟨hi, hkk, hkb, hR⟩
 refine AW.seq ?_
 refine AW.r ?_
 refine At.a 3 ?_
 refine At.sL 8 encU8 a ?_
 refine At.z 1 ?_
 refine AW.cD ((i : Int) < (a.length : Int)) (fun h1 => ?_) (fun h1 => ?_)
 · refine AW.skip ?_
   refine AW.seq ?_
   refine AW.block ?_
   refine AW.seq ?_
   refine AW.r ?_
   refine At.a 2 ?_
   refine At.iSl 28 14 (.tmp 12) (.tmp 13) false 1 (a.map encU8) .i64 (i : Int) 5 (by omega) (by simp only [List.length_map]; omega) ?_
   refine Exists.elim (gE a i (by omega)) fun e1 he1 => ?_
   refine At.lVp 5 15 (.tmp 14) false 1 (a.map encU8) i 0 false 1 (encU8 e1) (.int .u8 (e1.toNat : Int)) (mapGet he1) ?_
   refine At.a 1 ?_
   refine At.conv (s := 3) (t := 5) (d := 17) (x := .tmp 16) (kd := .i64) (kd' := .u8) (a := kk) (.int .u8 ((u8Of kk).toNat : Int)) (by kernel_rfl) (by kernel_rfl) (by kernel_rfl) (by kernel_rfl) (sayByte _) ?_
   refine At.z 1 ?_
   refine AW.cU (e1.toNat : Int) ((u8Of kk).toNat : Int) (fun h2 => ?_) (fun h2 => ?_)
   · refine AW.q 1 ?_
     refine AW.ret ?_
     refine ⟨_, Sub.refl _ _, ?_⟩
     refine KF.conv (fun w => .int .i64 w) (fun w => []) (show (-1) = (held okU nxU a k) from by rw [hR, dropCons he1, held, if_neg (by simp [okU, h1, h2])]) ?_
     exact KF.n []
   refine AW.skip ?_
   refine AW.g ?_
   refine At.a 2 ?_
   refine At.sI 20 (kk + 1) (by omega) ?_
   refine At.z 1 ?_
   refine AW.g ?_
   refine At.a 2 ?_
   refine At.sI 11 ((i : Int) + 1) (by omega) ?_
   refine At.z 1 ?_
   exact ⟨(i + 1, (kk + 1)), ⟨by omega, by omega, by omega, by rw [hR, dropCons he1, held, if_pos (by simp [okU, h1, h2])]; rfl⟩, (by simp only; omega), Sub.o [] [true, true, false, false, false, true]⟩
 refine AW.exit ?_
 refine AW.q 2 ?_
 refine AW.ret ?_
 refine ⟨_, Sub.refl _ _, ?_⟩
 refine KF.conv (fun w => .int .i64 w) (fun w => []) (show (kk) = (held okU nxU a k) from by rw [hR, List.drop_of_length_le (by omega)]; rfl) ?_
 exact KF.n []
theorem laws_FnExactMsgPack_spec  (aM : Msg) (hd : BigM aM) : FnSpec Try.prog 3 [(msgA aM)] [] (.bool true) [] := by
 refine FnSpec.of 96 Try.func3 rfl Try.ntmps3 (by simp) (AW.weakK ?_)
 refine AW.q 2 ?_
 refine AW.q 1 ?_
 refine AW.r ?_
 refine At.a 2 ?_
 refine At.c (laws_szMsg_spec  aM 1048576 (by omega) hd) Try.call6 true [] [] [] trivial ?_
 refine At.z 1 ?_
 refine AW.seq ?_
 refine AW.q 2 ?_
 refine AW.cD ((szMsg aM 1048576) < 0) (fun h1 => ?_) (fun h1 => ?_)
 · refine AW.q 1 ?_
   exact AW.ret (rf (KF.n []))
 have hm := (szMsg_small (by omega) h1).1
 have hpl := msgP_len aM
 have hee := endsE_eq aM.entries 1
 have heu := endsU_eq (msgP aM) 1
 refine AW.skip ?_
 refine AW.r ?_
 refine At.a 1 ?_
 refine At.c (laws_toMsg_spec  aM hm) Try.call8 true [] [(1420, 0)] [] trivial ?_
 refine At.c (spec_MsgPack_spec  aM hm) Try.call7 false [] [(1440, 0)] [(1420, 6, (aM.entries.map encEnt))] ⟨rfl, ⟨56, (aM.entries.map encEnt), by kernel_rfl, FrzIs.same (allP_encEnt _)⟩, trivial⟩ ?_
 refine At.z 5 ?_
 refine AW.r ?_
 refine At.a 1 ?_
 refine At.c (laws_toMsg_spec  aM hm) Try.call8 true [] [(1520, 0)] [] trivial ?_
 refine At.z 2 ?_
 refine AW.r ?_
 refine At.a 1 ?_
 refine At.c (impl_MsgPack_spec  aM hm) Try.call9 false [] [(1580, 0)] [(1520, 6, (aM.entries.map encEnt))] ⟨rfl, ⟨56, (aM.entries.map encEnt), by kernel_rfl, FrzIs.same (allP_encEnt _)⟩, trivial⟩ ?_
 refine At.z 5 ?_
 refine AW.seq ?_
 refine AW.r ?_
 refine At.a 2 ?_
 refine At.c (laws_eqByteS_spec  (msgP aM) (msgP aM) (by omega) (by omega)) Try.call10 false [] [] [(1580, 1, ((msgP aM).map encU8)), (1440, 1, ((msgP aM).map encU8))] ⟨rfl, ⟨5, ((msgP aM).map encU8), by kernel_rfl, FrzIs.same (allP_encU8 _)⟩, rfl, ⟨5, ((msgP aM).map encU8), by kernel_rfl, FrzIs.same (allP_encU8 _)⟩, trivial⟩ ?_
 refine At.a 2 ?_
 refine At.sB 36 (!(listEq eqU (msgP aM) (msgP aM))) false (sayB (by rw [show (listEq eqU (msgP aM) (msgP aM)) = true from (listEqU_refl _)]; rfl)) ?_
 refine At.a 2 ?_
 refine At.eqB (t := 4) (u := 4) (d := 39) (op := .neq) (x := .tmp 37) (y := .tmp 38) (a := (msgPok aM)) (b := (msgPok aM)) (by kernel_rfl) (by kernel_rfl) (by kernel_rfl) (by kernel_rfl) (by kernel_rfl) (.bool (!((msgPok aM) == (msgPok aM)))) (.inr ⟨rfl, rfl⟩) ?_
 refine At.z 1 ?_
 refine AW.condF (!((msgPok aM) == (msgPok aM))) (by kernel_rfl) (by rw [show ((msgPok aM) == (msgPok aM)) = true from (by simp)]; rfl) ?_
 refine AW.skip ?_
 refine AW.seq ?_
 refine AW.seq ?_
 refine AW.gD Try_mix ?_
 refine At.a 2 ?_
 refine At.c (laws_toMsg_spec  aM hm) Try.call8 true [] [(1860, 0)] [] trivial ?_
 refine At.c (laws_eqMsg_spec  aM aM hm hm) Try.call11 false [] [] [(1520, 6, (aM.entries.map encEnt)), (1860, 6, (aM.entries.map encEnt))] ⟨rfl, ⟨56, (aM.entries.map encEnt), by kernel_rfl, FrzIs.same (allP_encEnt _)⟩, rfl, ⟨56, (aM.entries.map encEnt), by kernel_rfl, FrzIs.same (allP_encEnt _)⟩, trivial⟩ ?_
 refine At.zD 1 ?_
 refine AW.condF (!(msgEq aM aM)) (by kernel_rfl) (by rw [show (msgEq aM aM) = true from (msgEq_refl _)]; rfl) ?_
 refine AW.skip ?_
 refine AW.q 1 ?_
 refine AW.r ?_
 refine At.a 2 ?_
 refine At.c (laws_markMsg_spec  aM 1 (by omega) hm (by omega)) Try.call12 true [(1520, 0)] [] [] trivial ?_
 refine At.z 1 ?_
 refine AW.seq ?_
 refine AW.r ?_
 refine At.a 3 ?_
 refine At.sB 51 (decide ((ends nxE aM.entries 1) < 0)) false (sayB (decide_eq_false (by omega))) ?_
 refine At.a 2 ?_
 refine At.c (laws_eqByteS_spec  (msgP aM) (msgP aM) (by omega) (by omega)) Try.call10 false [] [] [(1580, 1, ((msgP aM).map encU8)), (1440, 1, ((msgP aM).map encU8))] ⟨rfl, ⟨5, ((msgP aM).map encU8), by kernel_rfl, FrzIs.same (allP_encU8 _)⟩, rfl, ⟨5, ((msgP aM).map encU8), by kernel_rfl, FrzIs.same (allP_encU8 _)⟩, trivial⟩ ?_
 refine At.a 3 ?_
 refine At.sB 57 (!(listEq eqU (msgP aM) (msgP aM))) false (sayB (by rw [show (listEq eqU (msgP aM) (msgP aM)) = true from (listEqU_refl _)]; rfl)) ?_
 refine At.a 2 ?_
 refine At.eqB (t := 4) (u := 4) (d := 60) (op := .neq) (x := .tmp 58) (y := .tmp 59) (a := (msgPok aM)) (b := (msgPok aM)) (by kernel_rfl) (by kernel_rfl) (by kernel_rfl) (by kernel_rfl) (by kernel_rfl) (.bool (!((msgPok aM) == (msgPok aM)))) (.inr ⟨rfl, rfl⟩) ?_
 refine At.z 1 ?_
 refine AW.condF (!((msgPok aM) == (msgPok aM))) (by kernel_rfl) (by rw [show ((msgPok aM) == (msgPok aM)) = true from (by simp)]; rfl) ?_
 refine AW.skip ?_
 refine AW.q 1 ?_
 refine AW.r ?_
 refine At.a 2 ?_
 refine At.c (laws_markByteS_spec  (msgP aM) 1 (by omega) (by omega) (by omega)) Try.call13 true [(1580, 0)] [] [] trivial ?_
 refine At.z 1 ?_
 refine AW.q 1 ?_
 refine AW.r ?_
 refine At.a 2 ?_
 refine At.c (laws_heldByteS_spec  (marks markU nxU (msgP aM) 1) 1 (by rw [marks_len]; omega) (by rw [marks_len]; omega)) Try.call14 false [] [] [(1580, 1, ((marks markU nxU (msgP aM) 1).map encU8))] ⟨rfl, ⟨5, ((marks markU nxU (msgP aM) 1).map encU8), by kernel_rfl, FrzIs.same (allP_encU8 _)⟩, trivial⟩ ?_
 refine At.say 67 (.int .i64 (held okU nxU (marks markU nxU (msgP aM) 1) 1)) (.int .i64 (ends nxU (msgP aM) 1)) (by kernel_rfl) (congrArg (V.int .i64) (held_bytes _ _ (by omega))) ?_
 refine At.z 1 ?_
 refine AW.seq ?_
 refine AW.q 2 ?_
 refine AW.condF (decide ((ends nxU (msgP aM) 1) < 0)) (by kernel_rfl) (decide_eq_false (by omega)) ?_
 refine AW.skip ?_
 refine AW.seq ?_
 refine AW.q 3 ?_
 refine AW.condF ((ends nxU (msgP aM) 1) != (ends nxU (msgP aM) 1)) (by kernel_rfl) (by simp) ?_
 refine AW.skip ?_
 refine AW.r ?_
 refine At.a 1 ?_
 refine At.c (laws_toMsg_spec  aM hm) Try.call8 true [] [(2500, 0)] [] trivial ?_
 refine At.c (impl_MsgPack_spec  aM hm) Try.call9 false [] [(2520, 0)] [(2500, 6, (aM.entries.map encEnt))] ⟨rfl, ⟨56, (aM.entries.map encEnt), by kernel_rfl, FrzIs.same (allP_encEnt _)⟩, trivial⟩ ?_
 refine At.z 5 ?_
 refine AW.seq ?_
 refine AW.r ?_
 refine At.a 2 ?_
 refine At.c (laws_eqByteS_spec  (msgP aM) (msgP aM) (by omega) (by omega)) Try.call10 false [] [] [(2520, 1, ((msgP aM).map encU8)), (1440, 1, ((msgP aM).map encU8))] ⟨rfl, ⟨5, ((msgP aM).map encU8), by kernel_rfl, FrzIs.same (allP_encU8 _)⟩, rfl, ⟨5, ((msgP aM).map encU8), by kernel_rfl, FrzIs.same (allP_encU8 _)⟩, trivial⟩ ?_
 refine At.a 2 ?_
 refine At.sB 83 (!(listEq eqU (msgP aM) (msgP aM))) false (sayB (by rw [show (listEq eqU (msgP aM) (msgP aM)) = true from (listEqU_refl _)]; rfl)) ?_
 refine At.a 2 ?_
 refine At.eqB (t := 4) (u := 4) (d := 86) (op := .neq) (x := .tmp 84) (y := .tmp 85) (a := (msgPok aM)) (b := (msgPok aM)) (by kernel_rfl) (by kernel_rfl) (by kernel_rfl) (by kernel_rfl) (by kernel_rfl) (.bool (!((msgPok aM) == (msgPok aM)))) (.inr ⟨rfl, rfl⟩) ?_
 refine At.z 1 ?_
 refine AW.condF (!((msgPok aM) == (msgPok aM))) (by kernel_rfl) (by rw [show ((msgPok aM) == (msgPok aM)) = true from (by simp)]; rfl) ?_
 refine AW.skip ?_
 refine AW.q 1 ?_
 refine AW.r ?_
 refine At.a 2 ?_
 refine At.c (laws_heldByteS_spec  (marks markU nxU (msgP aM) 1) 1 (by rw [marks_len]; omega) (by rw [marks_len]; omega)) Try.call14 false [] [] [(1580, 1, ((marks markU nxU (msgP aM) 1).map encU8))] ⟨rfl, ⟨5, ((marks markU nxU (msgP aM) 1).map encU8), by kernel_rfl, FrzIs.same (allP_encU8 _)⟩, trivial⟩ ?_
 refine At.say 90 (.int .i64 (held okU nxU (marks markU nxU (msgP aM) 1) 1)) (.int .i64 (ends nxU (msgP aM) 1)) (by kernel_rfl) (congrArg (V.int .i64) (held_bytes _ _ (by omega))) ?_
 refine At.z 1 ?_
 refine AW.seq ?_
 refine AW.q 2 ?_
 refine AW.condF (decide ((ends nxU (msgP aM) 1) < 0)) (by kernel_rfl) (decide_eq_false (by omega)) ?_
 refine AW.skip ?_
 refine AW.seq ?_
 refine AW.q 3 ?_
 refine AW.condF ((ends nxU (msgP aM) 1) != (ends nxU (msgP aM) 1)) (by kernel_rfl) (by simp) ?_
 refine AW.skip ?_
 refine AW.q 1 ?_
 exact AW.ret (rf (KF.n []))
end Go.Proofs.Ythjmbojkpkbedaa
