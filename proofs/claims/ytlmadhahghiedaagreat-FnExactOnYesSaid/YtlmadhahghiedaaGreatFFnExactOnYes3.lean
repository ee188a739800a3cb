/- The contracts of the functions that FnExactOnYes reaches (each: what it answers, said over values), printed by a program of this session (wip/sy/g/gen.py). -/
import Derived.Test.YtlmadhahghiedaaGreatFFnExactOnYes2
set_option linter.unusedVariables false
set_option linter.unusedSimpArgs false
namespace Go.Proofs.YtlmadhahghiedaaGreat
open Go Go.Sy Go.Proofs
set_option maxRecDepth 100000 in
set_option maxHeartbeats 4000000 in
theorem impl_stepOf_spec  (r : Raft) (hz : SmallR r) : FnSpec Tryz.prog 80 [.agg [.int .i64 r.id, .int .i64 r.of_, .int .i64 r.role, .int .i64 r.commit, .int .i64 r.hard.term, .int .i64 r.hard.vote, .sl false 6 (r.hard.log.map encEnt), .sl false 1 (r.yes.map encI), .sl false 1 (r.next.map encI), .sl false 1 (r.match_.map encI)]] [] (.ptr 0 0 0) [.box 102 [.int .i64 r.id, .int .i64 r.of_, .int .i64 r.role, .int .i64 r.commit, .int .i64 r.hard.term, .int .i64 r.hard.vote, .ref 1, .ref 2, .ref 3, .ref 4, .int .i64 r.id, .int .i64 r.of_, .int .i64 r.role, .int .i64 r.commit, .int .i64 r.hard.term, .int .i64 r.hard.vote, .sl false 6 (r.hard.log.map encEnt), .sl false 1 (r.yes.map encI), .sl false 1 (r.next.map encI), .sl false 1 (r.match_.map encI), .ref 5, .ref 6], .arr 45 6 (r.hard.log.map encEnt), .arr 3 1 (r.yes.map encI), .arr 3 1 (r.next.map encI), .arr 3 1 (r.match_.map encI), .arr 47 10 [], .arr 51 17 []] := by
  obtain ⟨z1, z2, z3, z4⟩ := id hz
  refine FnSpec.of 8 Tryz.func80 rfl Tryz.ntmps80 (by simp) (AW.weakK ?_)
  refine AW.r ?_
  refine At.a 2 ?_
  refine At.done rfl ?_
  refine AW.seq ?_
  refine AW.regionD Tryz_mix (At.start ?_)
  refine At.a 1 ?_
  refine At.c (impl_copyRaft_spec  r (by omega)) Tryz.call157 true [] [(1080, 0), (1081, 1), (1082, 2), (1083, 3)] [] trivial ?_
  refine At.a 4 ?_
  refine At.done rfl ⟨by kernel_rfl, ?_⟩
  refine AW.ret ?_
  refine ⟨_, Sub.nils [⟨true, 107, some 20, 5001, 47, 10⟩, ⟨true, 107, some 21, 5002, 51, 17⟩] (by kernel_rfl), ?_⟩
  exact KF.m [(107, 0), (1080, 1), (1081, 2), (1082, 3), (1083, 4), (5001, 5), (5002, 6)] [.ptr 107 0 0]
set_option maxRecDepth 100000 in
set_option maxHeartbeats 4000000 in
theorem impl_isOf_spec  (of : Int) : FnSpec Tryz.prog 68 [.int .i64 of] [] (.bool (ofOk of)) [] := by
  refine FnSpec.of 13 Tryz.func68 rfl Tryz.ntmps68 (by simp) (AW.weakK ?_)
  refine AW.r ?_
  refine At.a 1 ?_
  refine At.done rfl ?_
  refine AW.r ?_
  refine At.a 3 ?_
  by_cases h1 : of = 1
  · refine At.sB 5 (of == 1) true (sayET h1) ?_
    refine At.a 8 ?_
    refine At.done rfl ?_
    refine AW.ret ?_
    refine ⟨_, Sub.refl _ _, ?_⟩
    refine KF.conv (fun w => .bool w) (fun w => []) (show (true) = (ofOk of) from by simp_all [ofOk]) ?_
    exact KF.m [] [.bool true]
  · refine At.sB 5 (of == 1) false (sayEF h1) ?_
    refine At.a 4 ?_
    by_cases h2 : of = 3
    · refine At.sB 9 (of == 3) true (sayET h2) ?_
      refine At.a 4 ?_
      refine At.done rfl ?_
      refine AW.ret ?_
      refine ⟨_, Sub.refl _ _, ?_⟩
      refine KF.conv (fun w => .bool w) (fun w => []) (show (true) = (ofOk of) from by simp_all [ofOk]) ?_
      exact KF.m [] [.bool true]
    · refine At.sB 9 (of == 3) false (sayEF h2) ?_
      refine At.a 4 ?_
      refine At.done rfl ?_
      refine AW.ret ?_
      refine ⟨_, Sub.refl _ _, ?_⟩
      refine KF.conv (fun w => .bool w) (fun w => []) (show (of == 5) = (ofOk of) from by simp_all [ofOk]) ?_
      exact KF.m [] [.bool (of == 5)]
set_option maxRecDepth 100000 in
set_option maxHeartbeats 4000000 in
theorem impl_within_spec  (n : Int) (low : Int) (high : Int) : FnSpec Tryz.prog 69 [.int .i64 n, .int .i64 low, .int .i64 high] [] (.bool (inR n low high)) [] := by
  refine FnSpec.of 15 Tryz.func69 rfl Tryz.ntmps69 (by simp) (AW.weakK ?_)
  refine AW.r ?_
  refine At.a 1 ?_
  refine At.done rfl ?_
  refine AW.r ?_
  refine At.a 4 ?_
  by_cases h1 : n ≥ low
  · refine At.sB 10 (decide (n ≥ low)) true (sayT h1) ?_
    refine At.a 5 ?_
    refine At.done rfl ?_
    refine AW.ret ?_
    refine ⟨_, Sub.refl _ _, ?_⟩
    refine KF.conv (fun w => .bool w) (fun w => []) (show (decide (n ≤ high)) = (inR n low high) from by simp [inR, *]) ?_
    exact KF.m [] [.bool (decide (n ≤ high))]
  · refine At.sB 10 (decide (n ≥ low)) false (sayF h1) ?_
    refine At.a 5 ?_
    refine At.done rfl ?_
    refine AW.ret ?_
    refine ⟨_, Sub.refl _ _, ?_⟩
    refine KF.conv (fun w => .bool w) (fun w => []) (show (false) = (inR n low high) from by simp [inR, *]) ?_
    exact KF.m [] [.bool false]
set_option maxRecDepth 100000 in
set_option maxHeartbeats 4000000 in
theorem impl_isRelease_spec  (n : Int) : FnSpec Tryz.prog 153 [.int .i64 n] [] (.bool (inR n 1 1000)) [] := by
  refine FnSpec.of 5 Tryz.func153 rfl Tryz.ntmps153 (by simp) (AW.weakK ?_)
  refine AW.r ?_
  refine At.a 1 ?_
  refine At.done rfl ?_
  refine AW.r ?_
  refine At.a 1 ?_
  refine At.c (impl_within_spec  n 1 1000 ) Tryz.call69 true [] [] [] trivial ?_
  refine At.a 1 ?_
  refine At.done rfl ?_
  refine AW.ret ?_
  refine ⟨_, Sub.refl _ _, ?_⟩
  exact KF.m [] [.bool (inR n 1 1000)]
set_option maxRecDepth 100000 in
set_option maxHeartbeats 4000000 in
theorem impl_isSize_spec  (n : Int) : FnSpec Tryz.prog 154 [.int .i64 n] [] (.bool (inR n 0 1000)) [] := by
  refine FnSpec.of 5 Tryz.func154 rfl Tryz.ntmps154 (by simp) (AW.weakK ?_)
  refine AW.r ?_
  refine At.a 1 ?_
  refine At.done rfl ?_
  refine AW.r ?_
  refine At.a 1 ?_
  refine At.c (impl_within_spec  n 0 1000 ) Tryz.call69 true [] [] [] trivial ?_
  refine At.a 1 ?_
  refine At.done rfl ?_
  refine AW.ret ?_
  refine ⟨_, Sub.refl _ _, ?_⟩
  exact KF.m [] [.bool (inR n 0 1000)]
set_option maxRecDepth 100000 in
set_option maxHeartbeats 4000000 in
theorem impl_isNode_spec  (n : Int) : FnSpec Tryz.prog 152 [.int .i64 n] [] (.bool (inR n 0 4)) [] := by
  refine FnSpec.of 5 Tryz.func152 rfl Tryz.ntmps152 (by simp) (AW.weakK ?_)
  refine AW.r ?_
  refine At.a 1 ?_
  refine At.done rfl ?_
  refine AW.r ?_
  refine At.a 1 ?_
  refine At.c (impl_within_spec  n 0 4 ) Tryz.call69 true [] [] [] trivial ?_
  refine At.a 1 ?_
  refine At.done rfl ?_
  refine AW.ret ?_
  refine ⟨_, Sub.refl _ _, ?_⟩
  exact KF.m [] [.bool (inR n 0 4)]
set_option maxRecDepth 100000 in
set_option maxHeartbeats 4000000 in
theorem impl_CmdOk_spec  (c : Cmd) : FnSpec Tryz.prog 101 [.agg [.int .i64 c.kind, .int .i64 c.release, .int .i64 c.node, .int .i64 c.size, .str c.digest]] [] (.bool (cmdOk c)) [] := by
  refine FnSpec.of 52 Tryz.func101 rfl Tryz.ntmps101 (by simp) (AW.weakK ?_)
  refine AW.r ?_
  refine At.a 2 ?_
  refine At.done rfl ?_
  refine AW.r ?_
  refine At.a 3 ?_
  refine At.done rfl ?_
  refine AW.r ?_
  refine At.a 4 ?_
  refine At.done rfl ?_
  refine AW.r ?_
  refine At.a 2 ?_
  refine At.c (impl_isRelease_spec  c.release ) Tryz.call153 true [] [] [] trivial ?_
  refine At.a 1 ?_
  refine At.done rfl ?_
  refine AW.seq ?_
  refine AW.r ?_
  refine At.a 2 ?_
  refine At.done rfl ?_
  refine AW.block ?_
  refine AW.r ?_
  refine At.a 2 ?_
  refine At.done rfl ?_
  refine AW.cE c.kind (1 : Int) (fun h1 => ?_) (fun h1 => ?_)
  · skip
    refine AW.region (At.start ?_)
    refine At.a 4 ?_
    refine At.done rfl ?_
    refine AW.r ?_
    refine At.a 2 ?_
    by_cases h2 : c.release = 0
    · refine At.sB 47 (c.release == 0) true (sayET h2) ?_
      refine At.a 2 ?_
      refine At.eqA (t := 31) (u := 31) (d := 50) (op := .eql) (x := .tmp 48) (y := .tmp 49) (X := [.int .i64 0, .int .i64 0, .int .i64 c.node, .int .i64 c.size, .str c.digest]) (Y := [.int .i64 0, .int .i64 0, .int .i64 0, .int .i64 0, .str (⟨#[]⟩ : ByteArray)]) (cmdEq (⟨0, 0, c.node, c.size, c.digest⟩ : Cmd) (⟨0, 0, 0, 0, (⟨#[]⟩ : ByteArray)⟩ : Cmd)) (by kernel_rfl) (by kernel_rfl) (by kernel_rfl) (by kernel_rfl) (by kernel_rfl) (.bool (cmdEq (⟨0, 0, c.node, c.size, c.digest⟩ : Cmd) (⟨0, 0, 0, 0, (⟨#[]⟩ : ByteArray)⟩ : Cmd))) (.inl ⟨rfl, rfl⟩) ?_
      refine At.a 2 ?_
      refine At.done rfl ?_
      refine AW.ret ?_
      refine ⟨_, Sub.refl _ _, ?_⟩
      refine KF.conv (fun w => .bool w) (fun w => []) (show (cmdEq (⟨0, 0, c.node, c.size, c.digest⟩ : Cmd) (⟨0, 0, 0, 0, (⟨#[]⟩ : ByteArray)⟩ : Cmd)) = (cmdOk c) from by (try simp only [inR_iff, inR_not] at *); rw [Bool.eq_iff_iff]; simp only [cmdOk, cmdEq, noBytes]; (repeat' split) <;> (try simp [inR_iff]) <;> grind) ?_
      exact KF.m [] [.bool (cmdEq (⟨0, 0, c.node, c.size, c.digest⟩ : Cmd) (⟨0, 0, 0, 0, (⟨#[]⟩ : ByteArray)⟩ : Cmd))]
    · refine At.sB 47 (c.release == 0) false (sayEF h2) ?_
      refine At.a 5 ?_
      refine At.done rfl ?_
      refine AW.ret ?_
      refine ⟨_, Sub.refl _ _, ?_⟩
      refine KF.conv (fun w => .bool w) (fun w => []) (show (false) = (cmdOk c) from by (try simp only [inR_iff, inR_not] at *); rw [Bool.eq_iff_iff]; simp only [cmdOk, cmdEq, noBytes]; (repeat' split) <;> (try simp [inR_iff]) <;> grind) ?_
      exact KF.m [] [.bool false]
  · skip
    refine AW.r ?_
    refine At.a 2 ?_
    refine At.done rfl ?_
    refine AW.cE c.kind (2 : Int) (fun h3 => ?_) (fun h3 => ?_)
    · skip
      refine AW.r ?_
      refine At.a 2 ?_
      by_cases h4 : (inR c.release 1 1000) = true
      · refine At.sB 21 (inR c.release 1 1000) true (sayB h4) ?_
        refine At.a 2 ?_
        refine At.c (impl_isSize_spec  c.size ) Tryz.call154 true [] [] [] trivial ?_
        refine At.a 2 ?_
        by_cases h5 : (inR c.size 0 1000) = true
        · refine At.sB 26 (inR c.size 0 1000) true (sayB h5) ?_
          refine At.a 6 ?_
          refine At.done rfl ?_
          refine AW.region (At.start ?_)
          refine At.a 4 ?_
          refine At.done rfl ?_
          refine AW.r ?_
          refine At.a 2 ?_
          by_cases h6 : (c.digest.size : Int) = 32
          · refine At.sB 47 ((c.digest.size : Int) == 32) true (sayET h6) ?_
            refine At.a 2 ?_
            refine At.eqA (t := 31) (u := 31) (d := 50) (op := .eql) (x := .tmp 48) (y := .tmp 49) (X := [.int .i64 0, .int .i64 0, .int .i64 c.node, .int .i64 0, .str (⟨#[]⟩ : ByteArray)]) (Y := [.int .i64 0, .int .i64 0, .int .i64 0, .int .i64 0, .str (⟨#[]⟩ : ByteArray)]) (cmdEq (⟨0, 0, c.node, 0, (⟨#[]⟩ : ByteArray)⟩ : Cmd) (⟨0, 0, 0, 0, (⟨#[]⟩ : ByteArray)⟩ : Cmd)) (by kernel_rfl) (by kernel_rfl) (by kernel_rfl) (by kernel_rfl) (by kernel_rfl) (.bool (cmdEq (⟨0, 0, c.node, 0, (⟨#[]⟩ : ByteArray)⟩ : Cmd) (⟨0, 0, 0, 0, (⟨#[]⟩ : ByteArray)⟩ : Cmd))) (.inl ⟨rfl, rfl⟩) ?_
            refine At.a 2 ?_
            refine At.done rfl ?_
            refine AW.ret ?_
            refine ⟨_, Sub.refl _ _, ?_⟩
            refine KF.conv (fun w => .bool w) (fun w => []) (show (cmdEq (⟨0, 0, c.node, 0, (⟨#[]⟩ : ByteArray)⟩ : Cmd) (⟨0, 0, 0, 0, (⟨#[]⟩ : ByteArray)⟩ : Cmd)) = (cmdOk c) from by (try simp only [inR_iff, inR_not] at *); rw [Bool.eq_iff_iff]; simp only [cmdOk, cmdEq, noBytes]; (repeat' split) <;> (try simp [inR_iff]) <;> grind) ?_
            exact KF.m [] [.bool (cmdEq (⟨0, 0, c.node, 0, (⟨#[]⟩ : ByteArray)⟩ : Cmd) (⟨0, 0, 0, 0, (⟨#[]⟩ : ByteArray)⟩ : Cmd))]
          · refine At.sB 47 ((c.digest.size : Int) == 32) false (sayEF h6) ?_
            refine At.a 5 ?_
            refine At.done rfl ?_
            refine AW.ret ?_
            refine ⟨_, Sub.refl _ _, ?_⟩
            refine KF.conv (fun w => .bool w) (fun w => []) (show (false) = (cmdOk c) from by (try simp only [inR_iff, inR_not] at *); rw [Bool.eq_iff_iff]; simp only [cmdOk, cmdEq, noBytes]; (repeat' split) <;> (try simp [inR_iff]) <;> grind) ?_
            exact KF.m [] [.bool false]
        · refine At.sB 26 (inR c.size 0 1000) false (sayB (Bool.eq_false_iff.2 h5)) ?_
          replace h5 := Bool.eq_false_iff.2 h5
          refine At.a 6 ?_
          refine At.done rfl ?_
          refine AW.region (At.start ?_)
          refine At.a 4 ?_
          refine At.done rfl ?_
          refine AW.r ?_
          refine At.a 7 ?_
          refine At.done rfl ?_
          refine AW.ret ?_
          refine ⟨_, Sub.refl _ _, ?_⟩
          refine KF.conv (fun w => .bool w) (fun w => []) (show (false) = (cmdOk c) from by (try simp only [inR_iff, inR_not] at *); rw [Bool.eq_iff_iff]; simp only [cmdOk, cmdEq, noBytes]; (repeat' split) <;> (try simp [inR_iff]) <;> grind) ?_
          exact KF.m [] [.bool false]
      · refine At.sB 21 (inR c.release 1 1000) false (sayB (Bool.eq_false_iff.2 h4)) ?_
        replace h4 := Bool.eq_false_iff.2 h4
        refine At.a 11 ?_
        refine At.done rfl ?_
        refine AW.region (At.start ?_)
        refine At.a 4 ?_
        refine At.done rfl ?_
        refine AW.r ?_
        refine At.a 7 ?_
        refine At.done rfl ?_
        refine AW.ret ?_
        refine ⟨_, Sub.refl _ _, ?_⟩
        refine KF.conv (fun w => .bool w) (fun w => []) (show (false) = (cmdOk c) from by (try simp only [inR_iff, inR_not] at *); rw [Bool.eq_iff_iff]; simp only [cmdOk, cmdEq, noBytes]; (repeat' split) <;> (try simp [inR_iff]) <;> grind) ?_
        exact KF.m [] [.bool false]
    · skip
      refine AW.r ?_
      refine At.a 2 ?_
      refine At.done rfl ?_
      refine AW.cE c.kind (3 : Int) (fun h7 => ?_) (fun h7 => ?_)
      · skip
        refine AW.r ?_
        refine At.a 2 ?_
        by_cases h8 : (inR c.release 1 1000) = true
        · refine At.sB 37 (inR c.release 1 1000) true (sayB h8) ?_
          refine At.a 2 ?_
          refine At.c (impl_isNode_spec  c.node ) Tryz.call152 true [] [] [] trivial ?_
          refine At.a 2 ?_
          refine At.done rfl ?_
          refine AW.region (At.start ?_)
          refine At.a 2 ?_
          refine At.done rfl ?_
          refine AW.r ?_
          refine At.a 2 ?_
          by_cases h9 : (inR c.node 0 4) = true
          · refine At.sB 47 (inR c.node 0 4) true (sayB h9) ?_
            refine At.a 2 ?_
            refine At.eqA (t := 31) (u := 31) (d := 50) (op := .eql) (x := .tmp 48) (y := .tmp 49) (X := [.int .i64 0, .int .i64 0, .int .i64 0, .int .i64 c.size, .str c.digest]) (Y := [.int .i64 0, .int .i64 0, .int .i64 0, .int .i64 0, .str (⟨#[]⟩ : ByteArray)]) (cmdEq (⟨0, 0, 0, c.size, c.digest⟩ : Cmd) (⟨0, 0, 0, 0, (⟨#[]⟩ : ByteArray)⟩ : Cmd)) (by kernel_rfl) (by kernel_rfl) (by kernel_rfl) (by kernel_rfl) (by kernel_rfl) (.bool (cmdEq (⟨0, 0, 0, c.size, c.digest⟩ : Cmd) (⟨0, 0, 0, 0, (⟨#[]⟩ : ByteArray)⟩ : Cmd))) (.inl ⟨rfl, rfl⟩) ?_
            refine At.a 2 ?_
            refine At.done rfl ?_
            refine AW.ret ?_
            refine ⟨_, Sub.refl _ _, ?_⟩
            refine KF.conv (fun w => .bool w) (fun w => []) (show (cmdEq (⟨0, 0, 0, c.size, c.digest⟩ : Cmd) (⟨0, 0, 0, 0, (⟨#[]⟩ : ByteArray)⟩ : Cmd)) = (cmdOk c) from by (try simp only [inR_iff, inR_not] at *); rw [Bool.eq_iff_iff]; simp only [cmdOk, cmdEq, noBytes]; (repeat' split) <;> (try simp [inR_iff]) <;> grind) ?_
            exact KF.m [] [.bool (cmdEq (⟨0, 0, 0, c.size, c.digest⟩ : Cmd) (⟨0, 0, 0, 0, (⟨#[]⟩ : ByteArray)⟩ : Cmd))]
          · refine At.sB 47 (inR c.node 0 4) false (sayB (Bool.eq_false_iff.2 h9)) ?_
            replace h9 := Bool.eq_false_iff.2 h9
            refine At.a 5 ?_
            refine At.done rfl ?_
            refine AW.ret ?_
            refine ⟨_, Sub.refl _ _, ?_⟩
            refine KF.conv (fun w => .bool w) (fun w => []) (show (false) = (cmdOk c) from by (try simp only [inR_iff, inR_not] at *); rw [Bool.eq_iff_iff]; simp only [cmdOk, cmdEq, noBytes]; (repeat' split) <;> (try simp [inR_iff]) <;> grind) ?_
            exact KF.m [] [.bool false]
        · refine At.sB 37 (inR c.release 1 1000) false (sayB (Bool.eq_false_iff.2 h8)) ?_
          replace h8 := Bool.eq_false_iff.2 h8
          refine At.a 5 ?_
          refine At.done rfl ?_
          refine AW.region (At.start ?_)
          refine At.a 2 ?_
          refine At.done rfl ?_
          refine AW.r ?_
          refine At.a 7 ?_
          refine At.done rfl ?_
          refine AW.ret ?_
          refine ⟨_, Sub.refl _ _, ?_⟩
          refine KF.conv (fun w => .bool w) (fun w => []) (show (false) = (cmdOk c) from by (try simp only [inR_iff, inR_not] at *); rw [Bool.eq_iff_iff]; simp only [cmdOk, cmdEq, noBytes]; (repeat' split) <;> (try simp [inR_iff]) <;> grind) ?_
          exact KF.m [] [.bool false]
      · skip
        refine AW.seq ?_
        refine AW.r ?_
        refine At.a 2 ?_
        refine At.done rfl ?_
        refine AW.cE c.kind (4 : Int) (fun h10 => ?_) (fun h10 => ?_)
        · skip
          refine AW.skip ?_
          refine AW.cE c.kind (4 : Int) (fun h11 => ?_) (fun h11 => ?_)
          · skip
            refine AW.skip ?_
            refine AW.r ?_
            refine At.a 2 ?_
            by_cases h12 : (inR c.release 1 1000) = true
            · refine At.sB 47 (inR c.release 1 1000) true (sayB h12) ?_
              refine At.a 2 ?_
              refine At.eqA (t := 31) (u := 31) (d := 50) (op := .eql) (x := .tmp 48) (y := .tmp 49) (X := [.int .i64 0, .int .i64 0, .int .i64 c.node, .int .i64 c.size, .str c.digest]) (Y := [.int .i64 0, .int .i64 0, .int .i64 0, .int .i64 0, .str (⟨#[]⟩ : ByteArray)]) (cmdEq (⟨0, 0, c.node, c.size, c.digest⟩ : Cmd) (⟨0, 0, 0, 0, (⟨#[]⟩ : ByteArray)⟩ : Cmd)) (by kernel_rfl) (by kernel_rfl) (by kernel_rfl) (by kernel_rfl) (by kernel_rfl) (.bool (cmdEq (⟨0, 0, c.node, c.size, c.digest⟩ : Cmd) (⟨0, 0, 0, 0, (⟨#[]⟩ : ByteArray)⟩ : Cmd))) (.inl ⟨rfl, rfl⟩) ?_
              refine At.a 2 ?_
              refine At.done rfl ?_
              refine AW.ret ?_
              refine ⟨_, Sub.refl _ _, ?_⟩
              refine KF.conv (fun w => .bool w) (fun w => []) (show (cmdEq (⟨0, 0, c.node, c.size, c.digest⟩ : Cmd) (⟨0, 0, 0, 0, (⟨#[]⟩ : ByteArray)⟩ : Cmd)) = (cmdOk c) from by (try simp only [inR_iff, inR_not] at *); rw [Bool.eq_iff_iff]; simp only [cmdOk, cmdEq, noBytes]; (repeat' split) <;> (try simp [inR_iff]) <;> grind) ?_
              exact KF.m [] [.bool (cmdEq (⟨0, 0, c.node, c.size, c.digest⟩ : Cmd) (⟨0, 0, 0, 0, (⟨#[]⟩ : ByteArray)⟩ : Cmd))]
            · refine At.sB 47 (inR c.release 1 1000) false (sayB (Bool.eq_false_iff.2 h12)) ?_
              replace h12 := Bool.eq_false_iff.2 h12
              refine At.a 5 ?_
              refine At.done rfl ?_
              refine AW.ret ?_
              refine ⟨_, Sub.refl _ _, ?_⟩
              refine KF.conv (fun w => .bool w) (fun w => []) (show (false) = (cmdOk c) from by (try simp only [inR_iff, inR_not] at *); rw [Bool.eq_iff_iff]; simp only [cmdOk, cmdEq, noBytes]; (repeat' split) <;> (try simp [inR_iff]) <;> grind) ?_
              exact KF.m [] [.bool false]
          · skip
            refine AW.r ?_
            refine At.a 1 ?_
            refine At.done rfl ?_
            refine AW.ret ?_
            refine ⟨_, Sub.refl _ _, ?_⟩
            refine KF.conv (fun w => .bool w) (fun w => []) (show (false) = (cmdOk c) from by (try simp only [inR_iff, inR_not] at *); rw [Bool.eq_iff_iff]; simp only [cmdOk, cmdEq, noBytes]; (repeat' split) <;> (try simp [inR_iff]) <;> grind) ?_
            exact KF.m [] [.bool false]
        · skip
          refine AW.region (At.start ?_)
          refine At.a 2 ?_
          refine At.done rfl ?_
          refine AW.cE c.kind (5 : Int) (fun h13 => ?_) (fun h13 => ?_)
          · skip
            refine AW.skip ?_
            refine AW.r ?_
            refine At.a 2 ?_
            by_cases h14 : (inR c.release 1 1000) = true
            · refine At.sB 47 (inR c.release 1 1000) true (sayB h14) ?_
              refine At.a 2 ?_
              refine At.eqA (t := 31) (u := 31) (d := 50) (op := .eql) (x := .tmp 48) (y := .tmp 49) (X := [.int .i64 0, .int .i64 0, .int .i64 c.node, .int .i64 c.size, .str c.digest]) (Y := [.int .i64 0, .int .i64 0, .int .i64 0, .int .i64 0, .str (⟨#[]⟩ : ByteArray)]) (cmdEq (⟨0, 0, c.node, c.size, c.digest⟩ : Cmd) (⟨0, 0, 0, 0, (⟨#[]⟩ : ByteArray)⟩ : Cmd)) (by kernel_rfl) (by kernel_rfl) (by kernel_rfl) (by kernel_rfl) (by kernel_rfl) (.bool (cmdEq (⟨0, 0, c.node, c.size, c.digest⟩ : Cmd) (⟨0, 0, 0, 0, (⟨#[]⟩ : ByteArray)⟩ : Cmd))) (.inl ⟨rfl, rfl⟩) ?_
              refine At.a 2 ?_
              refine At.done rfl ?_
              refine AW.ret ?_
              refine ⟨_, Sub.refl _ _, ?_⟩
              refine KF.conv (fun w => .bool w) (fun w => []) (show (cmdEq (⟨0, 0, c.node, c.size, c.digest⟩ : Cmd) (⟨0, 0, 0, 0, (⟨#[]⟩ : ByteArray)⟩ : Cmd)) = (cmdOk c) from by (try simp only [inR_iff, inR_not] at *); rw [Bool.eq_iff_iff]; simp only [cmdOk, cmdEq, noBytes]; (repeat' split) <;> (try simp [inR_iff]) <;> grind) ?_
              exact KF.m [] [.bool (cmdEq (⟨0, 0, c.node, c.size, c.digest⟩ : Cmd) (⟨0, 0, 0, 0, (⟨#[]⟩ : ByteArray)⟩ : Cmd))]
            · refine At.sB 47 (inR c.release 1 1000) false (sayB (Bool.eq_false_iff.2 h14)) ?_
              replace h14 := Bool.eq_false_iff.2 h14
              refine At.a 5 ?_
              refine At.done rfl ?_
              refine AW.ret ?_
              refine ⟨_, Sub.refl _ _, ?_⟩
              refine KF.conv (fun w => .bool w) (fun w => []) (show (false) = (cmdOk c) from by (try simp only [inR_iff, inR_not] at *); rw [Bool.eq_iff_iff]; simp only [cmdOk, cmdEq, noBytes]; (repeat' split) <;> (try simp [inR_iff]) <;> grind) ?_
              exact KF.m [] [.bool false]
          · skip
            refine AW.r ?_
            refine At.a 1 ?_
            refine At.done rfl ?_
            refine AW.ret ?_
            refine ⟨_, Sub.refl _ _, ?_⟩
            refine KF.conv (fun w => .bool w) (fun w => []) (show (false) = (cmdOk c) from by (try simp only [inR_iff, inR_not] at *); rw [Bool.eq_iff_iff]; simp only [cmdOk, cmdEq, noBytes]; (repeat' split) <;> (try simp [inR_iff]) <;> grind) ?_
            exact KF.m [] [.bool false]
set_option maxRecDepth 100000 in
set_option maxHeartbeats 4000000 in
theorem impl_lastTerm_spec  (l : List Ent) (hl : l.length ≤ 1048576) : FnSpec Tryz.prog 113 [.sl false 6 (l.map encEnt)] [] (.int .i64 (lastT l)) [] := by
  refine FnSpec.of 13 Tryz.func113 rfl Tryz.ntmps113 (by simp) (AW.weakK ?_)
  refine AW.r ?_
  refine At.a 1 ?_
  refine At.done rfl ?_
  refine AW.seq ?_
  refine AW.r ?_
  refine At.a 2 ?_
  refine At.sL 4 encEnt l ?_
  refine At.a 1 ?_
  refine At.done rfl ?_
  refine AW.cE (l.length : Int) (0 : Int) (fun h1 => ?_) (fun h1 => ?_)
  · skip
    refine AW.r ?_
    refine At.a 1 ?_
    refine At.done rfl ?_
    refine AW.ret ?_
    refine ⟨_, Sub.refl _ _, ?_⟩
    refine KF.conv (fun w => .int .i64 w) (fun w => []) (show (0) = (lastT l) from by obtain rfl := List.length_eq_zero_iff.1 (show l.length = 0 by omega); rfl) ?_
    exact KF.m [] [.int .i64 0]
  · skip
    refine AW.skip ?_
    refine AW.r ?_
    refine At.a 3 ?_
    refine At.sL 8 encEnt l ?_
    refine At.a 1 ?_
    refine At.sI 9 ((l.length : Int) - 1) (by omega) ?_
    refine At.iSl 24 10 (.tmp 6) (.tmp 9) false 6 (l.map encEnt) .i64 ((l.length : Int) - 1) 45 (by omega) (by simp only [List.length_map, List.length_append, List.length_take, List.length_drop, List.length_replicate, List.length_set, List.length_cons, List.length_nil]; omega) ?_
    refine At.a 1 ?_
    refine Exists.elim (show ∃ e, l[((l.length : Int) - 1).toNat]? = some e from ⟨_, List.getElem?_eq_getElem (by omega)⟩) fun e1 he1 => ?_
    refine At.lVp 3 12 (.tmp 11) false 6 (l.map encEnt) (((l.length : Int) - 1).toNat) 0 false 1 (encEnt e1) (.int .i64 e1.term) (mapGet he1) ?_
    refine At.a 1 ?_
    refine At.done rfl ?_
    refine AW.ret ?_
    refine ⟨_, Sub.refl _ _, ?_⟩
    refine KF.conv (fun w => .int .i64 w) (fun w => []) (show (e1.term) = (lastT l) from by rw [show ((l.length : Int) - 1).toNat = l.length - 1 from by omega] at he1; simp [lastT, he1]) ?_
    exact KF.m [] [.int .i64 e1.term]
set_option maxRecDepth 100000 in
set_option maxHeartbeats 4000000 in
theorem impl_isWhole_spec  (n : Int) : FnSpec Tryz.prog 150 [.int .i64 n] [] (.bool (inR n 0 1000000000)) [] := by
  refine FnSpec.of 5 Tryz.func150 rfl Tryz.ntmps150 (by simp) (AW.weakK ?_)
  refine AW.r ?_
  refine At.a 1 ?_
  refine At.done rfl ?_
  refine AW.r ?_
  refine At.a 1 ?_
  refine At.c (impl_within_spec  n 0 1000000000 ) Tryz.call69 true [] [] [] trivial ?_
  refine At.a 1 ?_
  refine At.done rfl ?_
  refine AW.ret ?_
  refine ⟨_, Sub.refl _ _, ?_⟩
  exact KF.m [] [.bool (inR n 0 1000000000)]
set_option maxRecDepth 100000 in
set_option maxHeartbeats 4000000 in
theorem impl_HardOk_spec  (h : Hard) (hl : h.log.length ≤ 1048576) : FnSpec Tryz.prog 70 [.agg [.int .i64 h.term, .int .i64 h.vote, .sl false 6 (h.log.map encEnt)]] [] (.bool (hardOk h)) [] := by
  refine FnSpec.of 46 Tryz.func70 rfl Tryz.ntmps70 (by simp) (AW.weakK ?_)
  refine AW.r ?_
  refine At.a 2 ?_
  refine At.done rfl ?_
  refine AW.seq ?_
  refine AW.r ?_
  refine At.a 3 ?_
  refine At.sL 7 encEnt h.log ?_
  refine At.a 1 ?_
  refine At.done rfl ?_
  refine AW.block ?_
  refine AW.loopW (fun (k : Nat) => Go.Sy.mk [.un, .ptr 101 0 0, .un, .un, .un, .un, .sl false 6 (h.log.map encEnt), .int .i64 (h.log.length : Int), .int .i64 (k : Int)] [(101, .box 26 [.int .i64 h.term, .int .i64 h.vote, .sl false 6 (h.log.map encEnt)])]) (fun (k : Nat) => k ≤ h.log.length ∧ logOk h.term 0 h.log = logOk h.term (lastT (h.log.take k)) (h.log.drop k)) (fun (k : Nat) => h.log.length - k) 0 ⟨by omega, by simp [lastT]⟩ (Sub.o [(101, 101)] [false, true, false, false, false, false, true, true, true]) ?_
  rintro k ⟨hk, hR⟩
  refine AW.r ?_
  refine At.a 1 ?_
  refine At.done rfl ?_
  refine AW.seq ?_
  refine AW.cD ((k : Int) < (h.log.length : Int)) (fun h1 => ?_) (fun h1 => ?_)
  · skip
    refine AW.skip ?_
    refine AW.seq ?_
    refine AW.block ?_
    refine AW.r ?_
    refine At.a 1 ?_
    refine At.iSl 24 11 (.tmp 6) (.tmp 8) false 6 (h.log.map encEnt) .i64 (k : Int) 45 (by omega) (by simp only [List.length_map, List.length_append, List.length_take, List.length_drop, List.length_replicate, List.length_set, List.length_cons, List.length_nil]; omega) ?_
    refine Exists.elim (show ∃ e, h.log[k]? = some e from ⟨_, List.getElem?_eq_getElem (by omega)⟩) fun e1 he1 => ?_
    refine At.lVp 45 12 (.tmp 11) false 6 (h.log.map encEnt) k 0 true 6 (encEnt e1) (.agg [.int .i64 e1.term, .int .i64 e1.cmd.kind, .int .i64 e1.cmd.release, .int .i64 e1.cmd.node, .int .i64 e1.cmd.size, .str e1.cmd.digest]) (mapGet he1) ?_
    refine At.a 3 ?_
    refine At.done rfl ?_
    refine AW.seq ?_
    refine AW.regionD Tryz_mix (At.start ?_)
    refine At.a 2 ?_
    refine At.c (impl_CmdOk_spec  e1.cmd ) Tryz.call101 true [] [] [] trivial ?_
    refine At.a 2 ?_
    by_cases h2 : (cmdOk e1.cmd) = true
    · refine At.sB 17 (!(cmdOk e1.cmd)) false (sayNF (sayB h2)) ?_
      refine At.a 5 ?_
      refine At.sliceSl (t := 24) (d := 23) (e := 45) (es := 6) (x := .tmp 21) (lx := none) (hx := some (.tmp 22)) (p := false) (xs := (h.log.map encEnt)) (vl := .un) (vh := .int .i64 (k : Int)) 0 k ((h.log.take k).map encEnt) (by kernel_rfl) (by kernel_rfl) (by kernel_rfl) (by kernel_rfl) (.inl ⟨rfl, rfl⟩) (.inr ⟨_, _, rfl, rfl⟩) (by omega) (by simp only [List.length_map, List.length_append, List.length_take, List.length_drop, List.length_replicate, List.length_set, List.length_cons, List.length_nil]; omega) (by simp [List.map_take, List.map_drop]) ?_
      refine At.c (impl_lastTerm_spec  (h.log.take k) (by simp only [List.length_map, List.length_append, List.length_take, List.length_drop, List.length_replicate, List.length_set, List.length_cons, List.length_nil]; omega)) Tryz.call113 true [] [] [] trivial ?_
      refine At.mm (d := 25) (b := .max) (x := .const (.int .i64 1)) (y := .tmp 24) (ats := #[3, 3]) (q := .i64) (m := 1) (n := lastT (h.log.take k)) (if (lastT (h.log.take k)) > 1 then lastT (h.log.take k) else 1) (by kernel_rfl) (by kernel_rfl) (by kernel_rfl) (by kernel_rfl) (.inr ⟨rfl, rfl⟩) ?_
      refine At.say 25 (.int .i64 (if (lastT (h.log.take k)) > 1 then lastT (h.log.take k) else 1)) (.int .i64 (max 1 (lastT (h.log.take k)))) (by kernel_rfl) (congrArg (V.int .i64) (by omega)) ?_
      refine At.a 2 ?_
      refine At.c (impl_within_spec  e1.term (max 1 (lastT (h.log.take k))) h.term ) Tryz.call69 true [] [] [] trivial ?_
      refine At.a 2 ?_
      refine At.done rfl ⟨by kernel_rfl, ?_⟩
      refine AW.cNB (inR e1.term (max 1 (lastT (h.log.take k))) h.term) (fun h3 => ?_) (fun h3 => ?_)
      · skip
        refine AW.r ?_
        refine At.a 1 ?_
        refine At.done rfl ?_
        refine AW.ret ?_
        refine ⟨_, Sub.refl _ _, ?_⟩
        refine KF.conv (fun w => .bool w) (fun w => []) (show (false) = (hardOk h) from by refine hardBad (hR.trans ?_); rw [dropCons he1]; first | exact logOk_bad0 (by assumption) | exact logOk_bad2 (by have := inR_not.1 (by assumption); omega)) ?_
        exact KF.m [] [.bool false]
      · skip
        have h3i := inR_iff.1 h3
        refine AW.skip ?_
        refine AW.region (At.start ?_)
        refine At.a 1 ?_
        refine At.sI 31 ((k : Int) + 1) (by omega) ?_
        refine At.a 1 ?_
        refine At.done rfl ?_
        exact ⟨k + 1, ⟨by omega, by rw [hR, dropCons he1, lastT_next he1]; exact logOk_step (by omega) (by omega) (by simp only [*]) (by omega)⟩, (by omega), Sub.o [(101, 101)] [false, true, false, false, false, false, true, true, true]⟩
    · refine At.sB 17 (!(cmdOk e1.cmd)) true (sayNT (sayB (Bool.eq_false_iff.2 h2))) ?_
      replace h2 := Bool.eq_false_iff.2 h2
      refine At.a 13 ?_
      refine At.done rfl ⟨by kernel_rfl, ?_⟩
      refine AW.cond true (by kernel_rfl) (fun _ => ?_) (fun h => by cases h)
      refine AW.r ?_
      refine At.a 1 ?_
      refine At.done rfl ?_
      refine AW.ret ?_
      refine ⟨_, Sub.refl _ _, ?_⟩
      refine KF.conv (fun w => .bool w) (fun w => []) (show (false) = (hardOk h) from by refine hardBad (hR.trans ?_); rw [dropCons he1]; first | exact logOk_bad0 (by assumption) | exact logOk_bad2 (by have := inR_not.1 (by assumption); omega)) ?_
      exact KF.m [] [.bool false]
  · skip
    refine AW.exit ?_
    refine AW.r ?_
    refine At.a 2 ?_
    refine At.c (impl_isWhole_spec  h.term ) Tryz.call150 true [] [] [] trivial ?_
    refine At.a 1 ?_
    by_cases h4 : (inR h.term 0 1000000000) = true
    · refine At.sB 35 (inR h.term 0 1000000000) true (sayB h4) ?_
      have h4i := inR_iff.1 h4
      refine At.a 2 ?_
      refine At.c (impl_within_spec  h.vote 0 5 ) Tryz.call69 true [] [] [] trivial ?_
      refine At.a 2 ?_
      by_cases h5 : (inR h.vote 0 5) = true
      · refine At.sB 40 (inR h.vote 0 5) true (sayB h5) ?_
        have h5i := inR_iff.1 h5
        refine At.a 3 ?_
        refine At.sL 43 encEnt h.log ?_
        refine At.a 3 ?_
        refine At.done rfl ?_
        refine AW.ret ?_
        refine ⟨_, Sub.refl _ _, ?_⟩
        refine KF.conv (fun w => .bool w) (fun w => []) (show (decide ((h.log.length : Int) ≤ 80)) = (hardOk h) from by have q : logOk h.term 0 h.log = true := (by rw [hR, List.drop_of_length_le (by omega)]; rfl); grind [hardOk]) ?_
        exact KF.m [] [.bool (decide ((h.log.length : Int) ≤ 80))]
      · refine At.sB 40 (inR h.vote 0 5) false (sayB (Bool.eq_false_iff.2 h5)) ?_
        replace h5 := Bool.eq_false_iff.2 h5
        refine At.a 6 ?_
        refine At.done rfl ?_
        refine AW.ret ?_
        refine ⟨_, Sub.refl _ _, ?_⟩
        refine KF.conv (fun w => .bool w) (fun w => []) (show (false) = (hardOk h) from by have q : logOk h.term 0 h.log = true := (by rw [hR, List.drop_of_length_le (by omega)]; rfl); grind [hardOk]) ?_
        exact KF.m [] [.bool false]
    · refine At.sB 35 (inR h.term 0 1000000000) false (sayB (Bool.eq_false_iff.2 h4)) ?_
      replace h4 := Bool.eq_false_iff.2 h4
      refine At.a 11 ?_
      refine At.done rfl ?_
      refine AW.ret ?_
      refine ⟨_, Sub.refl _ _, ?_⟩
      refine KF.conv (fun w => .bool w) (fun w => []) (show (false) = (hardOk h) from by have q : logOk h.term 0 h.log = true := (by rw [hR, List.drop_of_length_le (by omega)]; rfl); grind [hardOk]) ?_
      exact KF.m [] [.bool false]
set_option maxRecDepth 100000 in
set_option maxHeartbeats 4000000 in
theorem impl_nodesAscend_spec  (list : List Int) (of_ : Int) (hl : list.length ≤ 1048576) (ho : 0 ≤ of_ ∧ of_ ≤ 1000) : FnSpec Tryz.prog 71 [.sl false 1 (list.map encI), .int .i64 of_] [] (.bool (asc (of_ - 1) (-1) list)) [] := by
  refine FnSpec.of 33 Tryz.func71 rfl Tryz.ntmps71 (by simp) (AW.weakK ?_)
  refine AW.r ?_
  refine At.a 1 ?_
  refine At.done rfl ?_
  refine AW.seq ?_
  refine AW.r ?_
  refine At.a 2 ?_
  refine At.sL 8 encI list ?_
  refine At.a 1 ?_
  refine At.done rfl ?_
  refine AW.block ?_
  refine AW.loopW (fun (k : Nat) => Go.Sy.mk [.sl false 1 (list.map encI), .int .i64 of_, .un, .un, .un, .un, .un, .sl false 1 (list.map encI), .int .i64 (list.length : Int), .int .i64 (k : Int)] []) (fun (k : Nat) => k ≤ list.length ∧ ∃ p : Int, (k = 0 → p = -1) ∧ (∀ e, 0 < k → list[k - 1]? = some e → e = p) ∧ asc (of_ - 1) (-1) list = asc (of_ - 1) p (list.drop k)) (fun (k : Nat) => list.length - k) 0 ⟨by omega, -1, by omega, by omega, by rw [List.drop_zero]⟩ (Sub.o [] [true, true, false, false, false, false, false, true, true, true]) ?_
  rintro k ⟨hk, p, hp0, hp1, hR⟩
  refine AW.r ?_
  refine At.a 1 ?_
  refine At.done rfl ?_
  refine AW.seq ?_
  refine AW.cD ((k : Int) < (list.length : Int)) (fun h1 => ?_) (fun h1 => ?_)
  · skip
    refine AW.skip ?_
    refine AW.seq ?_
    refine AW.block ?_
    refine AW.r ?_
    refine At.a 1 ?_
    refine At.iSl 27 12 (.tmp 7) (.tmp 9) false 1 (list.map encI) .i64 (k : Int) 3 (by omega) (by simp only [List.length_map, List.length_append, List.length_take, List.length_drop, List.length_replicate, List.length_set, List.length_cons, List.length_nil]; omega) ?_
    refine Exists.elim (show ∃ e, list[k]? = some e from ⟨_, List.getElem?_eq_getElem (by omega)⟩) fun e1 he1 => ?_
    refine At.lVp 3 13 (.tmp 12) false 1 (list.map encI) k 0 false 1 (encI e1) (.int .i64 e1) (mapGet he1) ?_
    refine At.a 2 ?_
    refine At.done rfl ?_
    refine AW.r ?_
    refine At.a 3 ?_
    refine At.sI 16 (of_ - 1) (by omega) ?_
    refine At.c (impl_within_spec  e1 0 (of_ - 1) ) Tryz.call69 true [] [] [] trivial ?_
    refine At.a 2 ?_
    by_cases h2 : (inR e1 0 (of_ - 1)) = true
    · refine At.sB 19 (!(inR e1 0 (of_ - 1))) false (sayNF (sayB h2)) ?_
      have h2i := inR_iff.1 h2
      refine At.a 3 ?_
      by_cases h3 : (k : Int) > 0
      · refine At.sB 22 (decide ((k : Int) > 0)) true (sayT h3) ?_
        refine At.a 3 ?_
        refine At.sI 25 ((k : Int) - 1) (by omega) ?_
        refine At.iSl 27 26 (.tmp 23) (.tmp 25) false 1 (list.map encI) .i64 ((k : Int) - 1) 3 (by omega) (by simp only [List.length_map, List.length_append, List.length_take, List.length_drop, List.length_replicate, List.length_set, List.length_cons, List.length_nil]; omega) ?_
        refine Exists.elim (show ∃ e, list[((k : Int) - 1).toNat]? = some e from ⟨_, List.getElem?_eq_getElem (by omega)⟩) fun e2 he2 => ?_
        have qe2 := hp1 e2 (by omega) (by rw [show k - 1 = ((k : Int) - 1).toNat from by omega]; exact he2)
        refine At.lVp 3 27 (.tmp 26) false 1 (list.map encI) (((k : Int) - 1).toNat) 0 false 1 (encI e2) (.int .i64 e2) (mapGet he2) ?_
        refine At.a 4 ?_
        refine At.done rfl ?_
        refine AW.cD (e2 ≥ e1) (fun h4 => ?_) (fun h4 => ?_)
        · skip
          refine AW.r ?_
          refine At.a 1 ?_
          refine At.done rfl ?_
          refine AW.ret ?_
          refine ⟨_, Sub.refl _ _, ?_⟩
          refine KF.conv (fun w => .bool w) (fun w => []) (show (false) = (asc (of_ - 1) (-1) list) from by rw [hR, dropCons he1]; first | exact asc_bad1 (by assumption) | exact asc_bad2 (by omega)) ?_
          exact KF.m [] [.bool false]
        · skip
          refine AW.skip ?_
          refine AW.region (At.start ?_)
          refine At.a 1 ?_
          refine At.sI 32 ((k : Int) + 1) (by omega) ?_
          refine At.a 1 ?_
          refine At.done rfl ?_
          exact ⟨k + 1, ⟨by omega, e1, by omega, at_k he1, by have i1 := inR_iff.1 (show inR e1 0 (of_ - 1) = true by simpa using h2); rw [hR, dropCons he1]; exact asc_step (by simpa using h2) (by omega)⟩, (by omega), Sub.o [] [true, true, false, false, false, false, false, true, true, true]⟩
      · refine At.sB 22 (decide ((k : Int) > 0)) false (sayF h3) ?_
        refine At.a 9 ?_
        refine At.done rfl ?_
        refine AW.cond false (by kernel_rfl) (fun h => by cases h) (fun _ => ?_)
        refine AW.skip ?_
        refine AW.region (At.start ?_)
        refine At.a 1 ?_
        refine At.sI 32 ((k : Int) + 1) (by omega) ?_
        refine At.a 1 ?_
        refine At.done rfl ?_
        exact ⟨k + 1, ⟨by omega, e1, by omega, at_k he1, by have i1 := inR_iff.1 (show inR e1 0 (of_ - 1) = true by simpa using h2); rw [hR, dropCons he1]; exact asc_step (by simpa using h2) (by omega)⟩, (by omega), Sub.o [] [true, true, false, false, false, false, false, true, true, true]⟩
    · refine At.sB 19 (!(inR e1 0 (of_ - 1))) true (sayNT (sayB (Bool.eq_false_iff.2 h2))) ?_
      replace h2 := Bool.eq_false_iff.2 h2
      refine At.a 12 ?_
      refine At.done rfl ?_
      refine AW.cond true (by kernel_rfl) (fun _ => ?_) (fun h => by cases h)
      refine AW.r ?_
      refine At.a 1 ?_
      refine At.done rfl ?_
      refine AW.ret ?_
      refine ⟨_, Sub.refl _ _, ?_⟩
      refine KF.conv (fun w => .bool w) (fun w => []) (show (false) = (asc (of_ - 1) (-1) list) from by rw [hR, dropCons he1]; first | exact asc_bad1 (by assumption) | exact asc_bad2 (by omega)) ?_
      exact KF.m [] [.bool false]
  · skip
    refine AW.exit ?_
    refine AW.r ?_
    refine At.a 1 ?_
    refine At.done rfl ?_
    refine AW.ret ?_
    refine ⟨_, Sub.refl _ _, ?_⟩
    refine KF.conv (fun w => .bool w) (fun w => []) (show (true) = (asc (of_ - 1) (-1) list) from by rw [hR, List.drop_of_length_le (by omega)]; rfl) ?_
    exact KF.m [] [.bool true]
set_option maxRecDepth 100000 in
set_option maxHeartbeats 4000000 in
theorem slices_Index_spec  (s : List Int) (v : Int) (hl : s.length ≤ 1048576) : FnSpec Tryz.prog 151 [.sl false 1 (s.map encI), .int .i64 v] [] (.int .i64 (idxI v 0 s)) [] := by
  refine FnSpec.of 19 Tryz.func151 rfl Tryz.ntmps151 (by simp) (AW.weakK ?_)
  refine AW.r ?_
  refine At.a 1 ?_
  refine At.done rfl ?_
  refine AW.seq ?_
  refine AW.r ?_
  refine At.a 2 ?_
  refine At.sL 7 encI s ?_
  refine At.a 1 ?_
  refine At.done rfl ?_
  refine AW.block ?_
  refine AW.loopW (fun (k : Nat) => Go.Sy.mk [.sl false 1 (s.map encI), .int .i64 v, .un, .un, .un, .un, .un, .int .i64 (s.length : Int), .int .i64 (k : Int)] []) (fun (k : Nat) => k ≤ s.length ∧ idxI v 0 s = idxI v k (s.drop k)) (fun (k : Nat) => s.length - k) 0 ⟨by omega, by rw [List.drop_zero]⟩ (Sub.o [] [true, true, false, false, false, false, false, true, true]) ?_
  rintro k ⟨hk, hR⟩
  refine AW.r ?_
  refine At.a 1 ?_
  refine At.done rfl ?_
  refine AW.seq ?_
  refine AW.cD ((k : Int) < (s.length : Int)) (fun h1 => ?_) (fun h1 => ?_)
  · skip
    refine AW.skip ?_
    refine AW.seq ?_
    refine AW.block ?_
    refine AW.r ?_
    refine At.a 2 ?_
    refine At.done rfl ?_
    refine AW.r ?_
    refine At.a 3 ?_
    refine At.iSl 27 14 (.tmp 12) (.tmp 13) false 1 (s.map encI) .i64 (k : Int) 3 (by omega) (by simp only [List.length_map, List.length_append, List.length_take, List.length_drop, List.length_replicate, List.length_set, List.length_cons, List.length_nil]; omega) ?_
    refine Exists.elim (show ∃ e, s[k]? = some e from ⟨_, List.getElem?_eq_getElem (by omega)⟩) fun e1 he1 => ?_
    refine At.lVp 3 15 (.tmp 14) false 1 (s.map encI) k 0 false 1 (encI e1) (.int .i64 e1) (mapGet he1) ?_
    refine At.a 1 ?_
    refine At.done rfl ?_
    refine AW.cE v e1 (fun h2 => ?_) (fun h2 => ?_)
    · skip
      refine AW.r ?_
      refine At.a 2 ?_
      refine At.done rfl ?_
      refine AW.ret ?_
      refine ⟨_, Sub.refl _ _, ?_⟩
      refine KF.conv (fun w => .int .i64 w) (fun w => []) (show ((k : Int)) = (idxI v 0 s) from by rw [hR, dropCons he1, idxI, if_pos (by assumption)]) ?_
      exact KF.m [] [.int .i64 (k : Int)]
    · skip
      refine AW.skip ?_
      refine AW.region (At.start ?_)
      refine At.a 1 ?_
      refine At.sI 18 ((k : Int) + 1) (by omega) ?_
      refine At.a 1 ?_
      refine At.done rfl ?_
      exact ⟨k + 1, ⟨by omega, by rw [hR, dropCons he1, idxI, if_neg (by assumption)]⟩, (by omega), Sub.o [] [true, true, false, false, false, false, false, true, true]⟩
  · skip
    refine AW.exit ?_
    refine AW.r ?_
    refine At.a 1 ?_
    refine At.done rfl ?_
    refine AW.ret ?_
    refine ⟨_, Sub.refl _ _, ?_⟩
    refine KF.conv (fun w => .int .i64 w) (fun w => []) (show (-1) = (idxI v 0 s) from by rw [hR, List.drop_of_length_le (by omega)]; rfl) ?_
    exact KF.m [] [.int .i64 (-1)]
set_option maxRecDepth 100000 in
set_option maxHeartbeats 4000000 in
theorem slices_Contains_spec  (s : List Int) (v : Int) (hl : s.length ≤ 1048576) : FnSpec Tryz.prog 72 [.sl false 1 (s.map encI), .int .i64 v] [] (.bool (hasI v s)) [] := by
  refine FnSpec.of 9 Tryz.func72 rfl Tryz.ntmps72 (by simp) (AW.weakK ?_)
  refine AW.r ?_
  refine At.a 1 ?_
  refine At.done rfl ?_
  refine AW.r ?_
  refine At.a 2 ?_
  refine At.c (slices_Index_spec  s v (by omega)) Tryz.call151 true [] [] [] trivial ?_
  refine At.a 2 ?_
  refine At.done rfl ?_
  refine AW.ret ?_
  refine ⟨_, Sub.refl _ _, ?_⟩
  refine KF.conv (fun w => .bool w) (fun w => []) (show (decide ((idxI v 0 s) ≥ 0)) = (hasI v s) from idxI_has v s 0) ?_
  exact KF.m [] [.bool (decide ((idxI v 0 s) ≥ 0))]
set_option maxRecDepth 100000 in
set_option maxHeartbeats 4000000 in
theorem impl_numbersIn_spec  (list : List Int) (count : Int) (low : Int) (high : Int) (hl : list.length ≤ 1048576) : FnSpec Tryz.prog 73 [.sl false 1 (list.map encI), .int .i64 count, .int .i64 low, .int .i64 high] [] (.bool (allIn low high list && ((list.length : Int) == count))) [] := by
  refine FnSpec.of 27 Tryz.func73 rfl Tryz.ntmps73 (by simp) (AW.weakK ?_)
  refine AW.r ?_
  refine At.a 1 ?_
  refine At.done rfl ?_
  refine AW.seq ?_
  refine AW.r ?_
  refine At.a 2 ?_
  refine At.sL 12 encI list ?_
  refine At.a 1 ?_
  refine At.done rfl ?_
  refine AW.block ?_
  refine AW.loopW (fun (k : Nat) => Go.Sy.mk [.sl false 1 (list.map encI), .int .i64 count, .int .i64 low, .int .i64 high, .un, .un, .un, .un, .un, .un, .un, .sl false 1 (list.map encI), .int .i64 (list.length : Int), .int .i64 (k : Int)] []) (fun (k : Nat) => k ≤ list.length ∧ allIn low high list = allIn low high (list.drop k)) (fun (k : Nat) => list.length - k) 0 ⟨by omega, by rw [List.drop_zero]⟩ (Sub.o [] [true, true, true, true, false, false, false, false, false, false, false, true, true, true]) ?_
  rintro k ⟨hk, hR⟩
  refine AW.r ?_
  refine At.a 1 ?_
  refine At.done rfl ?_
  refine AW.seq ?_
  refine AW.cD ((k : Int) < (list.length : Int)) (fun h1 => ?_) (fun h1 => ?_)
  · skip
    refine AW.skip ?_
    refine AW.seq ?_
    refine AW.block ?_
    refine AW.r ?_
    refine At.iSl 27 15 (.tmp 11) (.tmp 13) false 1 (list.map encI) .i64 (k : Int) 3 (by omega) (by simp only [List.length_map, List.length_append, List.length_take, List.length_drop, List.length_replicate, List.length_set, List.length_cons, List.length_nil]; omega) ?_
    refine Exists.elim (show ∃ e, list[k]? = some e from ⟨_, List.getElem?_eq_getElem (by omega)⟩) fun e1 he1 => ?_
    refine At.lVp 3 16 (.tmp 15) false 1 (list.map encI) k 0 false 1 (encI e1) (.int .i64 e1) (mapGet he1) ?_
    refine At.a 1 ?_
    refine At.done rfl ?_
    refine AW.r ?_
    refine At.a 3 ?_
    refine At.c (impl_within_spec  e1 low high ) Tryz.call69 true [] [] [] trivial ?_
    refine At.a 1 ?_
    refine At.done rfl ?_
    refine AW.cNB (inR e1 low high) (fun h2 => ?_) (fun h2 => ?_)
    · skip
      refine AW.r ?_
      refine At.a 1 ?_
      refine At.done rfl ?_
      refine AW.ret ?_
      refine ⟨_, Sub.refl _ _, ?_⟩
      refine KF.conv (fun w => .bool w) (fun w => []) (show (false) = (allIn low high list && ((list.length : Int) == count)) from by rw [hR, dropCons he1, allIn]; simp only [*, Bool.false_and]) ?_
      exact KF.m [] [.bool false]
    · skip
      have h2i := inR_iff.1 h2
      refine AW.skip ?_
      refine AW.region (At.start ?_)
      refine At.a 1 ?_
      refine At.sI 22 ((k : Int) + 1) (by omega) ?_
      refine At.a 1 ?_
      refine At.done rfl ?_
      exact ⟨k + 1, ⟨by omega, by rw [hR, dropCons he1, allIn]; simp only [*, Bool.true_and]⟩, (by omega), Sub.o [] [true, true, true, true, false, false, false, false, false, false, false, true, true, true]⟩
  · skip
    refine AW.exit ?_
    refine AW.r ?_
    refine At.a 2 ?_
    refine At.sL 24 encI list ?_
    refine At.a 3 ?_
    refine At.done rfl ?_
    refine AW.ret ?_
    refine ⟨_, Sub.refl _ _, ?_⟩
    refine KF.conv (fun w => .bool w) (fun w => []) (show ((list.length : Int) == count) = (allIn low high list && ((list.length : Int) == count)) from by rw [hR, List.drop_of_length_le (by omega)]; rfl) ?_
    exact KF.m [] [.bool ((list.length : Int) == count)]
set_option maxRecDepth 100000 in
set_option maxHeartbeats 4000000 in
theorem impl_RaftOk_spec  (r : Raft) (hz : SmallR r) : FnSpec Tryz.prog 19 [.agg [.int .i64 r.id, .int .i64 r.of_, .int .i64 r.role, .int .i64 r.commit, .int .i64 r.hard.term, .int .i64 r.hard.vote, .sl false 6 (r.hard.log.map encEnt), .sl false 1 (r.yes.map encI), .sl false 1 (r.next.map encI), .sl false 1 (r.match_.map encI)]] [] (.bool (raftOk r)) [] := by
  obtain ⟨z1, z2, z3, z4⟩ := id hz
  refine FnSpec.of 105 Tryz.func19 rfl Tryz.ntmps19 (by simp) (AW.weakK ?_)
  refine AW.r ?_
  refine At.a 2 ?_
  refine At.done rfl ?_
  refine AW.r ?_
  refine At.a 4 ?_
  refine At.sL 9 encEnt r.hard.log ?_
  refine At.a 1 ?_
  refine At.done rfl ?_
  refine AW.seq ?_
  refine AW.r ?_
  refine At.a 2 ?_
  refine At.c (impl_isOf_spec  r.of_ ) Tryz.call68 true [] [] [] trivial ?_
  refine At.a 2 ?_
  by_cases h1 : (ofOk r.of_) = true
  · refine At.sB 14 (!(ofOk r.of_)) false (sayNF (sayB h1)) ?_
    have h1o := ofOk_iff.1 h1
    refine At.a 5 ?_
    refine At.sI 19 (r.of_ - 1) (by omega) ?_
    refine At.c (impl_within_spec  r.id 0 (r.of_ - 1) ) Tryz.call69 true [] [] [] trivial ?_
    refine At.a 3 ?_
    by_cases h2 : (inR r.id 0 (r.of_ - 1)) = true
    · refine At.sB 23 (!(inR r.id 0 (r.of_ - 1))) false (sayNF (sayB h2)) ?_
      have h2i := inR_iff.1 h2
      refine At.a 2 ?_
      refine At.c (impl_within_spec  r.role 1 3 ) Tryz.call69 true [] [] [] trivial ?_
      refine At.a 3 ?_
      by_cases h3 : (inR r.role 1 3) = true
      · refine At.sB 29 (!(inR r.role 1 3)) false (sayNF (sayB h3)) ?_
        have h3i := inR_iff.1 h3
        refine At.a 2 ?_
        refine At.c (impl_HardOk_spec  r.hard (by omega)) Tryz.call70 true [] [] [] trivial ?_
        refine At.a 3 ?_
        by_cases h4 : (hardOk r.hard) = true
        · refine At.sB 35 (!(hardOk r.hard)) false (sayNF (sayB h4)) ?_
          refine At.a 3 ?_
          refine At.c (impl_within_spec  r.commit 0 (r.hard.log.length : Int) ) Tryz.call69 true [] [] [] trivial ?_
          refine At.a 2 ?_
          refine At.done rfl ?_
          refine AW.cNB (inR r.commit 0 (r.hard.log.length : Int)) (fun h5 => ?_) (fun h5 => ?_)
          · skip
            refine AW.r ?_
            refine At.a 1 ?_
            refine At.done rfl ?_
            refine AW.ret ?_
            refine ⟨_, Sub.refl _ _, ?_⟩
            refine KF.conv (fun w => .bool w) (fun w => []) (show (false) = (raftOk r) from by grind [raft_all, raftOk3, allIn_zero]) ?_
            exact KF.m [] [.bool false]
          · skip
            have h5i := inR_iff.1 h5
            refine AW.skip ?_
            refine AW.seq ?_
            refine AW.seq ?_
            refine AW.cut [(101, 101)] [false, true, false, true] 65 (!(raftI2 r)) ?_ ?_
            · skip
              refine AW.region (At.start ?_)
              refine At.a 4 ?_
              refine At.c (impl_nodesAscend_spec  r.yes r.of_ (by omega) (by omega)) Tryz.call71 true [] [] [] trivial ?_
              refine At.a 2 ?_
              by_cases h6 : (asc (r.of_ - 1) (-1) r.yes) = true
              · refine At.sB 48 (!(asc (r.of_ - 1) (-1) r.yes)) false (sayNF (sayB h6)) ?_
                refine At.a 4 ?_
                refine At.c (slices_Contains_spec  r.yes r.id (by omega)) Tryz.call72 true [] [] [] trivial ?_
                refine At.a 2 ?_
                by_cases h7 : (hasI r.id r.yes) = true
                · refine At.sB 55 (hasI r.id r.yes) true (sayB h7) ?_
                  refine At.a 10 ?_
                  refine At.sB 65 true (!(raftI2 r)) (congrArg V.bool (by grind [raftI2])) ?_
                  refine At.done rfl ⟨rfl, ?_⟩
                  exact Sub.cut [(101, 101)] [false, true, false, true] 65 _ (by kernel_rfl) (by kernel_rfl) (by kernel_rfl) (by kernel_rfl)
                · refine At.sB 55 (hasI r.id r.yes) false (sayB (Bool.eq_false_iff.2 h7)) ?_
                  replace h7 := Bool.eq_false_iff.2 h7
                  refine At.a 3 ?_
                  refine At.sL 58 encI r.yes ?_
                  refine At.a 2 ?_
                  by_cases h8 : (r.yes.length : Int) > 0
                  · refine At.sB 60 (decide ((r.yes.length : Int) > 0)) true (sayT h8) ?_
                    refine At.a 5 ?_
                    refine At.sB 65 (r.role != 2) (!(raftI2 r)) (congrArg V.bool (by grind [raftI2])) ?_
                    refine At.done rfl ⟨rfl, ?_⟩
                    exact Sub.cut [(101, 101)] [false, true, false, true] 65 _ (by kernel_rfl) (by kernel_rfl) (by kernel_rfl) (by kernel_rfl)
                  · refine At.sB 60 (decide ((r.yes.length : Int) > 0)) false (sayF h8) ?_
                    refine At.a 5 ?_
                    refine At.sB 65 false (!(raftI2 r)) (congrArg V.bool (by grind [raftI2])) ?_
                    refine At.done rfl ⟨rfl, ?_⟩
                    exact Sub.cut [(101, 101)] [false, true, false, true] 65 _ (by kernel_rfl) (by kernel_rfl) (by kernel_rfl) (by kernel_rfl)
              · refine At.sB 48 (!(asc (r.of_ - 1) (-1) r.yes)) true (sayNT (sayB (Bool.eq_false_iff.2 h6))) ?_
                replace h6 := Bool.eq_false_iff.2 h6
                refine At.a 17 ?_
                refine At.sB 65 true (!(raftI2 r)) (congrArg V.bool (by grind [raftI2])) ?_
                refine At.done rfl ⟨rfl, ?_⟩
                exact Sub.cut [(101, 101)] [false, true, false, true] 65 _ (by kernel_rfl) (by kernel_rfl) (by kernel_rfl) (by kernel_rfl)
            refine AW.cNB (raftI2 r) (fun h9 => ?_) (fun h9 => ?_)
            · skip
              refine AW.r ?_
              refine At.a 1 ?_
              refine At.done rfl ?_
              refine AW.ret ?_
              refine ⟨_, Sub.refl _ _, ?_⟩
              refine KF.conv (fun w => .bool w) (fun w => []) (show (false) = (raftOk r) from by grind [raft_all, raftOk3, allIn_zero]) ?_
              exact KF.m [] [.bool false]
            · skip
              refine AW.skip ?_
              refine AW.r ?_
              refine At.a 1 ?_
              refine At.done rfl ?_
              refine AW.seq ?_
              refine AW.r ?_
              refine At.a 3 ?_
              refine At.done rfl ?_
              refine AW.cE r.role (3 : Int) (fun h10 => ?_) (fun h10 => ?_)
              · skip
                refine AW.region (At.start ?_)
                refine At.a 3 ?_
                refine At.done rfl ?_
                refine AW.seq ?_
                refine AW.cut [(101, 101)] [false, true, false, true, true] 5 (raftI4 r) ?_ ?_
                · skip
                  refine AW.region (At.start ?_)
                  refine At.a 4 ?_
                  by_cases h11 : r.role = 1
                  · refine At.sB 74 (r.role == 1) true (sayET h11) ?_
                    refine At.a 15 ?_
                    refine At.sB 5 true (raftI4 r) (congrArg V.bool (by grind [raftI4])) ?_
                    refine At.done rfl ⟨rfl, ?_⟩
                    exact Sub.cut [(101, 101)] [false, true, false, true, true] 5 _ (by kernel_rfl) (by kernel_rfl) (by kernel_rfl) (by kernel_rfl)
                  · refine At.sB 74 (r.role == 1) false (sayEF h11) ?_
                    refine At.a 5 ?_
                    by_cases h12 : r.hard.term ≥ 1
                    · refine At.sB 79 (decide (r.hard.term ≥ 1)) true (sayT h12) ?_
                      refine At.a 6 ?_
                      refine At.sI 85 (r.id + 1) (by omega) ?_
                      refine At.a 4 ?_
                      refine At.sB 5 (r.hard.vote == (r.id + 1)) (raftI4 r) (congrArg V.bool (by grind [raftI4])) ?_
                      refine At.done rfl ⟨rfl, ?_⟩
                      exact Sub.cut [(101, 101)] [false, true, false, true, true] 5 _ (by kernel_rfl) (by kernel_rfl) (by kernel_rfl) (by kernel_rfl)
                    · refine At.sB 79 (decide (r.hard.term ≥ 1)) false (sayF h12) ?_
                      refine At.a 10 ?_
                      refine At.sB 5 false (raftI4 r) (congrArg V.bool (by grind [raftI4])) ?_
                      refine At.done rfl ⟨rfl, ?_⟩
                      exact Sub.cut [(101, 101)] [false, true, false, true, true] 5 _ (by kernel_rfl) (by kernel_rfl) (by kernel_rfl) (by kernel_rfl)
                refine AW.r ?_
                refine At.a 2 ?_
                by_cases h13 : (raftI4 r) = true
                · refine At.sB 90 (raftI4 r) true (sayB h13) ?_
                  refine At.a 5 ?_
                  refine At.sI 95 ((r.hard.log.length : Int) + 1) (by omega) ?_
                  refine At.c (impl_numbersIn_spec  r.next r.of_ 1 ((r.hard.log.length : Int) + 1) (by omega)) Tryz.call73 true [] [] [] trivial ?_
                  refine At.a 2 ?_
                  by_cases h14 : (allIn 1 ((r.hard.log.length : Int) + 1) r.next && ((r.next.length : Int) == r.of_)) = true
                  · refine At.sB 98 (allIn 1 ((r.hard.log.length : Int) + 1) r.next && ((r.next.length : Int) == r.of_)) true (sayB h14) ?_
                    refine At.a 4 ?_
                    refine At.c (impl_numbersIn_spec  r.match_ r.of_ 0 (r.hard.log.length : Int) (by omega)) Tryz.call73 true [] [] [] trivial ?_
                    refine At.a 2 ?_
                    refine At.done rfl ?_
                    refine AW.ret ?_
                    refine ⟨_, Sub.refl _ _, ?_⟩
                    refine KF.conv (fun w => .bool w) (fun w => []) (show (allIn 0 (r.hard.log.length : Int) r.match_ && ((r.match_.length : Int) == r.of_)) = (raftOk r) from by grind [raft_all, raftOk3, allIn_zero]) ?_
                    exact KF.m [] [.bool (allIn 0 (r.hard.log.length : Int) r.match_ && ((r.match_.length : Int) == r.of_))]
                  · refine At.sB 98 (allIn 1 ((r.hard.log.length : Int) + 1) r.next && ((r.next.length : Int) == r.of_)) false (sayB (Bool.eq_false_iff.2 h14)) ?_
                    replace h14 := Bool.eq_false_iff.2 h14
                    refine At.a 7 ?_
                    refine At.done rfl ?_
                    refine AW.ret ?_
                    refine ⟨_, Sub.refl _ _, ?_⟩
                    refine KF.conv (fun w => .bool w) (fun w => []) (show (false) = (raftOk r) from by grind [raft_all, raftOk3, allIn_zero]) ?_
                    exact KF.m [] [.bool false]
                · refine At.sB 90 (raftI4 r) false (sayB (Bool.eq_false_iff.2 h13)) ?_
                  replace h13 := Bool.eq_false_iff.2 h13
                  refine At.a 15 ?_
                  refine At.done rfl ?_
                  refine AW.ret ?_
                  refine ⟨_, Sub.refl _ _, ?_⟩
                  refine KF.conv (fun w => .bool w) (fun w => []) (show (false) = (raftOk r) from by grind [raft_all, raftOk3, allIn_zero]) ?_
                  exact KF.m [] [.bool false]
              · skip
                refine AW.skip ?_
                refine AW.seq ?_
                refine AW.cut [(101, 101)] [false, true, false, true, true] 5 (raftI4 r) ?_ ?_
                · skip
                  refine AW.region (At.start ?_)
                  refine At.a 4 ?_
                  by_cases h15 : r.role = 1
                  · refine At.sB 74 (r.role == 1) true (sayET h15) ?_
                    refine At.a 15 ?_
                    refine At.sB 5 true (raftI4 r) (congrArg V.bool (by grind [raftI4])) ?_
                    refine At.done rfl ⟨rfl, ?_⟩
                    exact Sub.cut [(101, 101)] [false, true, false, true, true] 5 _ (by kernel_rfl) (by kernel_rfl) (by kernel_rfl) (by kernel_rfl)
                  · refine At.sB 74 (r.role == 1) false (sayEF h15) ?_
                    refine At.a 5 ?_
                    by_cases h16 : r.hard.term ≥ 1
                    · refine At.sB 79 (decide (r.hard.term ≥ 1)) true (sayT h16) ?_
                      refine At.a 6 ?_
                      refine At.sI 85 (r.id + 1) (by omega) ?_
                      refine At.a 4 ?_
                      refine At.sB 5 (r.hard.vote == (r.id + 1)) (raftI4 r) (congrArg V.bool (by grind [raftI4])) ?_
                      refine At.done rfl ⟨rfl, ?_⟩
                      exact Sub.cut [(101, 101)] [false, true, false, true, true] 5 _ (by kernel_rfl) (by kernel_rfl) (by kernel_rfl) (by kernel_rfl)
                    · refine At.sB 79 (decide (r.hard.term ≥ 1)) false (sayF h16) ?_
                      refine At.a 10 ?_
                      refine At.sB 5 false (raftI4 r) (congrArg V.bool (by grind [raftI4])) ?_
                      refine At.done rfl ⟨rfl, ?_⟩
                      exact Sub.cut [(101, 101)] [false, true, false, true, true] 5 _ (by kernel_rfl) (by kernel_rfl) (by kernel_rfl) (by kernel_rfl)
                refine AW.r ?_
                refine At.a 2 ?_
                by_cases h17 : (raftI4 r) = true
                · refine At.sB 90 (raftI4 r) true (sayB h17) ?_
                  refine At.a 5 ?_
                  refine At.sI 95 ((r.hard.log.length : Int) + 1) (by omega) ?_
                  refine At.c (impl_numbersIn_spec  r.next 0 1 ((r.hard.log.length : Int) + 1) (by omega)) Tryz.call73 true [] [] [] trivial ?_
                  refine At.a 2 ?_
                  by_cases h18 : (allIn 1 ((r.hard.log.length : Int) + 1) r.next && ((r.next.length : Int) == 0)) = true
                  · refine At.sB 98 (allIn 1 ((r.hard.log.length : Int) + 1) r.next && ((r.next.length : Int) == 0)) true (sayB h18) ?_
                    refine At.a 4 ?_
                    refine At.c (impl_numbersIn_spec  r.match_ 0 0 (r.hard.log.length : Int) (by omega)) Tryz.call73 true [] [] [] trivial ?_
                    refine At.a 2 ?_
                    refine At.done rfl ?_
                    refine AW.ret ?_
                    refine ⟨_, Sub.refl _ _, ?_⟩
                    refine KF.conv (fun w => .bool w) (fun w => []) (show (allIn 0 (r.hard.log.length : Int) r.match_ && ((r.match_.length : Int) == 0)) = (raftOk r) from by grind [raft_all, raftOk3, allIn_zero]) ?_
                    exact KF.m [] [.bool (allIn 0 (r.hard.log.length : Int) r.match_ && ((r.match_.length : Int) == 0))]
                  · refine At.sB 98 (allIn 1 ((r.hard.log.length : Int) + 1) r.next && ((r.next.length : Int) == 0)) false (sayB (Bool.eq_false_iff.2 h18)) ?_
                    replace h18 := Bool.eq_false_iff.2 h18
                    refine At.a 7 ?_
                    refine At.done rfl ?_
                    refine AW.ret ?_
                    refine ⟨_, Sub.refl _ _, ?_⟩
                    refine KF.conv (fun w => .bool w) (fun w => []) (show (false) = (raftOk r) from by grind [raft_all, raftOk3, allIn_zero]) ?_
                    exact KF.m [] [.bool false]
                · refine At.sB 90 (raftI4 r) false (sayB (Bool.eq_false_iff.2 h17)) ?_
                  replace h17 := Bool.eq_false_iff.2 h17
                  refine At.a 15 ?_
                  refine At.done rfl ?_
                  refine AW.ret ?_
                  refine ⟨_, Sub.refl _ _, ?_⟩
                  refine KF.conv (fun w => .bool w) (fun w => []) (show (false) = (raftOk r) from by grind [raft_all, raftOk3, allIn_zero]) ?_
                  exact KF.m [] [.bool false]
        · refine At.sB 35 (!(hardOk r.hard)) true (sayNT (sayB (Bool.eq_false_iff.2 h4))) ?_
          replace h4 := Bool.eq_false_iff.2 h4
          refine At.a 6 ?_
          refine At.done rfl ?_
          refine AW.cond true (by kernel_rfl) (fun _ => ?_) (fun h => by cases h)
          refine AW.r ?_
          refine At.a 1 ?_
          refine At.done rfl ?_
          refine AW.ret ?_
          refine ⟨_, Sub.refl _ _, ?_⟩
          refine KF.conv (fun w => .bool w) (fun w => []) (show (false) = (raftOk r) from by grind [raft_all, raftOk3, allIn_zero]) ?_
          exact KF.m [] [.bool false]
      · refine At.sB 29 (!(inR r.role 1 3)) true (sayNT (sayB (Bool.eq_false_iff.2 h3))) ?_
        replace h3 := Bool.eq_false_iff.2 h3
        refine At.a 12 ?_
        refine At.done rfl ?_
        refine AW.cond true (by kernel_rfl) (fun _ => ?_) (fun h => by cases h)
        refine AW.r ?_
        refine At.a 1 ?_
        refine At.done rfl ?_
        refine AW.ret ?_
        refine ⟨_, Sub.refl _ _, ?_⟩
        refine KF.conv (fun w => .bool w) (fun w => []) (show (false) = (raftOk r) from by grind [raft_all, raftOk3, allIn_zero]) ?_
        exact KF.m [] [.bool false]
    · refine At.sB 23 (!(inR r.id 0 (r.of_ - 1))) true (sayNT (sayB (Bool.eq_false_iff.2 h2))) ?_
      replace h2 := Bool.eq_false_iff.2 h2
      refine At.a 18 ?_
      refine At.done rfl ?_
      refine AW.cond true (by kernel_rfl) (fun _ => ?_) (fun h => by cases h)
      refine AW.r ?_
      refine At.a 1 ?_
      refine At.done rfl ?_
      refine AW.ret ?_
      refine ⟨_, Sub.refl _ _, ?_⟩
      refine KF.conv (fun w => .bool w) (fun w => []) (show (false) = (raftOk r) from by grind [raft_all, raftOk3, allIn_zero]) ?_
      exact KF.m [] [.bool false]
  · refine At.sB 14 (!(ofOk r.of_)) true (sayNT (sayB (Bool.eq_false_iff.2 h1))) ?_
    replace h1 := Bool.eq_false_iff.2 h1
    refine At.a 27 ?_
    refine At.done rfl ?_
    refine AW.cond true (by kernel_rfl) (fun _ => ?_) (fun h => by cases h)
    refine AW.r ?_
    refine At.a 1 ?_
    refine At.done rfl ?_
    refine AW.ret ?_
    refine ⟨_, Sub.refl _ _, ?_⟩
    refine KF.conv (fun w => .bool w) (fun w => []) (show (false) = (raftOk r) from by grind [raft_all, raftOk3, allIn_zero]) ?_
    exact KF.m [] [.bool false]
set_option maxRecDepth 100000 in
set_option maxHeartbeats 4000000 in
theorem impl_fieldsOf_spec  (kind : Int) : FnSpec Tryz.prog 76 [.int .i64 kind] [] (.str (fieldsL kind)) [] := by
  refine FnSpec.of 18 Tryz.func76 rfl Tryz.ntmps76 (by simp) (AW.weakK ?_)
  refine AW.r ?_
  refine At.a 1 ?_
  refine At.done rfl ?_
  refine AW.seq ?_
  refine AW.r ?_
  refine At.a 1 ?_
  refine At.done rfl ?_
  refine AW.block ?_
  refine AW.r ?_
  refine At.a 2 ?_
  refine At.done rfl ?_
  refine AW.cE kind (1 : Int) (fun h1 => ?_) (fun h1 => ?_)
  · skip
    refine AW.r ?_
    refine At.a 1 ?_
    refine At.done rfl ?_
    refine AW.ret ?_
    refine ⟨_, Sub.refl _ _, ?_⟩
    refine KF.conv (fun w => .str w) (fun w => []) (show ((⟨#[102, 116, 97, 120]⟩ : ByteArray)) = (fieldsL kind) from by simp [fieldsL, h1]) ?_
    exact KF.m [] [.str (⟨#[102, 116, 97, 120]⟩ : ByteArray)]
  · skip
    refine AW.r ?_
    refine At.a 2 ?_
    refine At.done rfl ?_
    refine AW.cE kind (2 : Int) (fun h2 => ?_) (fun h2 => ?_)
    · skip
      refine AW.r ?_
      refine At.a 1 ?_
      refine At.done rfl ?_
      refine AW.ret ?_
      refine ⟨_, Sub.refl _ _, ?_⟩
      refine KF.conv (fun w => .str w) (fun w => []) (show ((⟨#[102, 116, 121]⟩ : ByteArray)) = (fieldsL kind) from by simp [fieldsL, h1, h2]) ?_
      exact KF.m [] [.str (⟨#[102, 116, 121]⟩ : ByteArray)]
    · skip
      refine AW.r ?_
      refine At.a 2 ?_
      refine At.done rfl ?_
      refine AW.cE kind (3 : Int) (fun h3 => ?_) (fun h3 => ?_)
      · skip
        refine AW.r ?_
        refine At.a 1 ?_
        refine At.done rfl ?_
        refine AW.ret ?_
        refine ⟨_, Sub.refl _ _, ?_⟩
        refine KF.conv (fun w => .str w) (fun w => []) (show ((⟨#[102, 116, 97, 120, 99, 101]⟩ : ByteArray)) = (fieldsL kind) from by simp [fieldsL, h1, h2, h3]) ?_
        exact KF.m [] [.str (⟨#[102, 116, 97, 120, 99, 101]⟩ : ByteArray)]
      · skip
        refine AW.r ?_
        refine At.a 2 ?_
        refine At.done rfl ?_
        refine AW.cE kind (4 : Int) (fun h4 => ?_) (fun h4 => ?_)
        · skip
          refine AW.r ?_
          refine At.a 1 ?_
          refine At.done rfl ?_
          refine AW.ret ?_
          refine ⟨_, Sub.refl _ _, ?_⟩
          refine KF.conv (fun w => .str w) (fun w => []) (show ((⟨#[102, 116, 121, 97]⟩ : ByteArray)) = (fieldsL kind) from by simp [fieldsL, h1, h2, h3, h4]) ?_
          exact KF.m [] [.str (⟨#[102, 116, 121, 97]⟩ : ByteArray)]
        · skip
          refine AW.r ?_
          refine At.a 2 ?_
          refine At.done rfl ?_
          refine AW.cE kind (5 : Int) (fun h5 => ?_) (fun h5 => ?_)
          · skip
            refine AW.r ?_
            refine At.a 1 ?_
            refine At.done rfl ?_
            refine AW.ret ?_
            refine ⟨_, Sub.refl _ _, ?_⟩
            refine KF.conv (fun w => .str w) (fun w => []) (show ((⟨#[102, 114, 112]⟩ : ByteArray)) = (fieldsL kind) from by simp [fieldsL, h1, h2, h3, h4, h5]) ?_
            exact KF.m [] [.str (⟨#[102, 114, 112]⟩ : ByteArray)]
          · skip
            refine AW.r ?_
            refine At.a 2 ?_
            refine At.done rfl ?_
            refine AW.cE kind (6 : Int) (fun h6 => ?_) (fun h6 => ?_)
            · skip
              refine AW.r ?_
              refine At.a 1 ?_
              refine At.done rfl ?_
              refine AW.ret ?_
              refine ⟨_, Sub.refl _ _, ?_⟩
              refine KF.conv (fun w => .str w) (fun w => []) (show ((⟨#[102, 114, 112, 98]⟩ : ByteArray)) = (fieldsL kind) from by simp [fieldsL, h1, h2, h3, h4, h5, h6]) ?_
              exact KF.m [] [.str (⟨#[102, 114, 112, 98]⟩ : ByteArray)]
            · skip
              refine AW.r ?_
              refine At.a 2 ?_
              refine At.done rfl ?_
              refine AW.cE kind (7 : Int) (fun h7 => ?_) (fun h7 => ?_)
              · skip
                refine AW.r ?_
                refine At.a 1 ?_
                refine At.done rfl ?_
                refine AW.ret ?_
                refine ⟨_, Sub.refl _ _, ?_⟩
                refine KF.conv (fun w => .str w) (fun w => []) (show ((⟨#[102, 100]⟩ : ByteArray)) = (fieldsL kind) from by simp [fieldsL, h1, h2, h3, h4, h5, h6, h7]) ?_
                exact KF.m [] [.str (⟨#[102, 100]⟩ : ByteArray)]
              · skip
                refine AW.skip ?_
                refine AW.r ?_
                refine At.a 1 ?_
                refine At.done rfl ?_
                refine AW.ret ?_
                refine ⟨_, Sub.refl _ _, ?_⟩
                refine KF.conv (fun w => .str w) (fun w => []) (show ((⟨#[]⟩ : ByteArray)) = (fieldsL kind) from by simp [fieldsL, h1, h2, h3, h4, h5, h6, h7]) ?_
                exact KF.m [] [.str (⟨#[]⟩ : ByteArray)]
set_option maxRecDepth 100000 in
set_option maxHeartbeats 4000000 in
theorem impl_entryOk_spec  (e : Ent) : FnSpec Tryz.prog 174 [.agg [.int .i64 e.term, .int .i64 e.cmd.kind, .int .i64 e.cmd.release, .int .i64 e.cmd.node, .int .i64 e.cmd.size, .str e.cmd.digest]] [] (.bool (entOk e)) [] := by
  refine FnSpec.of 11 Tryz.func174 rfl Tryz.ntmps174 (by simp) (AW.weakK ?_)
  refine AW.r ?_
  refine At.a 2 ?_
  refine At.done rfl ?_
  refine AW.r ?_
  refine At.a 2 ?_
  refine At.c (impl_within_spec  e.term 1 1000000000 ) Tryz.call69 true [] [] [] trivial ?_
  refine At.a 1 ?_
  by_cases h1 : (inR e.term 1 1000000000) = true
  · refine At.sB 6 (inR e.term 1 1000000000) true (sayB h1) ?_
    have h1i := inR_iff.1 h1
    refine At.a 2 ?_
    refine At.c (impl_CmdOk_spec  e.cmd ) Tryz.call101 true [] [] [] trivial ?_
    refine At.a 2 ?_
    refine At.done rfl ?_
    refine AW.ret ?_
    refine ⟨_, Sub.refl _ _, ?_⟩
    refine KF.conv (fun w => .bool w) (fun w => []) (show (cmdOk e.cmd) = (entOk e) from by (try simp only [inR_iff, inR_not] at *); rw [Bool.eq_iff_iff]; simp only [entOk, noBytes]; (repeat' split) <;> (try simp [inR_iff]) <;> grind) ?_
    exact KF.m [] [.bool (cmdOk e.cmd)]
  · refine At.sB 6 (inR e.term 1 1000000000) false (sayB (Bool.eq_false_iff.2 h1)) ?_
    replace h1 := Bool.eq_false_iff.2 h1
    refine At.a 5 ?_
    refine At.done rfl ?_
    refine AW.ret ?_
    refine ⟨_, Sub.refl _ _, ?_⟩
    refine KF.conv (fun w => .bool w) (fun w => []) (show (false) = (entOk e) from by (try simp only [inR_iff, inR_not] at *); rw [Bool.eq_iff_iff]; simp only [entOk, noBytes]; (repeat' split) <;> (try simp [inR_iff]) <;> grind) ?_
    exact KF.m [] [.bool false]
set_option maxRecDepth 100000 in
set_option maxHeartbeats 4000000 in
theorem impl_entriesOk_spec  (list : List Ent) (hl : list.length ≤ 1048576) : FnSpec Tryz.prog 155 [.sl false 6 (list.map encEnt)] [] (.bool (entsFit list)) [] := by
  refine FnSpec.of 18 Tryz.func155 rfl Tryz.ntmps155 (by simp) (AW.weakK ?_)
  refine AW.r ?_
  refine At.a 1 ?_
  refine At.done rfl ?_
  refine AW.seq ?_
  refine AW.r ?_
  refine At.a 2 ?_
  refine At.sL 6 encEnt list ?_
  refine At.a 1 ?_
  refine At.done rfl ?_
  refine AW.block ?_
  refine AW.loopW (fun (k : Nat) => Go.Sy.mk [.sl false 6 (list.map encEnt), .un, .un, .un, .un, .sl false 6 (list.map encEnt), .int .i64 (list.length : Int), .int .i64 (k : Int)] []) (fun (k : Nat) => k ≤ list.length ∧ entsOk list = entsOk (list.drop k)) (fun (k : Nat) => list.length - k) 0 ⟨by omega, by rw [List.drop_zero]⟩ (Sub.o [] [true, false, false, false, false, true, true, true]) ?_
  rintro k ⟨hk, hR⟩
  refine AW.r ?_
  refine At.a 1 ?_
  refine At.done rfl ?_
  refine AW.seq ?_
  refine AW.cD ((k : Int) < (list.length : Int)) (fun h1 => ?_) (fun h1 => ?_)
  · skip
    refine AW.skip ?_
    refine AW.seq ?_
    refine AW.block ?_
    refine AW.r ?_
    refine At.iSl 24 9 (.tmp 5) (.tmp 7) false 6 (list.map encEnt) .i64 (k : Int) 45 (by omega) (by simp only [List.length_map, List.length_append, List.length_take, List.length_drop, List.length_replicate, List.length_set, List.length_cons, List.length_nil]; omega) ?_
    refine Exists.elim (show ∃ e, list[k]? = some e from ⟨_, List.getElem?_eq_getElem (by omega)⟩) fun e1 he1 => ?_
    refine At.lVp 45 10 (.tmp 9) false 6 (list.map encEnt) k 0 true 6 (encEnt e1) (.agg [.int .i64 e1.term, .int .i64 e1.cmd.kind, .int .i64 e1.cmd.release, .int .i64 e1.cmd.node, .int .i64 e1.cmd.size, .str e1.cmd.digest]) (mapGet he1) ?_
    refine At.a 2 ?_
    refine At.done rfl ?_
    refine AW.r ?_
    refine At.a 1 ?_
    refine At.c (impl_entryOk_spec  e1 ) Tryz.call174 true [] [] [] trivial ?_
    refine At.a 1 ?_
    refine At.done rfl ?_
    refine AW.cNB (entOk e1) (fun h2 => ?_) (fun h2 => ?_)
    · skip
      refine AW.r ?_
      refine At.a 1 ?_
      refine At.done rfl ?_
      refine AW.ret ?_
      refine ⟨_, Sub.refl _ _, ?_⟩
      refine KF.conv (fun w => .bool w) (fun w => []) (show (false) = (entsFit list) from by rw [dropCons he1] at hR; grind [entsFit, entsOk]) ?_
      exact KF.m [] [.bool false]
    · skip
      have h2n := entOk_nums h2
      refine AW.skip ?_
      refine AW.region (At.start ?_)
      refine At.a 1 ?_
      refine At.sI 14 ((k : Int) + 1) (by omega) ?_
      refine At.a 1 ?_
      refine At.done rfl ?_
      exact ⟨k + 1, ⟨by omega, by rw [hR, dropCons he1, entsOk]; simp only [*, Bool.true_and]⟩, (by omega), Sub.o [] [true, false, false, false, false, true, true, true]⟩
  · skip
    refine AW.exit ?_
    refine AW.r ?_
    refine At.a 2 ?_
    refine At.sL 16 encEnt list ?_
    refine At.a 2 ?_
    refine At.done rfl ?_
    refine AW.ret ?_
    refine ⟨_, Sub.refl _ _, ?_⟩
    refine KF.conv (fun w => .bool w) (fun w => []) (show (decide ((list.length : Int) ≤ 6)) = (entsFit list) from by rw [List.drop_of_length_le (by omega)] at hR; grind [entsFit, entsOk]) ?_
    exact KF.m [] [.bool (decide ((list.length : Int) ≤ 6))]
set_option maxRecDepth 100000 in
set_option maxHeartbeats 4000000 in
theorem impl_Msg_take_spec  (m : Msg) (field : UInt8) (hl : m.entries.length ≤ 1048576) : FnSpec Tryz.prog 77 [.ptr 0 0 0, .int .u8 (field.toNat : Int)] [.box 33 [.int .i64 m.kind, .int .i64 m.from_, .int .i64 m.term, .int .i64 m.at_, .int .i64 m.atTerm, .int .i64 m.commit, .bool m.yes, .int .i64 m.release, .int .i64 m.part, .str m.bytes, .int .i64 m.cmd.kind, .int .i64 m.cmd.release, .int .i64 m.cmd.node, .int .i64 m.cmd.size, .str m.cmd.digest, .sl false 6 (m.entries.map encEnt)]] (.bool (takeOk m field.toNat)) [.box 33 [.int .i64 ((takeM m field.toNat).kind), .int .i64 ((takeM m field.toNat).from_), .int .i64 ((takeM m field.toNat).term), .int .i64 ((takeM m field.toNat).at_), .int .i64 ((takeM m field.toNat).atTerm), .int .i64 ((takeM m field.toNat).commit), .bool ((takeM m field.toNat).yes), .int .i64 ((takeM m field.toNat).release), .int .i64 ((takeM m field.toNat).part), .str ((takeM m field.toNat).bytes), .int .i64 ((takeM m field.toNat).cmd.kind), .int .i64 ((takeM m field.toNat).cmd.release), .int .i64 ((takeM m field.toNat).cmd.node), .int .i64 ((takeM m field.toNat).cmd.size), .str ((takeM m field.toNat).cmd.digest), .sl false 6 (((takeM m field.toNat).entries).map encEnt)]] := by
  refine FnSpec.of 113 Tryz.func77 rfl Tryz.ntmps77 (by simp) (AW.weakK ?_)
  refine AW.r ?_
  refine At.a 1 ?_
  refine At.done rfl ?_
  refine AW.r ?_
  refine At.a 1 ?_
  refine At.done rfl ?_
  refine AW.seq ?_
  refine AW.r ?_
  refine At.a 1 ?_
  refine At.done rfl ?_
  refine AW.block ?_
  refine AW.r ?_
  refine At.a 2 ?_
  refine At.done rfl ?_
  refine AW.cE (field.toNat : Int) (102 : Int) (fun h1 => ?_) (fun h1 => ?_)
  · skip
    refine AW.region (At.start ?_)
    refine At.a 5 ?_
    refine At.c (impl_isNode_spec  m.from_ ) Tryz.call152 true [] [] [] trivial ?_
    refine At.a 4 ?_
    refine At.done rfl ?_
    refine AW.r ?_
    refine At.a 2 ?_
    refine At.done rfl ?_
    refine AW.ret ?_
    refine ⟨_, Sub.refl _ _, ?_⟩
    refine KF.conv (fun w => .bool w) (fun w => [.box 33 [.int .i64 ((takeM m field.toNat).kind), .int .i64 ((takeM m field.toNat).from_), .int .i64 ((takeM m field.toNat).term), .int .i64 ((takeM m field.toNat).at_), .int .i64 ((takeM m field.toNat).atTerm), .int .i64 ((takeM m field.toNat).commit), .bool ((takeM m field.toNat).yes), .int .i64 ((takeM m field.toNat).release), .int .i64 ((takeM m field.toNat).part), .str ((takeM m field.toNat).bytes), .int .i64 ((takeM m field.toNat).cmd.kind), .int .i64 ((takeM m field.toNat).cmd.release), .int .i64 ((takeM m field.toNat).cmd.node), .int .i64 ((takeM m field.toNat).cmd.size), .str ((takeM m field.toNat).cmd.digest), .sl false 6 (((takeM m field.toNat).entries).map encEnt)]]) (show (inR m.from_ 0 4) = (takeOk m field.toNat) from by simp only [takeOk, takeM, h1, if_true, if_false] <;> rfl) ?_
    refine KF.conv (fun w => .bool (inR m.from_ 0 4)) (fun w => [.box 33 [.int .i64 w.kind, .int .i64 w.from_, .int .i64 w.term, .int .i64 w.at_, .int .i64 w.atTerm, .int .i64 w.commit, .bool w.yes, .int .i64 w.release, .int .i64 w.part, .str w.bytes, .int .i64 w.cmd.kind, .int .i64 w.cmd.release, .int .i64 w.cmd.node, .int .i64 w.cmd.size, .str w.cmd.digest, .sl false 6 (w.entries.map encEnt)]]) (show ((⟨m.kind, 0, m.term, m.at_, m.atTerm, m.commit, m.yes, m.release, m.part, m.bytes, m.cmd, m.entries⟩ : Msg)) = (takeM m field.toNat) from by simp only [takeOk, takeM, h1, if_true, if_false] <;> rfl) ?_
    exact KF.m [(0, 0)] [.bool (inR m.from_ 0 4)]
  · skip
    refine AW.r ?_
    refine At.a 2 ?_
    refine At.done rfl ?_
    refine AW.cE (field.toNat : Int) (116 : Int) (fun h2 => ?_) (fun h2 => ?_)
    · skip
      refine AW.region (At.start ?_)
      refine At.a 5 ?_
      refine At.c (impl_isWhole_spec  m.term ) Tryz.call150 true [] [] [] trivial ?_
      refine At.a 4 ?_
      refine At.done rfl ?_
      refine AW.r ?_
      refine At.a 2 ?_
      refine At.done rfl ?_
      refine AW.ret ?_
      refine ⟨_, Sub.refl _ _, ?_⟩
      refine KF.conv (fun w => .bool w) (fun w => [.box 33 [.int .i64 ((takeM m field.toNat).kind), .int .i64 ((takeM m field.toNat).from_), .int .i64 ((takeM m field.toNat).term), .int .i64 ((takeM m field.toNat).at_), .int .i64 ((takeM m field.toNat).atTerm), .int .i64 ((takeM m field.toNat).commit), .bool ((takeM m field.toNat).yes), .int .i64 ((takeM m field.toNat).release), .int .i64 ((takeM m field.toNat).part), .str ((takeM m field.toNat).bytes), .int .i64 ((takeM m field.toNat).cmd.kind), .int .i64 ((takeM m field.toNat).cmd.release), .int .i64 ((takeM m field.toNat).cmd.node), .int .i64 ((takeM m field.toNat).cmd.size), .str ((takeM m field.toNat).cmd.digest), .sl false 6 (((takeM m field.toNat).entries).map encEnt)]]) (show (inR m.term 0 1000000000) = (takeOk m field.toNat) from by simp only [takeOk, takeM, h1, h2, if_true, if_false] <;> rfl) ?_
      refine KF.conv (fun w => .bool (inR m.term 0 1000000000)) (fun w => [.box 33 [.int .i64 w.kind, .int .i64 w.from_, .int .i64 w.term, .int .i64 w.at_, .int .i64 w.atTerm, .int .i64 w.commit, .bool w.yes, .int .i64 w.release, .int .i64 w.part, .str w.bytes, .int .i64 w.cmd.kind, .int .i64 w.cmd.release, .int .i64 w.cmd.node, .int .i64 w.cmd.size, .str w.cmd.digest, .sl false 6 (w.entries.map encEnt)]]) (show ((⟨m.kind, m.from_, 0, m.at_, m.atTerm, m.commit, m.yes, m.release, m.part, m.bytes, m.cmd, m.entries⟩ : Msg)) = (takeM m field.toNat) from by simp only [takeOk, takeM, h1, h2, if_true, if_false] <;> rfl) ?_
      exact KF.m [(0, 0)] [.bool (inR m.term 0 1000000000)]
    · skip
      refine AW.r ?_
      refine At.a 2 ?_
      refine At.done rfl ?_
      refine AW.cE (field.toNat : Int) (97 : Int) (fun h3 => ?_) (fun h3 => ?_)
      · skip
        refine AW.region (At.start ?_)
        refine At.a 5 ?_
        refine At.c (impl_within_spec  m.at_ 0 80 ) Tryz.call69 true [] [] [] trivial ?_
        refine At.a 4 ?_
        refine At.done rfl ?_
        refine AW.r ?_
        refine At.a 2 ?_
        refine At.done rfl ?_
        refine AW.ret ?_
        refine ⟨_, Sub.refl _ _, ?_⟩
        refine KF.conv (fun w => .bool w) (fun w => [.box 33 [.int .i64 ((takeM m field.toNat).kind), .int .i64 ((takeM m field.toNat).from_), .int .i64 ((takeM m field.toNat).term), .int .i64 ((takeM m field.toNat).at_), .int .i64 ((takeM m field.toNat).atTerm), .int .i64 ((takeM m field.toNat).commit), .bool ((takeM m field.toNat).yes), .int .i64 ((takeM m field.toNat).release), .int .i64 ((takeM m field.toNat).part), .str ((takeM m field.toNat).bytes), .int .i64 ((takeM m field.toNat).cmd.kind), .int .i64 ((takeM m field.toNat).cmd.release), .int .i64 ((takeM m field.toNat).cmd.node), .int .i64 ((takeM m field.toNat).cmd.size), .str ((takeM m field.toNat).cmd.digest), .sl false 6 (((takeM m field.toNat).entries).map encEnt)]]) (show (inR m.at_ 0 80) = (takeOk m field.toNat) from by simp only [takeOk, takeM, h1, h2, h3, if_true, if_false] <;> rfl) ?_
        refine KF.conv (fun w => .bool (inR m.at_ 0 80)) (fun w => [.box 33 [.int .i64 w.kind, .int .i64 w.from_, .int .i64 w.term, .int .i64 w.at_, .int .i64 w.atTerm, .int .i64 w.commit, .bool w.yes, .int .i64 w.release, .int .i64 w.part, .str w.bytes, .int .i64 w.cmd.kind, .int .i64 w.cmd.release, .int .i64 w.cmd.node, .int .i64 w.cmd.size, .str w.cmd.digest, .sl false 6 (w.entries.map encEnt)]]) (show ((⟨m.kind, m.from_, m.term, 0, m.atTerm, m.commit, m.yes, m.release, m.part, m.bytes, m.cmd, m.entries⟩ : Msg)) = (takeM m field.toNat) from by simp only [takeOk, takeM, h1, h2, h3, if_true, if_false] <;> rfl) ?_
        exact KF.m [(0, 0)] [.bool (inR m.at_ 0 80)]
      · skip
        refine AW.r ?_
        refine At.a 2 ?_
        refine At.done rfl ?_
        refine AW.cE (field.toNat : Int) (120 : Int) (fun h4 => ?_) (fun h4 => ?_)
        · skip
          refine AW.region (At.start ?_)
          refine At.a 5 ?_
          refine At.c (impl_isWhole_spec  m.atTerm ) Tryz.call150 true [] [] [] trivial ?_
          refine At.a 4 ?_
          refine At.done rfl ?_
          refine AW.r ?_
          refine At.a 2 ?_
          refine At.done rfl ?_
          refine AW.ret ?_
          refine ⟨_, Sub.refl _ _, ?_⟩
          refine KF.conv (fun w => .bool w) (fun w => [.box 33 [.int .i64 ((takeM m field.toNat).kind), .int .i64 ((takeM m field.toNat).from_), .int .i64 ((takeM m field.toNat).term), .int .i64 ((takeM m field.toNat).at_), .int .i64 ((takeM m field.toNat).atTerm), .int .i64 ((takeM m field.toNat).commit), .bool ((takeM m field.toNat).yes), .int .i64 ((takeM m field.toNat).release), .int .i64 ((takeM m field.toNat).part), .str ((takeM m field.toNat).bytes), .int .i64 ((takeM m field.toNat).cmd.kind), .int .i64 ((takeM m field.toNat).cmd.release), .int .i64 ((takeM m field.toNat).cmd.node), .int .i64 ((takeM m field.toNat).cmd.size), .str ((takeM m field.toNat).cmd.digest), .sl false 6 (((takeM m field.toNat).entries).map encEnt)]]) (show (inR m.atTerm 0 1000000000) = (takeOk m field.toNat) from by simp only [takeOk, takeM, h1, h2, h3, h4, if_true, if_false] <;> rfl) ?_
          refine KF.conv (fun w => .bool (inR m.atTerm 0 1000000000)) (fun w => [.box 33 [.int .i64 w.kind, .int .i64 w.from_, .int .i64 w.term, .int .i64 w.at_, .int .i64 w.atTerm, .int .i64 w.commit, .bool w.yes, .int .i64 w.release, .int .i64 w.part, .str w.bytes, .int .i64 w.cmd.kind, .int .i64 w.cmd.release, .int .i64 w.cmd.node, .int .i64 w.cmd.size, .str w.cmd.digest, .sl false 6 (w.entries.map encEnt)]]) (show ((⟨m.kind, m.from_, m.term, m.at_, 0, m.commit, m.yes, m.release, m.part, m.bytes, m.cmd, m.entries⟩ : Msg)) = (takeM m field.toNat) from by simp only [takeOk, takeM, h1, h2, h3, h4, if_true, if_false] <;> rfl) ?_
          exact KF.m [(0, 0)] [.bool (inR m.atTerm 0 1000000000)]
        · skip
          refine AW.r ?_
          refine At.a 2 ?_
          refine At.done rfl ?_
          refine AW.cE (field.toNat : Int) (99 : Int) (fun h5 => ?_) (fun h5 => ?_)
          · skip
            refine AW.region (At.start ?_)
            refine At.a 5 ?_
            refine At.c (impl_within_spec  m.commit 0 80 ) Tryz.call69 true [] [] [] trivial ?_
            refine At.a 4 ?_
            refine At.done rfl ?_
            refine AW.r ?_
            refine At.a 2 ?_
            refine At.done rfl ?_
            refine AW.ret ?_
            refine ⟨_, Sub.refl _ _, ?_⟩
            refine KF.conv (fun w => .bool w) (fun w => [.box 33 [.int .i64 ((takeM m field.toNat).kind), .int .i64 ((takeM m field.toNat).from_), .int .i64 ((takeM m field.toNat).term), .int .i64 ((takeM m field.toNat).at_), .int .i64 ((takeM m field.toNat).atTerm), .int .i64 ((takeM m field.toNat).commit), .bool ((takeM m field.toNat).yes), .int .i64 ((takeM m field.toNat).release), .int .i64 ((takeM m field.toNat).part), .str ((takeM m field.toNat).bytes), .int .i64 ((takeM m field.toNat).cmd.kind), .int .i64 ((takeM m field.toNat).cmd.release), .int .i64 ((takeM m field.toNat).cmd.node), .int .i64 ((takeM m field.toNat).cmd.size), .str ((takeM m field.toNat).cmd.digest), .sl false 6 (((takeM m field.toNat).entries).map encEnt)]]) (show (inR m.commit 0 80) = (takeOk m field.toNat) from by simp only [takeOk, takeM, h1, h2, h3, h4, h5, if_true, if_false] <;> rfl) ?_
            refine KF.conv (fun w => .bool (inR m.commit 0 80)) (fun w => [.box 33 [.int .i64 w.kind, .int .i64 w.from_, .int .i64 w.term, .int .i64 w.at_, .int .i64 w.atTerm, .int .i64 w.commit, .bool w.yes, .int .i64 w.release, .int .i64 w.part, .str w.bytes, .int .i64 w.cmd.kind, .int .i64 w.cmd.release, .int .i64 w.cmd.node, .int .i64 w.cmd.size, .str w.cmd.digest, .sl false 6 (w.entries.map encEnt)]]) (show ((⟨m.kind, m.from_, m.term, m.at_, m.atTerm, 0, m.yes, m.release, m.part, m.bytes, m.cmd, m.entries⟩ : Msg)) = (takeM m field.toNat) from by simp only [takeOk, takeM, h1, h2, h3, h4, h5, if_true, if_false] <;> rfl) ?_
            exact KF.m [(0, 0)] [.bool (inR m.commit 0 80)]
          · skip
            refine AW.r ?_
            refine At.a 2 ?_
            refine At.done rfl ?_
            refine AW.cE (field.toNat : Int) (121 : Int) (fun h6 => ?_) (fun h6 => ?_)
            · skip
              refine AW.region (At.start ?_)
              refine At.a 4 ?_
              refine At.done rfl ?_
              refine AW.r ?_
              refine At.a 2 ?_
              refine At.done rfl ?_
              refine AW.ret ?_
              refine ⟨_, Sub.refl _ _, ?_⟩
              refine KF.conv (fun w => .bool w) (fun w => [.box 33 [.int .i64 ((takeM m field.toNat).kind), .int .i64 ((takeM m field.toNat).from_), .int .i64 ((takeM m field.toNat).term), .int .i64 ((takeM m field.toNat).at_), .int .i64 ((takeM m field.toNat).atTerm), .int .i64 ((takeM m field.toNat).commit), .bool ((takeM m field.toNat).yes), .int .i64 ((takeM m field.toNat).release), .int .i64 ((takeM m field.toNat).part), .str ((takeM m field.toNat).bytes), .int .i64 ((takeM m field.toNat).cmd.kind), .int .i64 ((takeM m field.toNat).cmd.release), .int .i64 ((takeM m field.toNat).cmd.node), .int .i64 ((takeM m field.toNat).cmd.size), .str ((takeM m field.toNat).cmd.digest), .sl false 6 (((takeM m field.toNat).entries).map encEnt)]]) (show (true) = (takeOk m field.toNat) from by simp only [takeOk, takeM, h1, h2, h3, h4, h5, h6, if_true, if_false] <;> rfl) ?_
              refine KF.conv (fun w => .bool true) (fun w => [.box 33 [.int .i64 w.kind, .int .i64 w.from_, .int .i64 w.term, .int .i64 w.at_, .int .i64 w.atTerm, .int .i64 w.commit, .bool w.yes, .int .i64 w.release, .int .i64 w.part, .str w.bytes, .int .i64 w.cmd.kind, .int .i64 w.cmd.release, .int .i64 w.cmd.node, .int .i64 w.cmd.size, .str w.cmd.digest, .sl false 6 (w.entries.map encEnt)]]) (show ((⟨m.kind, m.from_, m.term, m.at_, m.atTerm, m.commit, false, m.release, m.part, m.bytes, m.cmd, m.entries⟩ : Msg)) = (takeM m field.toNat) from by simp only [takeOk, takeM, h1, h2, h3, h4, h5, h6, if_true, if_false] <;> rfl) ?_
              exact KF.m [(0, 0)] [.bool true]
            · skip
              refine AW.r ?_
              refine At.a 2 ?_
              refine At.done rfl ?_
              refine AW.cE (field.toNat : Int) (114 : Int) (fun h7 => ?_) (fun h7 => ?_)
              · skip
                refine AW.region (At.start ?_)
                refine At.a 5 ?_
                refine At.c (impl_isRelease_spec  m.release ) Tryz.call153 true [] [] [] trivial ?_
                refine At.a 4 ?_
                refine At.done rfl ?_
                refine AW.r ?_
                refine At.a 2 ?_
                refine At.done rfl ?_
                refine AW.ret ?_
                refine ⟨_, Sub.refl _ _, ?_⟩
                refine KF.conv (fun w => .bool w) (fun w => [.box 33 [.int .i64 ((takeM m field.toNat).kind), .int .i64 ((takeM m field.toNat).from_), .int .i64 ((takeM m field.toNat).term), .int .i64 ((takeM m field.toNat).at_), .int .i64 ((takeM m field.toNat).atTerm), .int .i64 ((takeM m field.toNat).commit), .bool ((takeM m field.toNat).yes), .int .i64 ((takeM m field.toNat).release), .int .i64 ((takeM m field.toNat).part), .str ((takeM m field.toNat).bytes), .int .i64 ((takeM m field.toNat).cmd.kind), .int .i64 ((takeM m field.toNat).cmd.release), .int .i64 ((takeM m field.toNat).cmd.node), .int .i64 ((takeM m field.toNat).cmd.size), .str ((takeM m field.toNat).cmd.digest), .sl false 6 (((takeM m field.toNat).entries).map encEnt)]]) (show (inR m.release 1 1000) = (takeOk m field.toNat) from by simp only [takeOk, takeM, h1, h2, h3, h4, h5, h6, h7, if_true, if_false] <;> rfl) ?_
                refine KF.conv (fun w => .bool (inR m.release 1 1000)) (fun w => [.box 33 [.int .i64 w.kind, .int .i64 w.from_, .int .i64 w.term, .int .i64 w.at_, .int .i64 w.atTerm, .int .i64 w.commit, .bool w.yes, .int .i64 w.release, .int .i64 w.part, .str w.bytes, .int .i64 w.cmd.kind, .int .i64 w.cmd.release, .int .i64 w.cmd.node, .int .i64 w.cmd.size, .str w.cmd.digest, .sl false 6 (w.entries.map encEnt)]]) (show ((⟨m.kind, m.from_, m.term, m.at_, m.atTerm, m.commit, m.yes, 0, m.part, m.bytes, m.cmd, m.entries⟩ : Msg)) = (takeM m field.toNat) from by simp only [takeOk, takeM, h1, h2, h3, h4, h5, h6, h7, if_true, if_false] <;> rfl) ?_
                exact KF.m [(0, 0)] [.bool (inR m.release 1 1000)]
              · skip
                refine AW.r ?_
                refine At.a 2 ?_
                refine At.done rfl ?_
                refine AW.cE (field.toNat : Int) (112 : Int) (fun h8 => ?_) (fun h8 => ?_)
                · skip
                  refine AW.region (At.start ?_)
                  refine At.a 5 ?_
                  refine At.c (impl_isSize_spec  m.part ) Tryz.call154 true [] [] [] trivial ?_
                  refine At.a 4 ?_
                  refine At.done rfl ?_
                  refine AW.r ?_
                  refine At.a 2 ?_
                  refine At.done rfl ?_
                  refine AW.ret ?_
                  refine ⟨_, Sub.refl _ _, ?_⟩
                  refine KF.conv (fun w => .bool w) (fun w => [.box 33 [.int .i64 ((takeM m field.toNat).kind), .int .i64 ((takeM m field.toNat).from_), .int .i64 ((takeM m field.toNat).term), .int .i64 ((takeM m field.toNat).at_), .int .i64 ((takeM m field.toNat).atTerm), .int .i64 ((takeM m field.toNat).commit), .bool ((takeM m field.toNat).yes), .int .i64 ((takeM m field.toNat).release), .int .i64 ((takeM m field.toNat).part), .str ((takeM m field.toNat).bytes), .int .i64 ((takeM m field.toNat).cmd.kind), .int .i64 ((takeM m field.toNat).cmd.release), .int .i64 ((takeM m field.toNat).cmd.node), .int .i64 ((takeM m field.toNat).cmd.size), .str ((takeM m field.toNat).cmd.digest), .sl false 6 (((takeM m field.toNat).entries).map encEnt)]]) (show (inR m.part 0 1000) = (takeOk m field.toNat) from by simp only [takeOk, takeM, h1, h2, h3, h4, h5, h6, h7, h8, if_true, if_false] <;> rfl) ?_
                  refine KF.conv (fun w => .bool (inR m.part 0 1000)) (fun w => [.box 33 [.int .i64 w.kind, .int .i64 w.from_, .int .i64 w.term, .int .i64 w.at_, .int .i64 w.atTerm, .int .i64 w.commit, .bool w.yes, .int .i64 w.release, .int .i64 w.part, .str w.bytes, .int .i64 w.cmd.kind, .int .i64 w.cmd.release, .int .i64 w.cmd.node, .int .i64 w.cmd.size, .str w.cmd.digest, .sl false 6 (w.entries.map encEnt)]]) (show ((⟨m.kind, m.from_, m.term, m.at_, m.atTerm, m.commit, m.yes, m.release, 0, m.bytes, m.cmd, m.entries⟩ : Msg)) = (takeM m field.toNat) from by simp only [takeOk, takeM, h1, h2, h3, h4, h5, h6, h7, h8, if_true, if_false] <;> rfl) ?_
                  exact KF.m [(0, 0)] [.bool (inR m.part 0 1000)]
                · skip
                  refine AW.r ?_
                  refine At.a 2 ?_
                  refine At.done rfl ?_
                  refine AW.cE (field.toNat : Int) (98 : Int) (fun h9 => ?_) (fun h9 => ?_)
                  · skip
                    refine AW.region (At.start ?_)
                    refine At.a 6 ?_
                    refine At.c (impl_within_spec  (m.bytes.size : Int) 1 16 ) Tryz.call69 true [] [] [] trivial ?_
                    refine At.a 4 ?_
                    refine At.done rfl ?_
                    refine AW.r ?_
                    refine At.a 2 ?_
                    refine At.done rfl ?_
                    refine AW.ret ?_
                    refine ⟨_, Sub.refl _ _, ?_⟩
                    refine KF.conv (fun w => .bool w) (fun w => [.box 33 [.int .i64 ((takeM m field.toNat).kind), .int .i64 ((takeM m field.toNat).from_), .int .i64 ((takeM m field.toNat).term), .int .i64 ((takeM m field.toNat).at_), .int .i64 ((takeM m field.toNat).atTerm), .int .i64 ((takeM m field.toNat).commit), .bool ((takeM m field.toNat).yes), .int .i64 ((takeM m field.toNat).release), .int .i64 ((takeM m field.toNat).part), .str ((takeM m field.toNat).bytes), .int .i64 ((takeM m field.toNat).cmd.kind), .int .i64 ((takeM m field.toNat).cmd.release), .int .i64 ((takeM m field.toNat).cmd.node), .int .i64 ((takeM m field.toNat).cmd.size), .str ((takeM m field.toNat).cmd.digest), .sl false 6 (((takeM m field.toNat).entries).map encEnt)]]) (show (inR (m.bytes.size : Int) 1 16) = (takeOk m field.toNat) from by simp only [takeOk, takeM, h1, h2, h3, h4, h5, h6, h7, h8, h9, if_true, if_false] <;> rfl) ?_
                    refine KF.conv (fun w => .bool (inR (m.bytes.size : Int) 1 16)) (fun w => [.box 33 [.int .i64 w.kind, .int .i64 w.from_, .int .i64 w.term, .int .i64 w.at_, .int .i64 w.atTerm, .int .i64 w.commit, .bool w.yes, .int .i64 w.release, .int .i64 w.part, .str w.bytes, .int .i64 w.cmd.kind, .int .i64 w.cmd.release, .int .i64 w.cmd.node, .int .i64 w.cmd.size, .str w.cmd.digest, .sl false 6 (w.entries.map encEnt)]]) (show ((⟨m.kind, m.from_, m.term, m.at_, m.atTerm, m.commit, m.yes, m.release, m.part, (⟨#[]⟩ : ByteArray), m.cmd, m.entries⟩ : Msg)) = (takeM m field.toNat) from by simp only [takeOk, takeM, h1, h2, h3, h4, h5, h6, h7, h8, h9, if_true, if_false] <;> rfl) ?_
                    exact KF.m [(0, 0)] [.bool (inR (m.bytes.size : Int) 1 16)]
                  · skip
                    refine AW.r ?_
                    refine At.a 2 ?_
                    refine At.done rfl ?_
                    refine AW.cE (field.toNat : Int) (100 : Int) (fun h10 => ?_) (fun h10 => ?_)
                    · skip
                      refine AW.region (At.start ?_)
                      refine At.a 5 ?_
                      refine At.c (impl_CmdOk_spec  m.cmd ) Tryz.call101 true [] [] [] trivial ?_
                      refine At.a 5 ?_
                      refine At.done rfl ?_
                      refine AW.r ?_
                      refine At.a 2 ?_
                      refine At.done rfl ?_
                      refine AW.ret ?_
                      refine ⟨_, Sub.refl _ _, ?_⟩
                      refine KF.conv (fun w => .bool w) (fun w => [.box 33 [.int .i64 ((takeM m field.toNat).kind), .int .i64 ((takeM m field.toNat).from_), .int .i64 ((takeM m field.toNat).term), .int .i64 ((takeM m field.toNat).at_), .int .i64 ((takeM m field.toNat).atTerm), .int .i64 ((takeM m field.toNat).commit), .bool ((takeM m field.toNat).yes), .int .i64 ((takeM m field.toNat).release), .int .i64 ((takeM m field.toNat).part), .str ((takeM m field.toNat).bytes), .int .i64 ((takeM m field.toNat).cmd.kind), .int .i64 ((takeM m field.toNat).cmd.release), .int .i64 ((takeM m field.toNat).cmd.node), .int .i64 ((takeM m field.toNat).cmd.size), .str ((takeM m field.toNat).cmd.digest), .sl false 6 (((takeM m field.toNat).entries).map encEnt)]]) (show (cmdOk m.cmd) = (takeOk m field.toNat) from by simp only [takeOk, takeM, h1, h2, h3, h4, h5, h6, h7, h8, h9, h10, if_true, if_false] <;> rfl) ?_
                      refine KF.conv (fun w => .bool (cmdOk m.cmd)) (fun w => [.box 33 [.int .i64 w.kind, .int .i64 w.from_, .int .i64 w.term, .int .i64 w.at_, .int .i64 w.atTerm, .int .i64 w.commit, .bool w.yes, .int .i64 w.release, .int .i64 w.part, .str w.bytes, .int .i64 w.cmd.kind, .int .i64 w.cmd.release, .int .i64 w.cmd.node, .int .i64 w.cmd.size, .str w.cmd.digest, .sl false 6 (w.entries.map encEnt)]]) (show ((⟨m.kind, m.from_, m.term, m.at_, m.atTerm, m.commit, m.yes, m.release, m.part, m.bytes, ⟨0, 0, 0, 0, (⟨#[]⟩ : ByteArray)⟩, m.entries⟩ : Msg)) = (takeM m field.toNat) from by simp only [takeOk, takeM, h1, h2, h3, h4, h5, h6, h7, h8, h9, h10, if_true, if_false] <;> rfl) ?_
                      exact KF.m [(0, 0)] [.bool (cmdOk m.cmd)]
                    · skip
                      refine AW.region (At.start ?_)
                      refine At.a 5 ?_
                      refine At.c (impl_entriesOk_spec  m.entries (by omega)) Tryz.call155 true [] [] [] trivial ?_
                      refine At.a 4 ?_
                      refine At.done rfl ?_
                      refine AW.seq ?_
                      refine AW.weak (Sub.nsl 0 15 33 6 [.int .i64 m.kind, .int .i64 m.from_, .int .i64 m.term, .int .i64 m.at_, .int .i64 m.atTerm, .int .i64 m.commit, .bool m.yes, .int .i64 m.release, .int .i64 m.part, .str m.bytes, .int .i64 m.cmd.kind, .int .i64 m.cmd.release, .int .i64 m.cmd.node, .int .i64 m.cmd.size, .str m.cmd.digest, .nil] (by kernel_rfl)) ?_
                      refine AW.region (At.start ?_)
                      refine At.a 2 ?_
                      refine At.done rfl ?_
                      refine AW.ret ?_
                      refine ⟨_, Sub.refl _ _, ?_⟩
                      refine KF.conv (fun w => .bool w) (fun w => [.box 33 [.int .i64 ((takeM m field.toNat).kind), .int .i64 ((takeM m field.toNat).from_), .int .i64 ((takeM m field.toNat).term), .int .i64 ((takeM m field.toNat).at_), .int .i64 ((takeM m field.toNat).atTerm), .int .i64 ((takeM m field.toNat).commit), .bool ((takeM m field.toNat).yes), .int .i64 ((takeM m field.toNat).release), .int .i64 ((takeM m field.toNat).part), .str ((takeM m field.toNat).bytes), .int .i64 ((takeM m field.toNat).cmd.kind), .int .i64 ((takeM m field.toNat).cmd.release), .int .i64 ((takeM m field.toNat).cmd.node), .int .i64 ((takeM m field.toNat).cmd.size), .str ((takeM m field.toNat).cmd.digest), .sl false 6 (((takeM m field.toNat).entries).map encEnt)]]) (show (entsFit m.entries) = (takeOk m field.toNat) from by simp only [takeOk, takeM, h1, h2, h3, h4, h5, h6, h7, h8, h9, h10, if_true, if_false] <;> rfl) ?_
                      refine KF.conv (fun w => .bool (entsFit m.entries)) (fun w => [.box 33 [.int .i64 w.kind, .int .i64 w.from_, .int .i64 w.term, .int .i64 w.at_, .int .i64 w.atTerm, .int .i64 w.commit, .bool w.yes, .int .i64 w.release, .int .i64 w.part, .str w.bytes, .int .i64 w.cmd.kind, .int .i64 w.cmd.release, .int .i64 w.cmd.node, .int .i64 w.cmd.size, .str w.cmd.digest, .sl false 6 (w.entries.map encEnt)]]) (show ((⟨m.kind, m.from_, m.term, m.at_, m.atTerm, m.commit, m.yes, m.release, m.part, m.bytes, m.cmd, []⟩ : Msg)) = (takeM m field.toNat) from by simp only [takeOk, takeM, h1, h2, h3, h4, h5, h6, h7, h8, h9, h10, if_true, if_false] <;> rfl) ?_
                      exact KF.m [(0, 0)] [.bool (entsFit m.entries)]
set_option maxRecDepth 100000 in
set_option maxHeartbeats 4000000 in
theorem slices_Equal_spec  (s1 : List Ent) (s2 : List Ent) (ha : s1.length ≤ 1048576) (hb : s2.length ≤ 1048576) : FnSpec Tryz.prog 156 [.sl false 6 (s1.map encEnt), .sl false 6 (s2.map encEnt)] [] (.bool (listEq entEq s1 s2)) [] := by
  refine FnSpec.of 26 Tryz.func156 rfl Tryz.ntmps156 (by simp) (AW.weakK ?_)
  refine AW.r ?_
  refine At.a 1 ?_
  refine At.done rfl ?_
  refine AW.seq ?_
  refine AW.r ?_
  refine At.a 2 ?_
  refine At.sL 7 encEnt s1 ?_
  refine At.a 2 ?_
  refine At.sL 9 encEnt s2 ?_
  refine At.a 1 ?_
  refine At.done rfl ?_
  refine AW.cU (s1.length : Int) (s2.length : Int) (fun h1 => ?_) (fun h1 => ?_)
  · skip
    refine AW.r ?_
    refine At.a 1 ?_
    refine At.done rfl ?_
    refine AW.ret ?_
    refine ⟨_, Sub.refl _ _, ?_⟩
    refine KF.conv (fun w => .bool w) (fun w => []) (show (false) = (listEq entEq s1 s2) from by rw [listEq_len (by omega)]) ?_
    exact KF.m [] [.bool false]
  · skip
    refine AW.skip ?_
    refine AW.seq ?_
    refine AW.r ?_
    refine At.a 2 ?_
    refine At.sL 12 encEnt s1 ?_
    refine At.a 1 ?_
    refine At.done rfl ?_
    refine AW.block ?_
    refine AW.loopW (fun (k : Nat) => Go.Sy.mk [.sl false 6 (s1.map encEnt), .sl false 6 (s2.map encEnt), .un, .un, .un, .un, .un, .un, .un, .un, .un, .un, .int .i64 (s1.length : Int), .int .i64 (k : Int)] []) (fun (k : Nat) => k ≤ s1.length ∧ listEq entEq s1 s2 = listEq entEq (s1.drop k) (s2.drop k)) (fun (k : Nat) => s1.length - k) 0 ⟨by omega, by rw [List.drop_zero, List.drop_zero]⟩ (Sub.o [] [true, true, false, false, false, false, false, false, false, false, false, false, true, true]) ?_
    rintro k ⟨hk, hR⟩
    refine AW.r ?_
    refine At.a 1 ?_
    refine At.done rfl ?_
    refine AW.seq ?_
    refine AW.cD ((k : Int) < (s1.length : Int)) (fun h2 => ?_) (fun h2 => ?_)
    · skip
      refine AW.skip ?_
      refine AW.seq ?_
      refine AW.block ?_
      refine AW.r ?_
      refine At.a 2 ?_
      refine At.done rfl ?_
      refine AW.seq ?_
      refine AW.regionD Tryz_mix (At.start ?_)
      refine At.a 2 ?_
      refine At.iSl 24 18 (.tmp 16) (.tmp 17) false 6 (s1.map encEnt) .i64 (k : Int) 45 (by omega) (by simp only [List.length_map, List.length_append, List.length_take, List.length_drop, List.length_replicate, List.length_set, List.length_cons, List.length_nil]; omega) ?_
      refine Exists.elim (show ∃ e, s1[k]? = some e from ⟨_, List.getElem?_eq_getElem (by omega)⟩) fun e1 he1 => ?_
      refine At.lVp 45 19 (.tmp 18) false 6 (s1.map encEnt) k 0 true 6 (encEnt e1) (.agg [.int .i64 e1.term, .int .i64 e1.cmd.kind, .int .i64 e1.cmd.release, .int .i64 e1.cmd.node, .int .i64 e1.cmd.size, .str e1.cmd.digest]) (mapGet he1) ?_
      refine At.a 2 ?_
      refine At.iSl 24 22 (.tmp 20) (.tmp 21) false 6 (s2.map encEnt) .i64 (k : Int) 45 (by omega) (by simp only [List.length_map, List.length_append, List.length_take, List.length_drop, List.length_replicate, List.length_set, List.length_cons, List.length_nil]; omega) ?_
      refine Exists.elim (show ∃ e, s2[k]? = some e from ⟨_, List.getElem?_eq_getElem (by omega)⟩) fun e2 he2 => ?_
      refine At.lVp 45 23 (.tmp 22) false 6 (s2.map encEnt) k 0 true 6 (encEnt e2) (.agg [.int .i64 e2.term, .int .i64 e2.cmd.kind, .int .i64 e2.cmd.release, .int .i64 e2.cmd.node, .int .i64 e2.cmd.size, .str e2.cmd.digest]) (mapGet he2) ?_
      refine At.eqA (t := 45) (u := 45) (d := 24) (op := .neq) (x := .tmp 19) (y := .tmp 23) (X := [.int .i64 e1.term, .int .i64 e1.cmd.kind, .int .i64 e1.cmd.release, .int .i64 e1.cmd.node, .int .i64 e1.cmd.size, .str e1.cmd.digest]) (Y := [.int .i64 e2.term, .int .i64 e2.cmd.kind, .int .i64 e2.cmd.release, .int .i64 e2.cmd.node, .int .i64 e2.cmd.size, .str e2.cmd.digest]) (entEq e1 e2) (by kernel_rfl) (by kernel_rfl) (by kernel_rfl) (by kernel_rfl) (by kernel_rfl) (.bool (!(entEq e1 e2))) (.inr ⟨rfl, rfl⟩) ?_
      refine At.done rfl ⟨by kernel_rfl, ?_⟩
      refine AW.cNB (entEq e1 e2) (fun h3 => ?_) (fun h3 => ?_)
      · skip
        refine AW.r ?_
        refine At.a 1 ?_
        refine At.done rfl ?_
        refine AW.ret ?_
        refine ⟨_, Sub.refl _ _, ?_⟩
        refine KF.conv (fun w => .bool w) (fun w => []) (show (false) = (listEq entEq s1 s2) from by rw [hR, dropCons he1, dropCons he2, listEq]; simp [*]) ?_
        exact KF.m [] [.bool false]
      · skip
        refine AW.skip ?_
        refine AW.region (At.start ?_)
        refine At.a 1 ?_
        refine At.sI 25 ((k : Int) + 1) (by omega) ?_
        refine At.a 1 ?_
        refine At.done rfl ?_
        exact ⟨k + 1, ⟨by omega, by rw [hR, dropCons he1, dropCons he2, listEq]; simp [*]⟩, (by omega), Sub.o [] [true, true, false, false, false, false, false, false, false, false, false, false, true, true]⟩
    · skip
      refine AW.exit ?_
      refine AW.r ?_
      refine At.a 1 ?_
      refine At.done rfl ?_
      refine AW.ret ?_
      refine ⟨_, Sub.refl _ _, ?_⟩
      refine KF.conv (fun w => .bool w) (fun w => []) (show (true) = (listEq entEq s1 s2) from by rw [hR, List.drop_of_length_le (by omega), List.drop_of_length_le (by omega)]; rfl) ?_
      exact KF.m [] [.bool true]
set_option maxRecDepth 100000 in
set_option maxHeartbeats 4000000 in
theorem impl_MsgSame_spec  (a : Msg) (b : Msg) (ha : a.entries.length ≤ 1048576) (hb : b.entries.length ≤ 1048576) : FnSpec Tryz.prog 78 [.agg [.int .i64 a.kind, .int .i64 a.from_, .int .i64 a.term, .int .i64 a.at_, .int .i64 a.atTerm, .int .i64 a.commit, .bool a.yes, .int .i64 a.release, .int .i64 a.part, .str a.bytes, .int .i64 a.cmd.kind, .int .i64 a.cmd.release, .int .i64 a.cmd.node, .int .i64 a.cmd.size, .str a.cmd.digest, .sl false 6 (a.entries.map encEnt)], .agg [.int .i64 b.kind, .int .i64 b.from_, .int .i64 b.term, .int .i64 b.at_, .int .i64 b.atTerm, .int .i64 b.commit, .bool b.yes, .int .i64 b.release, .int .i64 b.part, .str b.bytes, .int .i64 b.cmd.kind, .int .i64 b.cmd.release, .int .i64 b.cmd.node, .int .i64 b.cmd.size, .str b.cmd.digest, .sl false 6 (b.entries.map encEnt)]] [] (.bool (msgEq a b)) [] := by
  refine FnSpec.of 91 Tryz.func78 rfl Tryz.ntmps78 (by simp) (AW.weakK ?_)
  refine AW.r ?_
  refine At.a 3 ?_
  refine At.done rfl ?_
  refine AW.r ?_
  refine At.a 6 ?_
  by_cases h1 : a.kind = b.kind
  · refine At.sB 12 (a.kind == b.kind) true (sayET h1) ?_
    refine At.a 7 ?_
    by_cases h2 : a.from_ = b.from_
    · refine At.sB 19 (a.from_ == b.from_) true (sayET h2) ?_
      refine At.a 7 ?_
      by_cases h3 : a.term = b.term
      · refine At.sB 26 (a.term == b.term) true (sayET h3) ?_
        refine At.a 7 ?_
        by_cases h4 : a.at_ = b.at_
        · refine At.sB 33 (a.at_ == b.at_) true (sayET h4) ?_
          refine At.a 7 ?_
          by_cases h5 : a.atTerm = b.atTerm
          · refine At.sB 40 (a.atTerm == b.atTerm) true (sayET h5) ?_
            refine At.a 7 ?_
            refine At.done rfl ?_
            refine AW.r ?_
            refine At.a 4 ?_
            refine At.eqB (t := 4) (u := 4) (d := 51) (op := .eql) (x := .tmp 48) (y := .tmp 50) (a := a.yes) (b := b.yes) (by kernel_rfl) (by kernel_rfl) (by kernel_rfl) (by kernel_rfl) (by kernel_rfl) (.bool (a.yes == b.yes)) (.inl ⟨rfl, rfl⟩) ?_
            refine At.a 1 ?_
            by_cases h6 : (a.yes == b.yes) = true
            · refine At.sB 52 (a.yes == b.yes) true (sayB h6) ?_
              refine At.a 7 ?_
              by_cases h7 : a.release = b.release
              · refine At.sB 59 (a.release == b.release) true (sayET h7) ?_
                refine At.a 7 ?_
                by_cases h8 : a.part = b.part
                · refine At.sB 66 (a.part == b.part) true (sayET h8) ?_
                  refine At.a 7 ?_
                  by_cases h9 : a.bytes.toList = b.bytes.toList
                  · refine At.sB 73 (a.bytes.toList == b.bytes.toList) true (sayET h9) ?_
                    refine At.a 4 ?_
                    refine At.eqA (t := 31) (u := 31) (d := 78) (op := .eql) (x := .tmp 75) (y := .tmp 77) (X := [.int .i64 a.cmd.kind, .int .i64 a.cmd.release, .int .i64 a.cmd.node, .int .i64 a.cmd.size, .str a.cmd.digest]) (Y := [.int .i64 b.cmd.kind, .int .i64 b.cmd.release, .int .i64 b.cmd.node, .int .i64 b.cmd.size, .str b.cmd.digest]) (cmdEq a.cmd b.cmd) (by kernel_rfl) (by kernel_rfl) (by kernel_rfl) (by kernel_rfl) (by kernel_rfl) (.bool (cmdEq a.cmd b.cmd)) (.inl ⟨rfl, rfl⟩) ?_
                    refine At.a 2 ?_
                    refine At.done rfl ?_
                    refine AW.r ?_
                    refine At.a 2 ?_
                    by_cases h10 : a.commit = b.commit
                    · refine At.sB 81 (a.commit == b.commit) true (sayET h10) ?_
                      refine At.a 3 ?_
                      by_cases h11 : (cmdEq a.cmd b.cmd) = true
                      · refine At.sB 84 (cmdEq a.cmd b.cmd) true (sayB h11) ?_
                        refine At.a 4 ?_
                        refine At.c (slices_Equal_spec  a.entries b.entries (by omega) (by omega)) Tryz.call156 true [] [] [] trivial ?_
                        refine At.a 2 ?_
                        refine At.done rfl ?_
                        refine AW.ret ?_
                        refine ⟨_, Sub.refl _ _, ?_⟩
                        refine KF.conv (fun w => .bool w) (fun w => []) (show (listEq entEq a.entries b.entries) = (msgEq a b) from by grind [msgEq]) ?_
                        exact KF.m [] [.bool (listEq entEq a.entries b.entries)]
                      · refine At.sB 84 (cmdEq a.cmd b.cmd) false (sayB (Bool.eq_false_iff.2 h11)) ?_
                        replace h11 := Bool.eq_false_iff.2 h11
                        refine At.a 7 ?_
                        refine At.done rfl ?_
                        refine AW.ret ?_
                        refine ⟨_, Sub.refl _ _, ?_⟩
                        refine KF.conv (fun w => .bool w) (fun w => []) (show (false) = (msgEq a b) from by grind [msgEq]) ?_
                        exact KF.m [] [.bool false]
                    · refine At.sB 81 (a.commit == b.commit) false (sayEF h10) ?_
                      refine At.a 10 ?_
                      refine At.done rfl ?_
                      refine AW.ret ?_
                      refine ⟨_, Sub.refl _ _, ?_⟩
                      refine KF.conv (fun w => .bool w) (fun w => []) (show (false) = (msgEq a b) from by grind [msgEq]) ?_
                      exact KF.m [] [.bool false]
                  · refine At.sB 73 (a.bytes.toList == b.bytes.toList) false (sayEF h9) ?_
                    refine At.a 7 ?_
                    refine At.done rfl ?_
                    refine AW.r ?_
                    refine At.a 2 ?_
                    by_cases h12 : a.commit = b.commit
                    · refine At.sB 81 (a.commit == b.commit) true (sayET h12) ?_
                      refine At.a 10 ?_
                      refine At.done rfl ?_
                      refine AW.ret ?_
                      refine ⟨_, Sub.refl _ _, ?_⟩
                      refine KF.conv (fun w => .bool w) (fun w => []) (show (false) = (msgEq a b) from by grind [msgEq]) ?_
                      exact KF.m [] [.bool false]
                    · refine At.sB 81 (a.commit == b.commit) false (sayEF h12) ?_
                      refine At.a 10 ?_
                      refine At.done rfl ?_
                      refine AW.ret ?_
                      refine ⟨_, Sub.refl _ _, ?_⟩
                      refine KF.conv (fun w => .bool w) (fun w => []) (show (false) = (msgEq a b) from by grind [msgEq]) ?_
                      exact KF.m [] [.bool false]
                · refine At.sB 66 (a.part == b.part) false (sayEF h8) ?_
                  refine At.a 14 ?_
                  refine At.done rfl ?_
                  refine AW.r ?_
                  refine At.a 2 ?_
                  by_cases h13 : a.commit = b.commit
                  · refine At.sB 81 (a.commit == b.commit) true (sayET h13) ?_
                    refine At.a 10 ?_
                    refine At.done rfl ?_
                    refine AW.ret ?_
                    refine ⟨_, Sub.refl _ _, ?_⟩
                    refine KF.conv (fun w => .bool w) (fun w => []) (show (false) = (msgEq a b) from by grind [msgEq]) ?_
                    exact KF.m [] [.bool false]
                  · refine At.sB 81 (a.commit == b.commit) false (sayEF h13) ?_
                    refine At.a 10 ?_
                    refine At.done rfl ?_
                    refine AW.ret ?_
                    refine ⟨_, Sub.refl _ _, ?_⟩
                    refine KF.conv (fun w => .bool w) (fun w => []) (show (false) = (msgEq a b) from by grind [msgEq]) ?_
                    exact KF.m [] [.bool false]
              · refine At.sB 59 (a.release == b.release) false (sayEF h7) ?_
                refine At.a 21 ?_
                refine At.done rfl ?_
                refine AW.r ?_
                refine At.a 2 ?_
                by_cases h14 : a.commit = b.commit
                · refine At.sB 81 (a.commit == b.commit) true (sayET h14) ?_
                  refine At.a 10 ?_
                  refine At.done rfl ?_
                  refine AW.ret ?_
                  refine ⟨_, Sub.refl _ _, ?_⟩
                  refine KF.conv (fun w => .bool w) (fun w => []) (show (false) = (msgEq a b) from by grind [msgEq]) ?_
                  exact KF.m [] [.bool false]
                · refine At.sB 81 (a.commit == b.commit) false (sayEF h14) ?_
                  refine At.a 10 ?_
                  refine At.done rfl ?_
                  refine AW.ret ?_
                  refine ⟨_, Sub.refl _ _, ?_⟩
                  refine KF.conv (fun w => .bool w) (fun w => []) (show (false) = (msgEq a b) from by grind [msgEq]) ?_
                  exact KF.m [] [.bool false]
            · refine At.sB 52 (a.yes == b.yes) false (sayB (Bool.eq_false_iff.2 h6)) ?_
              replace h6 := Bool.eq_false_iff.2 h6
              refine At.a 28 ?_
              refine At.done rfl ?_
              refine AW.r ?_
              refine At.a 2 ?_
              by_cases h15 : a.commit = b.commit
              · refine At.sB 81 (a.commit == b.commit) true (sayET h15) ?_
                refine At.a 10 ?_
                refine At.done rfl ?_
                refine AW.ret ?_
                refine ⟨_, Sub.refl _ _, ?_⟩
                refine KF.conv (fun w => .bool w) (fun w => []) (show (false) = (msgEq a b) from by grind [msgEq]) ?_
                exact KF.m [] [.bool false]
              · refine At.sB 81 (a.commit == b.commit) false (sayEF h15) ?_
                refine At.a 10 ?_
                refine At.done rfl ?_
                refine AW.ret ?_
                refine ⟨_, Sub.refl _ _, ?_⟩
                refine KF.conv (fun w => .bool w) (fun w => []) (show (false) = (msgEq a b) from by grind [msgEq]) ?_
                exact KF.m [] [.bool false]
          · refine At.sB 40 (a.atTerm == b.atTerm) false (sayEF h5) ?_
            refine At.a 7 ?_
            refine At.done rfl ?_
            refine AW.r ?_
            refine At.a 4 ?_
            refine At.eqB (t := 4) (u := 4) (d := 51) (op := .eql) (x := .tmp 48) (y := .tmp 50) (a := a.yes) (b := b.yes) (by kernel_rfl) (by kernel_rfl) (by kernel_rfl) (by kernel_rfl) (by kernel_rfl) (.bool (a.yes == b.yes)) (.inl ⟨rfl, rfl⟩) ?_
            refine At.a 1 ?_
            by_cases h16 : (a.yes == b.yes) = true
            · refine At.sB 52 (a.yes == b.yes) true (sayB h16) ?_
              refine At.a 7 ?_
              by_cases h17 : a.release = b.release
              · refine At.sB 59 (a.release == b.release) true (sayET h17) ?_
                refine At.a 7 ?_
                by_cases h18 : a.part = b.part
                · refine At.sB 66 (a.part == b.part) true (sayET h18) ?_
                  refine At.a 7 ?_
                  by_cases h19 : a.bytes.toList = b.bytes.toList
                  · refine At.sB 73 (a.bytes.toList == b.bytes.toList) true (sayET h19) ?_
                    refine At.a 4 ?_
                    refine At.eqA (t := 31) (u := 31) (d := 78) (op := .eql) (x := .tmp 75) (y := .tmp 77) (X := [.int .i64 a.cmd.kind, .int .i64 a.cmd.release, .int .i64 a.cmd.node, .int .i64 a.cmd.size, .str a.cmd.digest]) (Y := [.int .i64 b.cmd.kind, .int .i64 b.cmd.release, .int .i64 b.cmd.node, .int .i64 b.cmd.size, .str b.cmd.digest]) (cmdEq a.cmd b.cmd) (by kernel_rfl) (by kernel_rfl) (by kernel_rfl) (by kernel_rfl) (by kernel_rfl) (.bool (cmdEq a.cmd b.cmd)) (.inl ⟨rfl, rfl⟩) ?_
                    refine At.a 2 ?_
                    refine At.done rfl ?_
                    refine AW.r ?_
                    refine At.a 12 ?_
                    refine At.done rfl ?_
                    refine AW.ret ?_
                    refine ⟨_, Sub.refl _ _, ?_⟩
                    refine KF.conv (fun w => .bool w) (fun w => []) (show (false) = (msgEq a b) from by grind [msgEq]) ?_
                    exact KF.m [] [.bool false]
                  · refine At.sB 73 (a.bytes.toList == b.bytes.toList) false (sayEF h19) ?_
                    refine At.a 7 ?_
                    refine At.done rfl ?_
                    refine AW.r ?_
                    refine At.a 12 ?_
                    refine At.done rfl ?_
                    refine AW.ret ?_
                    refine ⟨_, Sub.refl _ _, ?_⟩
                    refine KF.conv (fun w => .bool w) (fun w => []) (show (false) = (msgEq a b) from by grind [msgEq]) ?_
                    exact KF.m [] [.bool false]
                · refine At.sB 66 (a.part == b.part) false (sayEF h18) ?_
                  refine At.a 14 ?_
                  refine At.done rfl ?_
                  refine AW.r ?_
                  refine At.a 12 ?_
                  refine At.done rfl ?_
                  refine AW.ret ?_
                  refine ⟨_, Sub.refl _ _, ?_⟩
                  refine KF.conv (fun w => .bool w) (fun w => []) (show (false) = (msgEq a b) from by grind [msgEq]) ?_
                  exact KF.m [] [.bool false]
              · refine At.sB 59 (a.release == b.release) false (sayEF h17) ?_
                refine At.a 21 ?_
                refine At.done rfl ?_
                refine AW.r ?_
                refine At.a 12 ?_
                refine At.done rfl ?_
                refine AW.ret ?_
                refine ⟨_, Sub.refl _ _, ?_⟩
                refine KF.conv (fun w => .bool w) (fun w => []) (show (false) = (msgEq a b) from by grind [msgEq]) ?_
                exact KF.m [] [.bool false]
            · refine At.sB 52 (a.yes == b.yes) false (sayB (Bool.eq_false_iff.2 h16)) ?_
              replace h16 := Bool.eq_false_iff.2 h16
              refine At.a 28 ?_
              refine At.done rfl ?_
              refine AW.r ?_
              refine At.a 12 ?_
              refine At.done rfl ?_
              refine AW.ret ?_
              refine ⟨_, Sub.refl _ _, ?_⟩
              refine KF.conv (fun w => .bool w) (fun w => []) (show (false) = (msgEq a b) from by grind [msgEq]) ?_
              exact KF.m [] [.bool false]
        · refine At.sB 33 (a.at_ == b.at_) false (sayEF h4) ?_
          refine At.a 14 ?_
          refine At.done rfl ?_
          refine AW.r ?_
          refine At.a 4 ?_
          refine At.eqB (t := 4) (u := 4) (d := 51) (op := .eql) (x := .tmp 48) (y := .tmp 50) (a := a.yes) (b := b.yes) (by kernel_rfl) (by kernel_rfl) (by kernel_rfl) (by kernel_rfl) (by kernel_rfl) (.bool (a.yes == b.yes)) (.inl ⟨rfl, rfl⟩) ?_
          refine At.a 1 ?_
          by_cases h20 : (a.yes == b.yes) = true
          · refine At.sB 52 (a.yes == b.yes) true (sayB h20) ?_
            refine At.a 7 ?_
            by_cases h21 : a.release = b.release
            · refine At.sB 59 (a.release == b.release) true (sayET h21) ?_
              refine At.a 7 ?_
              by_cases h22 : a.part = b.part
              · refine At.sB 66 (a.part == b.part) true (sayET h22) ?_
                refine At.a 7 ?_
                by_cases h23 : a.bytes.toList = b.bytes.toList
                · refine At.sB 73 (a.bytes.toList == b.bytes.toList) true (sayET h23) ?_
                  refine At.a 4 ?_
                  refine At.eqA (t := 31) (u := 31) (d := 78) (op := .eql) (x := .tmp 75) (y := .tmp 77) (X := [.int .i64 a.cmd.kind, .int .i64 a.cmd.release, .int .i64 a.cmd.node, .int .i64 a.cmd.size, .str a.cmd.digest]) (Y := [.int .i64 b.cmd.kind, .int .i64 b.cmd.release, .int .i64 b.cmd.node, .int .i64 b.cmd.size, .str b.cmd.digest]) (cmdEq a.cmd b.cmd) (by kernel_rfl) (by kernel_rfl) (by kernel_rfl) (by kernel_rfl) (by kernel_rfl) (.bool (cmdEq a.cmd b.cmd)) (.inl ⟨rfl, rfl⟩) ?_
                  refine At.a 2 ?_
                  refine At.done rfl ?_
                  refine AW.r ?_
                  refine At.a 12 ?_
                  refine At.done rfl ?_
                  refine AW.ret ?_
                  refine ⟨_, Sub.refl _ _, ?_⟩
                  refine KF.conv (fun w => .bool w) (fun w => []) (show (false) = (msgEq a b) from by grind [msgEq]) ?_
                  exact KF.m [] [.bool false]
                · refine At.sB 73 (a.bytes.toList == b.bytes.toList) false (sayEF h23) ?_
                  refine At.a 7 ?_
                  refine At.done rfl ?_
                  refine AW.r ?_
                  refine At.a 12 ?_
                  refine At.done rfl ?_
                  refine AW.ret ?_
                  refine ⟨_, Sub.refl _ _, ?_⟩
                  refine KF.conv (fun w => .bool w) (fun w => []) (show (false) = (msgEq a b) from by grind [msgEq]) ?_
                  exact KF.m [] [.bool false]
              · refine At.sB 66 (a.part == b.part) false (sayEF h22) ?_
                refine At.a 14 ?_
                refine At.done rfl ?_
                refine AW.r ?_
                refine At.a 12 ?_
                refine At.done rfl ?_
                refine AW.ret ?_
                refine ⟨_, Sub.refl _ _, ?_⟩
                refine KF.conv (fun w => .bool w) (fun w => []) (show (false) = (msgEq a b) from by grind [msgEq]) ?_
                exact KF.m [] [.bool false]
            · refine At.sB 59 (a.release == b.release) false (sayEF h21) ?_
              refine At.a 21 ?_
              refine At.done rfl ?_
              refine AW.r ?_
              refine At.a 12 ?_
              refine At.done rfl ?_
              refine AW.ret ?_
              refine ⟨_, Sub.refl _ _, ?_⟩
              refine KF.conv (fun w => .bool w) (fun w => []) (show (false) = (msgEq a b) from by grind [msgEq]) ?_
              exact KF.m [] [.bool false]
          · refine At.sB 52 (a.yes == b.yes) false (sayB (Bool.eq_false_iff.2 h20)) ?_
            replace h20 := Bool.eq_false_iff.2 h20
            refine At.a 28 ?_
            refine At.done rfl ?_
            refine AW.r ?_
            refine At.a 12 ?_
            refine At.done rfl ?_
            refine AW.ret ?_
            refine ⟨_, Sub.refl _ _, ?_⟩
            refine KF.conv (fun w => .bool w) (fun w => []) (show (false) = (msgEq a b) from by grind [msgEq]) ?_
            exact KF.m [] [.bool false]
      · refine At.sB 26 (a.term == b.term) false (sayEF h3) ?_
        refine At.a 21 ?_
        refine At.done rfl ?_
        refine AW.r ?_
        refine At.a 4 ?_
        refine At.eqB (t := 4) (u := 4) (d := 51) (op := .eql) (x := .tmp 48) (y := .tmp 50) (a := a.yes) (b := b.yes) (by kernel_rfl) (by kernel_rfl) (by kernel_rfl) (by kernel_rfl) (by kernel_rfl) (.bool (a.yes == b.yes)) (.inl ⟨rfl, rfl⟩) ?_
        refine At.a 1 ?_
        by_cases h24 : (a.yes == b.yes) = true
        · refine At.sB 52 (a.yes == b.yes) true (sayB h24) ?_
          refine At.a 7 ?_
          by_cases h25 : a.release = b.release
          · refine At.sB 59 (a.release == b.release) true (sayET h25) ?_
            refine At.a 7 ?_
            by_cases h26 : a.part = b.part
            · refine At.sB 66 (a.part == b.part) true (sayET h26) ?_
              refine At.a 7 ?_
              by_cases h27 : a.bytes.toList = b.bytes.toList
              · refine At.sB 73 (a.bytes.toList == b.bytes.toList) true (sayET h27) ?_
                refine At.a 4 ?_
                refine At.eqA (t := 31) (u := 31) (d := 78) (op := .eql) (x := .tmp 75) (y := .tmp 77) (X := [.int .i64 a.cmd.kind, .int .i64 a.cmd.release, .int .i64 a.cmd.node, .int .i64 a.cmd.size, .str a.cmd.digest]) (Y := [.int .i64 b.cmd.kind, .int .i64 b.cmd.release, .int .i64 b.cmd.node, .int .i64 b.cmd.size, .str b.cmd.digest]) (cmdEq a.cmd b.cmd) (by kernel_rfl) (by kernel_rfl) (by kernel_rfl) (by kernel_rfl) (by kernel_rfl) (.bool (cmdEq a.cmd b.cmd)) (.inl ⟨rfl, rfl⟩) ?_
                refine At.a 2 ?_
                refine At.done rfl ?_
                refine AW.r ?_
                refine At.a 12 ?_
                refine At.done rfl ?_
                refine AW.ret ?_
                refine ⟨_, Sub.refl _ _, ?_⟩
                refine KF.conv (fun w => .bool w) (fun w => []) (show (false) = (msgEq a b) from by grind [msgEq]) ?_
                exact KF.m [] [.bool false]
              · refine At.sB 73 (a.bytes.toList == b.bytes.toList) false (sayEF h27) ?_
                refine At.a 7 ?_
                refine At.done rfl ?_
                refine AW.r ?_
                refine At.a 12 ?_
                refine At.done rfl ?_
                refine AW.ret ?_
                refine ⟨_, Sub.refl _ _, ?_⟩
                refine KF.conv (fun w => .bool w) (fun w => []) (show (false) = (msgEq a b) from by grind [msgEq]) ?_
                exact KF.m [] [.bool false]
            · refine At.sB 66 (a.part == b.part) false (sayEF h26) ?_
              refine At.a 14 ?_
              refine At.done rfl ?_
              refine AW.r ?_
              refine At.a 12 ?_
              refine At.done rfl ?_
              refine AW.ret ?_
              refine ⟨_, Sub.refl _ _, ?_⟩
              refine KF.conv (fun w => .bool w) (fun w => []) (show (false) = (msgEq a b) from by grind [msgEq]) ?_
              exact KF.m [] [.bool false]
          · refine At.sB 59 (a.release == b.release) false (sayEF h25) ?_
            refine At.a 21 ?_
            refine At.done rfl ?_
            refine AW.r ?_
            refine At.a 12 ?_
            refine At.done rfl ?_
            refine AW.ret ?_
            refine ⟨_, Sub.refl _ _, ?_⟩
            refine KF.conv (fun w => .bool w) (fun w => []) (show (false) = (msgEq a b) from by grind [msgEq]) ?_
            exact KF.m [] [.bool false]
        · refine At.sB 52 (a.yes == b.yes) false (sayB (Bool.eq_false_iff.2 h24)) ?_
          replace h24 := Bool.eq_false_iff.2 h24
          refine At.a 28 ?_
          refine At.done rfl ?_
          refine AW.r ?_
          refine At.a 12 ?_
          refine At.done rfl ?_
          refine AW.ret ?_
          refine ⟨_, Sub.refl _ _, ?_⟩
          refine KF.conv (fun w => .bool w) (fun w => []) (show (false) = (msgEq a b) from by grind [msgEq]) ?_
          exact KF.m [] [.bool false]
    · refine At.sB 19 (a.from_ == b.from_) false (sayEF h2) ?_
      refine At.a 28 ?_
      refine At.done rfl ?_
      refine AW.r ?_
      refine At.a 4 ?_
      refine At.eqB (t := 4) (u := 4) (d := 51) (op := .eql) (x := .tmp 48) (y := .tmp 50) (a := a.yes) (b := b.yes) (by kernel_rfl) (by kernel_rfl) (by kernel_rfl) (by kernel_rfl) (by kernel_rfl) (.bool (a.yes == b.yes)) (.inl ⟨rfl, rfl⟩) ?_
      refine At.a 1 ?_
      by_cases h28 : (a.yes == b.yes) = true
      · refine At.sB 52 (a.yes == b.yes) true (sayB h28) ?_
        refine At.a 7 ?_
        by_cases h29 : a.release = b.release
        · refine At.sB 59 (a.release == b.release) true (sayET h29) ?_
          refine At.a 7 ?_
          by_cases h30 : a.part = b.part
          · refine At.sB 66 (a.part == b.part) true (sayET h30) ?_
            refine At.a 7 ?_
            by_cases h31 : a.bytes.toList = b.bytes.toList
            · refine At.sB 73 (a.bytes.toList == b.bytes.toList) true (sayET h31) ?_
              refine At.a 4 ?_
              refine At.eqA (t := 31) (u := 31) (d := 78) (op := .eql) (x := .tmp 75) (y := .tmp 77) (X := [.int .i64 a.cmd.kind, .int .i64 a.cmd.release, .int .i64 a.cmd.node, .int .i64 a.cmd.size, .str a.cmd.digest]) (Y := [.int .i64 b.cmd.kind, .int .i64 b.cmd.release, .int .i64 b.cmd.node, .int .i64 b.cmd.size, .str b.cmd.digest]) (cmdEq a.cmd b.cmd) (by kernel_rfl) (by kernel_rfl) (by kernel_rfl) (by kernel_rfl) (by kernel_rfl) (.bool (cmdEq a.cmd b.cmd)) (.inl ⟨rfl, rfl⟩) ?_
              refine At.a 2 ?_
              refine At.done rfl ?_
              refine AW.r ?_
              refine At.a 12 ?_
              refine At.done rfl ?_
              refine AW.ret ?_
              refine ⟨_, Sub.refl _ _, ?_⟩
              refine KF.conv (fun w => .bool w) (fun w => []) (show (false) = (msgEq a b) from by grind [msgEq]) ?_
              exact KF.m [] [.bool false]
            · refine At.sB 73 (a.bytes.toList == b.bytes.toList) false (sayEF h31) ?_
              refine At.a 7 ?_
              refine At.done rfl ?_
              refine AW.r ?_
              refine At.a 12 ?_
              refine At.done rfl ?_
              refine AW.ret ?_
              refine ⟨_, Sub.refl _ _, ?_⟩
              refine KF.conv (fun w => .bool w) (fun w => []) (show (false) = (msgEq a b) from by grind [msgEq]) ?_
              exact KF.m [] [.bool false]
          · refine At.sB 66 (a.part == b.part) false (sayEF h30) ?_
            refine At.a 14 ?_
            refine At.done rfl ?_
            refine AW.r ?_
            refine At.a 12 ?_
            refine At.done rfl ?_
            refine AW.ret ?_
            refine ⟨_, Sub.refl _ _, ?_⟩
            refine KF.conv (fun w => .bool w) (fun w => []) (show (false) = (msgEq a b) from by grind [msgEq]) ?_
            exact KF.m [] [.bool false]
        · refine At.sB 59 (a.release == b.release) false (sayEF h29) ?_
          refine At.a 21 ?_
          refine At.done rfl ?_
          refine AW.r ?_
          refine At.a 12 ?_
          refine At.done rfl ?_
          refine AW.ret ?_
          refine ⟨_, Sub.refl _ _, ?_⟩
          refine KF.conv (fun w => .bool w) (fun w => []) (show (false) = (msgEq a b) from by grind [msgEq]) ?_
          exact KF.m [] [.bool false]
      · refine At.sB 52 (a.yes == b.yes) false (sayB (Bool.eq_false_iff.2 h28)) ?_
        replace h28 := Bool.eq_false_iff.2 h28
        refine At.a 28 ?_
        refine At.done rfl ?_
        refine AW.r ?_
        refine At.a 12 ?_
        refine At.done rfl ?_
        refine AW.ret ?_
        refine ⟨_, Sub.refl _ _, ?_⟩
        refine KF.conv (fun w => .bool w) (fun w => []) (show (false) = (msgEq a b) from by grind [msgEq]) ?_
        exact KF.m [] [.bool false]
  · refine At.sB 12 (a.kind == b.kind) false (sayEF h1) ?_
    refine At.a 35 ?_
    refine At.done rfl ?_
    refine AW.r ?_
    refine At.a 4 ?_
    refine At.eqB (t := 4) (u := 4) (d := 51) (op := .eql) (x := .tmp 48) (y := .tmp 50) (a := a.yes) (b := b.yes) (by kernel_rfl) (by kernel_rfl) (by kernel_rfl) (by kernel_rfl) (by kernel_rfl) (.bool (a.yes == b.yes)) (.inl ⟨rfl, rfl⟩) ?_
    refine At.a 1 ?_
    by_cases h32 : (a.yes == b.yes) = true
    · refine At.sB 52 (a.yes == b.yes) true (sayB h32) ?_
      refine At.a 7 ?_
      by_cases h33 : a.release = b.release
      · refine At.sB 59 (a.release == b.release) true (sayET h33) ?_
        refine At.a 7 ?_
        by_cases h34 : a.part = b.part
        · refine At.sB 66 (a.part == b.part) true (sayET h34) ?_
          refine At.a 7 ?_
          by_cases h35 : a.bytes.toList = b.bytes.toList
          · refine At.sB 73 (a.bytes.toList == b.bytes.toList) true (sayET h35) ?_
            refine At.a 4 ?_
            refine At.eqA (t := 31) (u := 31) (d := 78) (op := .eql) (x := .tmp 75) (y := .tmp 77) (X := [.int .i64 a.cmd.kind, .int .i64 a.cmd.release, .int .i64 a.cmd.node, .int .i64 a.cmd.size, .str a.cmd.digest]) (Y := [.int .i64 b.cmd.kind, .int .i64 b.cmd.release, .int .i64 b.cmd.node, .int .i64 b.cmd.size, .str b.cmd.digest]) (cmdEq a.cmd b.cmd) (by kernel_rfl) (by kernel_rfl) (by kernel_rfl) (by kernel_rfl) (by kernel_rfl) (.bool (cmdEq a.cmd b.cmd)) (.inl ⟨rfl, rfl⟩) ?_
            refine At.a 2 ?_
            refine At.done rfl ?_
            refine AW.r ?_
            refine At.a 12 ?_
            refine At.done rfl ?_
            refine AW.ret ?_
            refine ⟨_, Sub.refl _ _, ?_⟩
            refine KF.conv (fun w => .bool w) (fun w => []) (show (false) = (msgEq a b) from by grind [msgEq]) ?_
            exact KF.m [] [.bool false]
          · refine At.sB 73 (a.bytes.toList == b.bytes.toList) false (sayEF h35) ?_
            refine At.a 7 ?_
            refine At.done rfl ?_
            refine AW.r ?_
            refine At.a 12 ?_
            refine At.done rfl ?_
            refine AW.ret ?_
            refine ⟨_, Sub.refl _ _, ?_⟩
            refine KF.conv (fun w => .bool w) (fun w => []) (show (false) = (msgEq a b) from by grind [msgEq]) ?_
            exact KF.m [] [.bool false]
        · refine At.sB 66 (a.part == b.part) false (sayEF h34) ?_
          refine At.a 14 ?_
          refine At.done rfl ?_
          refine AW.r ?_
          refine At.a 12 ?_
          refine At.done rfl ?_
          refine AW.ret ?_
          refine ⟨_, Sub.refl _ _, ?_⟩
          refine KF.conv (fun w => .bool w) (fun w => []) (show (false) = (msgEq a b) from by grind [msgEq]) ?_
          exact KF.m [] [.bool false]
      · refine At.sB 59 (a.release == b.release) false (sayEF h33) ?_
        refine At.a 21 ?_
        refine At.done rfl ?_
        refine AW.r ?_
        refine At.a 12 ?_
        refine At.done rfl ?_
        refine AW.ret ?_
        refine ⟨_, Sub.refl _ _, ?_⟩
        refine KF.conv (fun w => .bool w) (fun w => []) (show (false) = (msgEq a b) from by grind [msgEq]) ?_
        exact KF.m [] [.bool false]
    · refine At.sB 52 (a.yes == b.yes) false (sayB (Bool.eq_false_iff.2 h32)) ?_
      replace h32 := Bool.eq_false_iff.2 h32
      refine At.a 28 ?_
      refine At.done rfl ?_
      refine AW.r ?_
      refine At.a 12 ?_
      refine At.done rfl ?_
      refine AW.ret ?_
      refine ⟨_, Sub.refl _ _, ?_⟩
      refine KF.conv (fun w => .bool w) (fun w => []) (show (false) = (msgEq a b) from by grind [msgEq]) ?_
      exact KF.m [] [.bool false]
set_option maxRecDepth 100000 in
set_option maxHeartbeats 4000000 in
theorem impl_MsgFits_spec  (m : Msg) (hl : m.entries.length ≤ 1048576) : FnSpec Tryz.prog 22 [.agg [.int .i64 m.kind, .int .i64 m.from_, .int .i64 m.term, .int .i64 m.at_, .int .i64 m.atTerm, .int .i64 m.commit, .bool m.yes, .int .i64 m.release, .int .i64 m.part, .str m.bytes, .int .i64 m.cmd.kind, .int .i64 m.cmd.release, .int .i64 m.cmd.node, .int .i64 m.cmd.size, .str m.cmd.digest, .sl false 6 (m.entries.map encEnt)]] [] (.bool (msgFits m)) [] := by
  have hfs := fieldsL_small m.kind
  refine FnSpec.of 30 Tryz.func22 rfl Tryz.ntmps22 (by simp) (AW.weakK ?_)
  refine AW.r ?_
  refine At.a 2 ?_
  refine At.done rfl ?_
  refine AW.r ?_
  refine At.a 2 ?_
  refine At.c (impl_fieldsOf_spec  m.kind ) Tryz.call76 true [] [] [] trivial ?_
  refine At.a 1 ?_
  refine At.done rfl ?_
  refine AW.r ?_
  refine At.a 3 ?_
  refine At.done rfl ?_
  refine AW.seq ?_
  refine AW.r ?_
  refine At.a 3 ?_
  refine At.done rfl ?_
  refine AW.block ?_
  refine AW.loopW (fun (x : Nat × Msg) => match x with | (k, q) => Go.Sy.mk [.un, .ptr 101 0 0, .un, .str (fieldsL m.kind), .ptr 104 0 0, .un, .un, .un, .un, .un, .un, .int .i64 ((fieldsL m.kind).size : Int), .int .i64 (k : Int)] [(101, .box 33 [.int .i64 m.kind, .int .i64 m.from_, .int .i64 m.term, .int .i64 m.at_, .int .i64 m.atTerm, .int .i64 m.commit, .bool m.yes, .int .i64 m.release, .int .i64 m.part, .str m.bytes, .int .i64 m.cmd.kind, .int .i64 m.cmd.release, .int .i64 m.cmd.node, .int .i64 m.cmd.size, .str m.cmd.digest, .sl false 6 (m.entries.map encEnt)]), (104, .box 33 [.int .i64 q.kind, .int .i64 q.from_, .int .i64 q.term, .int .i64 q.at_, .int .i64 q.atTerm, .int .i64 q.commit, .bool q.yes, .int .i64 q.release, .int .i64 q.part, .str q.bytes, .int .i64 q.cmd.kind, .int .i64 q.cmd.release, .int .i64 q.cmd.node, .int .i64 q.cmd.size, .str q.cmd.digest, .sl false 6 (q.entries.map encEnt)])]) (fun (x : Nat × Msg) => match x with | (k, q) => k ≤ (fieldsL m.kind).size ∧ q.entries.length ≤ 1048576 ∧ runTake m.kind (fieldsL m.kind).data.toList m = runTake m.kind ((fieldsL m.kind).data.toList.drop k) q) (fun (x : Nat × Msg) => match x with | (k, q) => (fieldsL m.kind).size - k) (0, m) ⟨by omega, hl, by rw [List.drop_zero]⟩ (Sub.o [(101, 101), (104, 104)] [false, true, false, true, true, false, false, false, false, false, false, true, true]) ?_
  rintro ⟨k, q⟩ ⟨hk, hq, hR⟩
  refine AW.r ?_
  refine At.a 1 ?_
  refine At.done rfl ?_
  refine AW.seq ?_
  refine AW.cD ((k : Int) < ((fieldsL m.kind).size : Int)) (fun h1 => ?_) (fun h1 => ?_)
  · skip
    refine AW.skip ?_
    refine AW.seq ?_
    refine AW.block ?_
    refine AW.r ?_
    refine At.a 2 ?_
    refine At.done rfl ?_
    refine AW.r ?_
    refine At.a 2 ?_
    refine Exists.elim (show ∃ e, (fieldsL m.kind).data[k]? = some e from ⟨_, Array.getElem?_eq_getElem (by show _ < (fieldsL m.kind).size; omega)⟩) fun e1 he1 => ?_
    have hl1 : (fieldsL m.kind).data.toList[k]? = some e1 := by simpa using he1
    refine At.idxStr (t := 9) (d := 17) (x := .tmp 15) (y := .tmp 16) (s := fieldsL m.kind) (kd := .i64) (i := (k : Int)) e1 (by kernel_rfl) (by kernel_rfl) (by kernel_rfl) (by kernel_rfl) (by omega) he1 ?_
    refine At.c (impl_Msg_take_spec  q e1 (by omega)) Tryz.call77 true [(104, 0)] [] [] trivial ?_
    refine At.a 1 ?_
    refine At.done rfl ?_
    refine AW.cNB (takeOk q e1.toNat) (fun h2 => ?_) (fun h2 => ?_)
    · skip
      refine AW.r ?_
      refine At.a 1 ?_
      refine At.done rfl ?_
      refine AW.ret ?_
      refine ⟨_, Sub.refl _ _, ?_⟩
      refine KF.conv (fun w => .bool w) (fun w => []) (show (false) = (msgFits m) from by rw [fits_run, hR, dropCons hl1, runTake]; simp [h1, h2]) ?_
      exact KF.m [] [.bool false]
    · skip
      refine AW.skip ?_
      refine AW.region (At.start ?_)
      refine At.a 1 ?_
      refine At.sI 20 ((k : Int) + 1) (by omega) ?_
      refine At.a 1 ?_
      refine At.done rfl ?_
      exact ⟨(k + 1, (takeM q e1.toNat)), ⟨by omega, takeM_small hq _, by rw [hR, dropCons hl1, runTake]; simp only [*, Bool.true_and]⟩, (by simp only; omega), Sub.o [(101, 101), (104, 104)] [false, true, false, true, true, false, false, false, false, false, false, true, true]⟩
  · skip
    refine AW.exit ?_
    refine AW.r ?_
    refine At.a 3 ?_
    by_cases h3 : (fieldsL m.kind).toList = (⟨#[]⟩ : ByteArray).toList
    · refine At.sB 23 (!((fieldsL m.kind).toList == (⟨#[]⟩ : ByteArray).toList)) false (sayNF (sayET h3)) ?_
      refine At.a 7 ?_
      refine At.done rfl ?_
      refine AW.ret ?_
      refine ⟨_, Sub.refl _ _, ?_⟩
      refine KF.conv (fun w => .bool w) (fun w => []) (show (false) = (msgFits m) from by rw [fits_run, show ((fieldsL m.kind).toList == []) = true from beq_iff_eq.2 (by rw [← noBytes]; assumption)]; rfl) ?_
      exact KF.m [] [.bool false]
    · refine At.sB 23 (!((fieldsL m.kind).toList == (⟨#[]⟩ : ByteArray).toList)) true (sayNT (sayEF h3)) ?_
      refine At.a 4 ?_
      refine At.c (FnSpec.nz (As := [.agg [.int .i64 q.kind, .int .i64 q.from_, .int .i64 q.term, .int .i64 q.at_, .int .i64 q.atTerm, .int .i64 q.commit, .bool q.yes, .int .i64 q.release, .int .i64 q.part, .str q.bytes, .int .i64 q.cmd.kind, .int .i64 q.cmd.release, .int .i64 q.cmd.node, .int .i64 q.cmd.size, .str q.cmd.digest, .sl false 6 (q.entries.map encEnt)], .agg [.int .i64 m.kind, .int .i64 0, .int .i64 0, .int .i64 0, .int .i64 0, .int .i64 0, .bool false, .int .i64 0, .int .i64 0, .str (⟨#[]⟩ : ByteArray), .int .i64 0, .int .i64 0, .int .i64 0, .int .i64 0, .str (⟨#[]⟩ : ByteArray), .nil]]) 6 (impl_MsgSame_spec  q (⟨m.kind, 0, 0, 0, 0, 0, false, 0, 0, (⟨#[]⟩ : ByteArray), ⟨0, 0, 0, 0, (⟨#[]⟩ : ByteArray)⟩, []⟩ : Msg) (by omega) (by simp only [List.length_map, List.length_append, List.length_take, List.length_drop, List.length_replicate, List.length_set, List.length_cons, List.length_nil]; omega))) Tryz.call78 true [] [] [] trivial ?_
      refine At.a 2 ?_
      refine At.done rfl ?_
      refine AW.ret ?_
      refine ⟨_, Sub.refl _ _, ?_⟩
      refine KF.conv (fun w => .bool w) (fun w => []) (show (msgEq q (⟨m.kind, 0, 0, 0, 0, 0, false, 0, 0, (⟨#[]⟩ : ByteArray), ⟨0, 0, 0, 0, (⟨#[]⟩ : ByteArray)⟩, []⟩ : Msg)) = (msgFits m) from by rw [fits_run, hR, List.drop_of_length_le (by rw [Array.length_toList]; show (fieldsL m.kind).size ≤ _; omega), runTake, beq_eq_false_iff_ne.2 (by rw [← noBytes]; assumption)]; rfl) ?_
      exact KF.m [] [.bool (msgEq q (⟨m.kind, 0, 0, 0, 0, 0, false, 0, 0, (⟨#[]⟩ : ByteArray), ⟨0, 0, 0, 0, (⟨#[]⟩ : ByteArray)⟩, []⟩ : Msg))]
set_option maxRecDepth 100000 in
set_option maxHeartbeats 4000000 in
theorem impl_stepper_mayHear_spec  (s : Stepper) (m : Msg) (kind : Int) (hz : SmallR s.was) (hm : m.entries.length ≤ 1048576) : FnSpec Tryz.prog 85 [.ptr 0 0 0, .agg [.int .i64 m.kind, .int .i64 m.from_, .int .i64 m.term, .int .i64 m.at_, .int .i64 m.atTerm, .int .i64 m.commit, .bool m.yes, .int .i64 m.release, .int .i64 m.part, .str m.bytes, .int .i64 m.cmd.kind, .int .i64 m.cmd.release, .int .i64 m.cmd.node, .int .i64 m.cmd.size, .str m.cmd.digest, .sl false 6 (m.entries.map encEnt)], .int .i64 kind] [.box 102 [.int .i64 s.r.id, .int .i64 s.r.of_, .int .i64 s.r.role, .int .i64 s.r.commit, .int .i64 s.r.hard.term, .int .i64 s.r.hard.vote, .ref 1, .ref 2, .ref 3, .ref 4, .int .i64 s.was.id, .int .i64 s.was.of_, .int .i64 s.was.role, .int .i64 s.was.commit, .int .i64 s.was.hard.term, .int .i64 s.was.hard.vote, .sl false 6 (s.was.hard.log.map encEnt), .sl false 1 (s.was.yes.map encI), .sl false 1 (s.was.next.map encI), .sl false 1 (s.was.match_.map encI), .ref 5, .ref 6], .arr 45 6 (s.r.hard.log.map encEnt), .arr 3 1 (s.r.yes.map encI), .arr 3 1 (s.r.next.map encI), .arr 3 1 (s.r.match_.map encI), .arr 47 10 (s.recs.map encRec), .arr 51 17 (s.outs.map encOut)] (.bool (hears s.was m kind)) [.box 102 [.int .i64 s.r.id, .int .i64 s.r.of_, .int .i64 s.r.role, .int .i64 s.r.commit, .int .i64 s.r.hard.term, .int .i64 s.r.hard.vote, .ref 1, .ref 2, .ref 3, .ref 4, .int .i64 s.was.id, .int .i64 s.was.of_, .int .i64 s.was.role, .int .i64 s.was.commit, .int .i64 s.was.hard.term, .int .i64 s.was.hard.vote, .sl false 6 (s.was.hard.log.map encEnt), .sl false 1 (s.was.yes.map encI), .sl false 1 (s.was.next.map encI), .sl false 1 (s.was.match_.map encI), .ref 5, .ref 6], .arr 45 6 (s.r.hard.log.map encEnt), .arr 3 1 (s.r.yes.map encI), .arr 3 1 (s.r.next.map encI), .arr 3 1 (s.r.match_.map encI), .arr 47 10 (s.recs.map encRec), .arr 51 17 (s.outs.map encOut)] := by
  refine FnSpec.of 42 Tryz.func85 rfl Tryz.ntmps85 (by simp) (AW.weakK ?_)
  refine AW.r ?_
  refine At.a 2 ?_
  refine At.done rfl ?_
  refine AW.seq ?_
  refine AW.regionD Tryz_mix (At.start ?_)
  refine At.a 4 ?_
  refine At.c (impl_RaftOk_spec  s.was hz) Tryz.call19 true [] [] [] trivial ?_
  refine At.a 1 ?_
  by_cases h1 : (raftOk s.was) = true
  · refine At.sB 12 (raftOk s.was) true (sayB h1) ?_
    have h1n := raftOk1_nums (raftOk_1 h1)
    refine At.a 1 ?_
    refine At.c (impl_MsgFits_spec  m hm) Tryz.call22 true [] [] [] trivial ?_
    refine At.a 2 ?_
    by_cases h2 : (msgFits m) = true
    · refine At.sB 16 (msgFits m) true (sayB h2) ?_
      refine At.a 6 ?_
      by_cases h3 : m.kind = kind
      · refine At.sB 22 (m.kind == kind) true (sayET h3) ?_
        refine At.a 10 ?_
        by_cases h4 : m.from_ < s.was.of_
        · refine At.sB 32 (decide (m.from_ < s.was.of_)) true (sayT h4) ?_
          refine At.a 10 ?_
          refine At.done rfl ⟨by kernel_rfl, ?_⟩
          refine AW.ret ?_
          refine ⟨_, Sub.refl _ _, ?_⟩
          refine KF.conv (fun w => .bool w) (fun w => [.box 102 [.int .i64 s.r.id, .int .i64 s.r.of_, .int .i64 s.r.role, .int .i64 s.r.commit, .int .i64 s.r.hard.term, .int .i64 s.r.hard.vote, .ref 1, .ref 2, .ref 3, .ref 4, .int .i64 s.was.id, .int .i64 s.was.of_, .int .i64 s.was.role, .int .i64 s.was.commit, .int .i64 s.was.hard.term, .int .i64 s.was.hard.vote, .sl false 6 (s.was.hard.log.map encEnt), .sl false 1 (s.was.yes.map encI), .sl false 1 (s.was.next.map encI), .sl false 1 (s.was.match_.map encI), .ref 5, .ref 6], .arr 45 6 (s.r.hard.log.map encEnt), .arr 3 1 (s.r.yes.map encI), .arr 3 1 (s.r.next.map encI), .arr 3 1 (s.r.match_.map encI), .arr 47 10 (s.recs.map encRec), .arr 51 17 (s.outs.map encOut)]) (show (m.from_ != s.was.id) = (hears s.was m kind) from by grind [hears]) ?_
          exact KF.m [(0, 0), (1, 1), (2, 2), (3, 3), (4, 4), (5, 5), (6, 6)] [.bool (m.from_ != s.was.id)]
        · refine At.sB 32 (decide (m.from_ < s.was.of_)) false (sayF h4) ?_
          refine At.a 10 ?_
          refine At.done rfl ⟨by kernel_rfl, ?_⟩
          refine AW.ret ?_
          refine ⟨_, Sub.refl _ _, ?_⟩
          refine KF.conv (fun w => .bool w) (fun w => [.box 102 [.int .i64 s.r.id, .int .i64 s.r.of_, .int .i64 s.r.role, .int .i64 s.r.commit, .int .i64 s.r.hard.term, .int .i64 s.r.hard.vote, .ref 1, .ref 2, .ref 3, .ref 4, .int .i64 s.was.id, .int .i64 s.was.of_, .int .i64 s.was.role, .int .i64 s.was.commit, .int .i64 s.was.hard.term, .int .i64 s.was.hard.vote, .sl false 6 (s.was.hard.log.map encEnt), .sl false 1 (s.was.yes.map encI), .sl false 1 (s.was.next.map encI), .sl false 1 (s.was.match_.map encI), .ref 5, .ref 6], .arr 45 6 (s.r.hard.log.map encEnt), .arr 3 1 (s.r.yes.map encI), .arr 3 1 (s.r.next.map encI), .arr 3 1 (s.r.match_.map encI), .arr 47 10 (s.recs.map encRec), .arr 51 17 (s.outs.map encOut)]) (show (false) = (hears s.was m kind) from by grind [hears]) ?_
          exact KF.m [(0, 0), (1, 1), (2, 2), (3, 3), (4, 4), (5, 5), (6, 6)] [.bool false]
      · refine At.sB 22 (m.kind == kind) false (sayEF h3) ?_
        refine At.a 20 ?_
        refine At.done rfl ⟨by kernel_rfl, ?_⟩
        refine AW.ret ?_
        refine ⟨_, Sub.refl _ _, ?_⟩
        refine KF.conv (fun w => .bool w) (fun w => [.box 102 [.int .i64 s.r.id, .int .i64 s.r.of_, .int .i64 s.r.role, .int .i64 s.r.commit, .int .i64 s.r.hard.term, .int .i64 s.r.hard.vote, .ref 1, .ref 2, .ref 3, .ref 4, .int .i64 s.was.id, .int .i64 s.was.of_, .int .i64 s.was.role, .int .i64 s.was.commit, .int .i64 s.was.hard.term, .int .i64 s.was.hard.vote, .sl false 6 (s.was.hard.log.map encEnt), .sl false 1 (s.was.yes.map encI), .sl false 1 (s.was.next.map encI), .sl false 1 (s.was.match_.map encI), .ref 5, .ref 6], .arr 45 6 (s.r.hard.log.map encEnt), .arr 3 1 (s.r.yes.map encI), .arr 3 1 (s.r.next.map encI), .arr 3 1 (s.r.match_.map encI), .arr 47 10 (s.recs.map encRec), .arr 51 17 (s.outs.map encOut)]) (show (false) = (hears s.was m kind) from by grind [hears]) ?_
        exact KF.m [(0, 0), (1, 1), (2, 2), (3, 3), (4, 4), (5, 5), (6, 6)] [.bool false]
    · refine At.sB 16 (msgFits m) false (sayB (Bool.eq_false_iff.2 h2)) ?_
      replace h2 := Bool.eq_false_iff.2 h2
      refine At.a 26 ?_
      refine At.done rfl ⟨by kernel_rfl, ?_⟩
      refine AW.ret ?_
      refine ⟨_, Sub.refl _ _, ?_⟩
      refine KF.conv (fun w => .bool w) (fun w => [.box 102 [.int .i64 s.r.id, .int .i64 s.r.of_, .int .i64 s.r.role, .int .i64 s.r.commit, .int .i64 s.r.hard.term, .int .i64 s.r.hard.vote, .ref 1, .ref 2, .ref 3, .ref 4, .int .i64 s.was.id, .int .i64 s.was.of_, .int .i64 s.was.role, .int .i64 s.was.commit, .int .i64 s.was.hard.term, .int .i64 s.was.hard.vote, .sl false 6 (s.was.hard.log.map encEnt), .sl false 1 (s.was.yes.map encI), .sl false 1 (s.was.next.map encI), .sl false 1 (s.was.match_.map encI), .ref 5, .ref 6], .arr 45 6 (s.r.hard.log.map encEnt), .arr 3 1 (s.r.yes.map encI), .arr 3 1 (s.r.next.map encI), .arr 3 1 (s.r.match_.map encI), .arr 47 10 (s.recs.map encRec), .arr 51 17 (s.outs.map encOut)]) (show (false) = (hears s.was m kind) from by grind [hears]) ?_
      exact KF.m [(0, 0), (1, 1), (2, 2), (3, 3), (4, 4), (5, 5), (6, 6)] [.bool false]
  · refine At.sB 12 (raftOk s.was) false (sayB (Bool.eq_false_iff.2 h1)) ?_
    replace h1 := Bool.eq_false_iff.2 h1
    refine At.a 30 ?_
    refine At.done rfl ⟨by kernel_rfl, ?_⟩
    refine AW.ret ?_
    refine ⟨_, Sub.refl _ _, ?_⟩
    refine KF.conv (fun w => .bool w) (fun w => [.box 102 [.int .i64 s.r.id, .int .i64 s.r.of_, .int .i64 s.r.role, .int .i64 s.r.commit, .int .i64 s.r.hard.term, .int .i64 s.r.hard.vote, .ref 1, .ref 2, .ref 3, .ref 4, .int .i64 s.was.id, .int .i64 s.was.of_, .int .i64 s.was.role, .int .i64 s.was.commit, .int .i64 s.was.hard.term, .int .i64 s.was.hard.vote, .sl false 6 (s.was.hard.log.map encEnt), .sl false 1 (s.was.yes.map encI), .sl false 1 (s.was.next.map encI), .sl false 1 (s.was.match_.map encI), .ref 5, .ref 6], .arr 45 6 (s.r.hard.log.map encEnt), .arr 3 1 (s.r.yes.map encI), .arr 3 1 (s.r.next.map encI), .arr 3 1 (s.r.match_.map encI), .arr 47 10 (s.recs.map encRec), .arr 51 17 (s.outs.map encOut)]) (show (false) = (hears s.was m kind) from by grind [hears]) ?_
    exact KF.m [(0, 0), (1, 1), (2, 2), (3, 3), (4, 4), (5, 5), (6, 6)] [.bool false]
end Go.Proofs.YtlmadhahghiedaaGreat
