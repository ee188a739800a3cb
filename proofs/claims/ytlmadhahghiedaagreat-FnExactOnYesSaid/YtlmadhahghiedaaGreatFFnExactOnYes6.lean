/- The contracts of the functions that FnExactOnYes reaches (each: what it answers, said over values), printed by a program of this session (wip/sy/g/gen.py). -/
import Derived.Test.YtlmadhahghiedaaGreatFFnExactOnYes5
set_option linter.unusedVariables false
set_option linter.unusedSimpArgs false
namespace Go.Proofs.YtlmadhahghiedaaGreat
open Go Go.Sy Go.Proofs
set_option maxRecDepth 100000 in
set_option maxHeartbeats 4000000 in
theorem laws_markEntryS_spec  (a : List Ent) (k : Int) (hk : 0 ≤ k) (ha : a.length ≤ 1048576) (he : ends nxE a k ≤ 4611686018427387904) : FnSpec Tryz.prog 132 [.ref 0, .int .i64 k] [.arr 45 6 (a.map encEnt)] (.int .i64 (ends nxE a k)) [.arr 45 6 ((marks markE nxE a k).map encEnt)] := by
  refine FnSpec.of 61 Tryz.func132 rfl Tryz.ntmps132 (by simp) (AW.weakK ?_)
  refine AW.r ?_
  refine At.a 1 ?_
  refine At.done rfl ?_
  refine AW.seq ?_
  refine AW.r ?_
  refine At.a 1 ?_
  refine At.done rfl ?_
  refine AW.block ?_
  refine AW.loopW (fun (x : Nat × Int × List Ent) => match x with | (i, kk, o) => Go.Sy.mk [.ref 0, .int .i64 kk, .un, .un, .un, .int .i64 (i : Int)] [(0, .arr 45 6 (o.map encEnt))]) (fun (x : Nat × Int × List Ent) => match x with | (i, kk, o) => 0 ≤ kk ∧ MInv markE nxE a k i kk o) (fun (x : Nat × Int × List Ent) => match x with | (i, kk, o) => a.length - i) (0, k, a) ⟨hk, MInv.start⟩ (Sub.o [(0, 0)] [true, true, false, false, false, true]) ?_
  rintro ⟨i, kk, o⟩ ⟨hkk, hR⟩
  have hle := hR.ge nxE_ge
  have hlo := hR.2.1
  refine AW.seq ?_
  refine AW.r ?_
  refine At.a 3 ?_
  refine At.sL 8 encEnt o ?_
  refine At.a 1 ?_
  refine At.done rfl ?_
  refine AW.cD ((i : Int) < (o.length : Int)) (fun h1 => ?_) (fun h1 => ?_)
  · skip
    refine AW.skip ?_
    refine AW.seq ?_
    refine AW.block ?_
    refine AW.r ?_
    refine At.a 3 ?_
    refine At.iRf 24 15 (.tmp 12) (.tmp 13) 0 (o.map encEnt) .i64 (i : Int) 45 6 (by omega) (by simp only [List.length_map, List.length_append, List.length_take, List.length_drop, List.length_replicate, List.length_set, List.length_cons, List.length_nil]; omega) ?_
    refine At.a 1 ?_
    refine Exists.elim (show ∃ e, o[i]? = some e from ⟨_, List.getElem?_eq_getElem (by omega)⟩) fun e1 he1 => ?_
    have hlt := hR.le nxE_ge he1
    rw [nxE] at hlt
    refine At.sEl 3 0 45 6 i 0 (.tmp 16) (.tmp 14) (o.map encEnt) ((o.set i (⟨kk, e1.cmd⟩ : Ent)).map encEnt) [.int .i64 kk] (.int .i64 kk) (encEnt e1) (encEnt (⟨kk, e1.cmd⟩ : Ent)) (mapGet he1) setV ?_
    refine At.done rfl ?_
    refine AW.r ?_
    refine At.a 2 ?_
    refine At.sI 18 (kk + 1) (by omega) ?_
    refine At.a 1 ?_
    refine At.done rfl ?_
    refine AW.r ?_
    refine At.a 3 ?_
    refine At.iRf 24 22 (.tmp 19) (.tmp 20) 0 ((o.set i (⟨kk, e1.cmd⟩ : Ent)).map encEnt) .i64 (i : Int) 45 6 (by omega) (by simp only [List.length_map, List.length_append, List.length_take, List.length_drop, List.length_replicate, List.length_set, List.length_cons, List.length_nil]; omega) ?_
    refine At.a 2 ?_
    refine At.sEl 3 0 45 6 i 1 (.tmp 24) (.tmp 21) ((o.set i (⟨kk, e1.cmd⟩ : Ent)).map encEnt) ((o.set i (⟨kk, ⟨kk + 1, e1.cmd.release, e1.cmd.node, e1.cmd.size, e1.cmd.digest⟩⟩ : Ent)).map encEnt) [.int .i64 (kk + 1)] (.int .i64 (kk + 1)) (encEnt (⟨kk, e1.cmd⟩ : Ent)) (encEnt (⟨kk, ⟨kk + 1, e1.cmd.release, e1.cmd.node, e1.cmd.size, e1.cmd.digest⟩⟩ : Ent)) (mapGet (setGet he1)) setSetV ?_
    refine At.done rfl ?_
    refine AW.r ?_
    refine At.a 2 ?_
    refine At.sJ 26 ((kk + 1) + 1) (kk + 2) (by omega) (by omega) ?_
    refine At.a 1 ?_
    refine At.done rfl ?_
    refine AW.r ?_
    refine At.a 3 ?_
    refine At.iRf 24 30 (.tmp 27) (.tmp 28) 0 ((o.set i (⟨kk, ⟨kk + 1, e1.cmd.release, e1.cmd.node, e1.cmd.size, e1.cmd.digest⟩⟩ : Ent)).map encEnt) .i64 (i : Int) 45 6 (by omega) (by simp only [List.length_map, List.length_append, List.length_take, List.length_drop, List.length_replicate, List.length_set, List.length_cons, List.length_nil]; omega) ?_
    refine At.a 2 ?_
    refine At.sEl 3 0 45 6 i 2 (.tmp 32) (.tmp 29) ((o.set i (⟨kk, ⟨kk + 1, e1.cmd.release, e1.cmd.node, e1.cmd.size, e1.cmd.digest⟩⟩ : Ent)).map encEnt) ((o.set i (⟨kk, ⟨kk + 1, kk + 2, e1.cmd.node, e1.cmd.size, e1.cmd.digest⟩⟩ : Ent)).map encEnt) [.int .i64 (kk + 2)] (.int .i64 (kk + 2)) (encEnt (⟨kk, ⟨kk + 1, e1.cmd.release, e1.cmd.node, e1.cmd.size, e1.cmd.digest⟩⟩ : Ent)) (encEnt (⟨kk, ⟨kk + 1, kk + 2, e1.cmd.node, e1.cmd.size, e1.cmd.digest⟩⟩ : Ent)) (mapGet (setGet he1)) setSetV ?_
    refine At.done rfl ?_
    refine AW.r ?_
    refine At.a 2 ?_
    refine At.sJ 34 ((kk + 2) + 1) (kk + 3) (by omega) (by omega) ?_
    refine At.a 1 ?_
    refine At.done rfl ?_
    refine AW.r ?_
    refine At.a 3 ?_
    refine At.iRf 24 38 (.tmp 35) (.tmp 36) 0 ((o.set i (⟨kk, ⟨kk + 1, kk + 2, e1.cmd.node, e1.cmd.size, e1.cmd.digest⟩⟩ : Ent)).map encEnt) .i64 (i : Int) 45 6 (by omega) (by simp only [List.length_map, List.length_append, List.length_take, List.length_drop, List.length_replicate, List.length_set, List.length_cons, List.length_nil]; omega) ?_
    refine At.a 2 ?_
    refine At.sEl 3 0 45 6 i 3 (.tmp 40) (.tmp 37) ((o.set i (⟨kk, ⟨kk + 1, kk + 2, e1.cmd.node, e1.cmd.size, e1.cmd.digest⟩⟩ : Ent)).map encEnt) ((o.set i (⟨kk, ⟨kk + 1, kk + 2, kk + 3, e1.cmd.size, e1.cmd.digest⟩⟩ : Ent)).map encEnt) [.int .i64 (kk + 3)] (.int .i64 (kk + 3)) (encEnt (⟨kk, ⟨kk + 1, kk + 2, e1.cmd.node, e1.cmd.size, e1.cmd.digest⟩⟩ : Ent)) (encEnt (⟨kk, ⟨kk + 1, kk + 2, kk + 3, e1.cmd.size, e1.cmd.digest⟩⟩ : Ent)) (mapGet (setGet he1)) setSetV ?_
    refine At.done rfl ?_
    refine AW.r ?_
    refine At.a 2 ?_
    refine At.sJ 42 ((kk + 3) + 1) (kk + 4) (by omega) (by omega) ?_
    refine At.a 1 ?_
    refine At.done rfl ?_
    refine AW.r ?_
    refine At.a 3 ?_
    refine At.iRf 24 46 (.tmp 43) (.tmp 44) 0 ((o.set i (⟨kk, ⟨kk + 1, kk + 2, kk + 3, e1.cmd.size, e1.cmd.digest⟩⟩ : Ent)).map encEnt) .i64 (i : Int) 45 6 (by omega) (by simp only [List.length_map, List.length_append, List.length_take, List.length_drop, List.length_replicate, List.length_set, List.length_cons, List.length_nil]; omega) ?_
    refine At.a 2 ?_
    refine At.sEl 3 0 45 6 i 4 (.tmp 48) (.tmp 45) ((o.set i (⟨kk, ⟨kk + 1, kk + 2, kk + 3, e1.cmd.size, e1.cmd.digest⟩⟩ : Ent)).map encEnt) ((o.set i (⟨kk, ⟨kk + 1, kk + 2, kk + 3, kk + 4, e1.cmd.digest⟩⟩ : Ent)).map encEnt) [.int .i64 (kk + 4)] (.int .i64 (kk + 4)) (encEnt (⟨kk, ⟨kk + 1, kk + 2, kk + 3, e1.cmd.size, e1.cmd.digest⟩⟩ : Ent)) (encEnt (⟨kk, ⟨kk + 1, kk + 2, kk + 3, kk + 4, e1.cmd.digest⟩⟩ : Ent)) (mapGet (setGet he1)) setSetV ?_
    refine At.done rfl ?_
    refine AW.r ?_
    refine At.a 2 ?_
    refine At.sJ 50 ((kk + 4) + 1) (kk + 5) (by omega) (by omega) ?_
    refine At.a 1 ?_
    refine At.done rfl ?_
    refine AW.r ?_
    refine At.a 3 ?_
    refine At.c (laws_markText_spec  (kk + 5) (by omega)) Tryz.call133 true [] [] [] trivial ?_
    refine At.iRf 24 55 (.tmp 51) (.tmp 52) 0 ((o.set i (⟨kk, ⟨kk + 1, kk + 2, kk + 3, kk + 4, e1.cmd.digest⟩⟩ : Ent)).map encEnt) .i64 (i : Int) 45 6 (by omega) (by simp only [List.length_map, List.length_append, List.length_take, List.length_drop, List.length_replicate, List.length_set, List.length_cons, List.length_nil]; omega) ?_
    refine At.a 2 ?_
    refine At.sEl 9 0 45 6 i 5 (.tmp 57) (.tmp 54) ((o.set i (⟨kk, ⟨kk + 1, kk + 2, kk + 3, kk + 4, e1.cmd.digest⟩⟩ : Ent)).map encEnt) ((o.set i (⟨kk, ⟨kk + 1, kk + 2, kk + 3, kk + 4, markT (kk + 5)⟩⟩ : Ent)).map encEnt) [.str (markT (kk + 5))] (.str (markT (kk + 5))) (encEnt (⟨kk, ⟨kk + 1, kk + 2, kk + 3, kk + 4, e1.cmd.digest⟩⟩ : Ent)) (encEnt (⟨kk, ⟨kk + 1, kk + 2, kk + 3, kk + 4, markT (kk + 5)⟩⟩ : Ent)) (mapGet (setGet he1)) setSetV ?_
    refine At.done rfl ?_
    refine AW.region (At.start ?_)
    refine At.a 2 ?_
    refine At.sJ 59 ((kk + 5) + 1) (kk + 6) (by omega) (by omega) ?_
    refine At.a 1 ?_
    refine At.done rfl ?_
    refine AW.region (At.start ?_)
    refine At.a 2 ?_
    refine At.sI 11 ((i : Int) + 1) (by omega) ?_
    refine At.a 1 ?_
    refine At.done rfl ?_
    exact ⟨(i + 1, (kk + 6), (o.set i (⟨kk, ⟨kk + 1, kk + 2, kk + 3, kk + 4, markT (kk + 5)⟩⟩ : Ent))), ⟨by omega, hR.step he1 rfl rfl⟩, (by simp only; omega), Sub.o [(0, 0)] [true, true, false, false, false, true]⟩
  · skip
    refine AW.exit ?_
    refine AW.r ?_
    refine At.a 2 ?_
    refine At.done rfl ?_
    refine AW.ret ?_
    refine ⟨_, Sub.refl _ _, ?_⟩
    refine KF.conv (fun w => .int .i64 w) (fun w => [.arr 45 6 ((marks markE nxE a k).map encEnt)]) (show (kk) = (ends nxE a k) from (hR.done (by omega)).2) ?_
    refine KF.conv (fun w => .int .i64 kk) (fun w => [.arr 45 6 (w.map encEnt)]) (show (o) = (marks markE nxE a k) from (hR.done (by omega)).1) ?_
    exact KF.m [(0, 0)] [.int .i64 kk]
set_option maxRecDepth 100000 in
set_option maxHeartbeats 4000000 in
theorem laws_markHard_spec  (a : Hard) (k : Int) (hk : 0 ≤ k) (ha : a.log.length ≤ 1048576) (he : ends nxE a.log k ≤ 4611686018427387904) : FnSpec Tryz.prog 130 [.agg [.int .i64 a.term, .int .i64 a.vote, .ref 0], .int .i64 k] [.arr 45 6 (a.log.map encEnt)] (.int .i64 (ends nxE a.log k)) [.arr 45 6 ((marks markE nxE a.log k).map encEnt)] := by
  refine FnSpec.of 10 Tryz.func130 rfl Tryz.ntmps130 (by simp) (AW.weakK ?_)
  refine AW.r ?_
  refine At.a 2 ?_
  refine At.done rfl ?_
  refine AW.r ?_
  refine At.a 3 ?_
  refine At.c (laws_markEntryS_spec  a.log k (by omega) (by omega) (by omega)) Tryz.call132 true [(0, 0)] [] [] trivial ?_
  refine At.a 1 ?_
  refine At.done rfl ?_
  refine AW.r ?_
  refine At.a 2 ?_
  refine At.done rfl ?_
  refine AW.ret ?_
  refine ⟨_, Sub.refl _ _, ?_⟩
  exact KF.m [(0, 0)] [.int .i64 (ends nxE a.log k)]
set_option maxRecDepth 100000 in
set_option maxHeartbeats 4000000 in
theorem laws_markIntS_spec  (a : List Int) (k : Int) (hk : 0 ≤ k) (ha : a.length ≤ 1048576) (he : ends nxI a k ≤ 4611686018427387904) : FnSpec Tryz.prog 131 [.ref 0, .int .i64 k] [.arr 3 1 (a.map encI)] (.int .i64 (ends nxI a k)) [.arr 3 1 ((marks markI nxI a k).map encI)] := by
  refine FnSpec.of 19 Tryz.func131 rfl Tryz.ntmps131 (by simp) (AW.weakK ?_)
  refine AW.r ?_
  refine At.a 1 ?_
  refine At.done rfl ?_
  refine AW.seq ?_
  refine AW.r ?_
  refine At.a 1 ?_
  refine At.done rfl ?_
  refine AW.block ?_
  refine AW.loopW (fun (x : Nat × Int × List Int) => match x with | (i, kk, o) => Go.Sy.mk [.ref 0, .int .i64 kk, .un, .un, .un, .int .i64 (i : Int)] [(0, .arr 3 1 (o.map encI))]) (fun (x : Nat × Int × List Int) => match x with | (i, kk, o) => 0 ≤ kk ∧ MInv markI nxI a k i kk o) (fun (x : Nat × Int × List Int) => match x with | (i, kk, o) => a.length - i) (0, k, a) ⟨hk, MInv.start⟩ (Sub.o [(0, 0)] [true, true, false, false, false, true]) ?_
  rintro ⟨i, kk, o⟩ ⟨hkk, hR⟩
  have hle := hR.ge nxI_ge
  have hlo := hR.2.1
  refine AW.seq ?_
  refine AW.r ?_
  refine At.a 3 ?_
  refine At.sL 8 encI o ?_
  refine At.a 1 ?_
  refine At.done rfl ?_
  refine AW.cD ((i : Int) < (o.length : Int)) (fun h1 => ?_) (fun h1 => ?_)
  · skip
    refine AW.skip ?_
    refine AW.seq ?_
    refine AW.block ?_
    refine AW.r ?_
    refine At.a 3 ?_
    refine At.iRf 27 15 (.tmp 12) (.tmp 13) 0 (o.map encI) .i64 (i : Int) 3 1 (by omega) (by simp only [List.length_map, List.length_append, List.length_take, List.length_drop, List.length_replicate, List.length_set, List.length_cons, List.length_nil]; omega) ?_
    refine Exists.elim (show ∃ e, o[i]? = some e from ⟨_, List.getElem?_eq_getElem (by omega)⟩) fun e1 he1 => ?_
    have hlt := hR.le nxI_ge he1
    rw [nxI] at hlt
    refine At.sEl 3 0 3 1 i 0 (.tmp 15) (.tmp 14) (o.map encI) ((o.set i kk).map encI) [.int .i64 kk] (.int .i64 kk) (encI e1) (encI kk) (mapGet he1) setV ?_
    refine At.done rfl ?_
    refine AW.region (At.start ?_)
    refine At.a 2 ?_
    refine At.sI 17 (kk + 1) (by omega) ?_
    refine At.a 1 ?_
    refine At.done rfl ?_
    refine AW.region (At.start ?_)
    refine At.a 2 ?_
    refine At.sI 11 ((i : Int) + 1) (by omega) ?_
    refine At.a 1 ?_
    refine At.done rfl ?_
    exact ⟨(i + 1, (kk + 1), (o.set i kk)), ⟨by omega, hR.step he1 rfl rfl⟩, (by simp only; omega), Sub.o [(0, 0)] [true, true, false, false, false, true]⟩
  · skip
    refine AW.exit ?_
    refine AW.r ?_
    refine At.a 2 ?_
    refine At.done rfl ?_
    refine AW.ret ?_
    refine ⟨_, Sub.refl _ _, ?_⟩
    refine KF.conv (fun w => .int .i64 w) (fun w => [.arr 3 1 ((marks markI nxI a k).map encI)]) (show (kk) = (ends nxI a k) from (hR.done (by omega)).2) ?_
    refine KF.conv (fun w => .int .i64 kk) (fun w => [.arr 3 1 (w.map encI)]) (show (o) = (marks markI nxI a k) from (hR.done (by omega)).1) ?_
    exact KF.m [(0, 0)] [.int .i64 kk]
set_option maxRecDepth 100000 in
set_option maxHeartbeats 4000000 in
theorem laws_markRaft_spec  (a : Raft) (k : Int) (hz : SmallR a) (hk : 0 ≤ k ∧ k ≤ 4611686017427387904) : FnSpec Tryz.prog 46 [.agg [.int .i64 a.id, .int .i64 a.of_, .int .i64 a.role, .int .i64 a.commit, .int .i64 a.hard.term, .int .i64 a.hard.vote, .ref 0, .ref 1, .ref 2, .ref 3], .int .i64 k] [.arr 45 6 (a.hard.log.map encEnt), .arr 3 1 (a.yes.map encI), .arr 3 1 (a.next.map encI), .arr 3 1 (a.match_.map encI)] (.int .i64 (raftEnd a k)) [.arr 45 6 (((raftMark a k).hard.log).map encEnt), .arr 3 1 (((raftMark a k).yes).map encI), .arr 3 1 (((raftMark a k).next).map encI), .arr 3 1 (((raftMark a k).match_).map encI)] := by
  obtain ⟨z1, z2, z3, z4⟩ := id hz
  have q1 := endsE_eq a.hard.log k
  have q2 := endsI_eq a.yes (ends nxE a.hard.log k)
  have q3 := endsI_eq a.next (ends nxI a.yes (ends nxE a.hard.log k))
  have q4 := endsI_eq a.match_ (ends nxI a.next (ends nxI a.yes (ends nxE a.hard.log k)))
  refine FnSpec.of 22 Tryz.func46 rfl Tryz.ntmps46 (by simp) (AW.weakK ?_)
  refine AW.r ?_
  refine At.a 2 ?_
  refine At.done rfl ?_
  refine AW.r ?_
  refine At.a 3 ?_
  refine At.c (laws_markHard_spec  a.hard k (by omega) (by omega) (by omega)) Tryz.call130 true [(0, 0)] [] [] trivial ?_
  refine At.a 1 ?_
  refine At.done rfl ?_
  refine AW.r ?_
  refine At.a 3 ?_
  refine At.c (laws_markIntS_spec  a.yes (ends nxE a.hard.log k) (by omega) (by omega) (by omega)) Tryz.call131 true [(1, 0)] [] [] trivial ?_
  refine At.a 1 ?_
  refine At.done rfl ?_
  refine AW.r ?_
  refine At.a 3 ?_
  refine At.c (laws_markIntS_spec  a.next (ends nxI a.yes (ends nxE a.hard.log k)) (by omega) (by omega) (by omega)) Tryz.call131 true [(2, 0)] [] [] trivial ?_
  refine At.a 1 ?_
  refine At.done rfl ?_
  refine AW.r ?_
  refine At.a 3 ?_
  refine At.c (laws_markIntS_spec  a.match_ (ends nxI a.next (ends nxI a.yes (ends nxE a.hard.log k))) (by omega) (by omega) (by omega)) Tryz.call131 true [(3, 0)] [] [] trivial ?_
  refine At.a 1 ?_
  refine At.done rfl ?_
  refine AW.r ?_
  refine At.a 2 ?_
  refine At.done rfl ?_
  refine AW.ret ?_
  refine ⟨_, Sub.refl _ _, ?_⟩
  refine KF.conv (fun w => .int .i64 w) (fun w => [.arr 45 6 (((raftMark a k).hard.log).map encEnt), .arr 3 1 (((raftMark a k).yes).map encI), .arr 3 1 (((raftMark a k).next).map encI), .arr 3 1 (((raftMark a k).match_).map encI)]) (show (ends nxI a.match_ (ends nxI a.next (ends nxI a.yes (ends nxE a.hard.log k)))) = (raftEnd a k) from by rfl) ?_
  exact KF.m [(0, 0), (1, 1), (2, 2), (3, 3)] [.int .i64 (ends nxI a.match_ (ends nxI a.next (ends nxI a.yes (ends nxE a.hard.log k))))]
set_option maxRecDepth 100000 in
set_option maxHeartbeats 4000000 in
theorem laws_markMsg_spec  (a : Msg) (k : Int) (hk : 0 ≤ k) (ha : a.entries.length ≤ 1048576) (he : ends nxE a.entries k ≤ 4611686018427387904) : FnSpec Tryz.prog 47 [.agg [.int .i64 a.kind, .int .i64 a.from_, .int .i64 a.term, .int .i64 a.at_, .int .i64 a.atTerm, .int .i64 a.commit, .bool a.yes, .int .i64 a.release, .int .i64 a.part, .str a.bytes, .int .i64 a.cmd.kind, .int .i64 a.cmd.release, .int .i64 a.cmd.node, .int .i64 a.cmd.size, .str a.cmd.digest, .ref 0], .int .i64 k] [.arr 45 6 (a.entries.map encEnt)] (.int .i64 (ends nxE a.entries k)) [.arr 45 6 ((marks markE nxE a.entries k).map encEnt)] := by
  refine FnSpec.of 10 Tryz.func47 rfl Tryz.ntmps47 (by simp) (AW.weakK ?_)
  refine AW.r ?_
  refine At.a 2 ?_
  refine At.done rfl ?_
  refine AW.r ?_
  refine At.a 3 ?_
  refine At.c (laws_markEntryS_spec  a.entries k (by omega) (by omega) (by omega)) Tryz.call132 true [(0, 0)] [] [] trivial ?_
  refine At.a 1 ?_
  refine At.done rfl ?_
  refine AW.r ?_
  refine At.a 2 ?_
  refine At.done rfl ?_
  refine AW.ret ?_
  refine ⟨_, Sub.refl _ _, ?_⟩
  exact KF.m [(0, 0)] [.int .i64 (ends nxE a.entries k)]
set_option maxRecDepth 100000 in
set_option maxHeartbeats 4000000 in
theorem laws_markRecS_spec  (a : List Rec) (k : Int) (hk : 0 ≤ k) (ha : a.length ≤ 1048576) (he : ends nxR a k ≤ 4611686018427387904) : FnSpec Tryz.prog 48 [.ref 0, .int .i64 k] [.arr 47 10 (a.map encRec)] (.int .i64 (ends nxR a k)) [.arr 47 10 ((marks markR nxR a k).map encRec)] := by
  refine FnSpec.of 95 Tryz.func48 rfl Tryz.ntmps48 (by simp) (AW.weakK ?_)
  refine AW.r ?_
  refine At.a 1 ?_
  refine At.done rfl ?_
  refine AW.seq ?_
  refine AW.r ?_
  refine At.a 1 ?_
  refine At.done rfl ?_
  refine AW.block ?_
  refine AW.loopW (fun (x : Nat × Int × List Rec) => match x with | (i, kk, o) => Go.Sy.mk [.ref 0, .int .i64 kk, .un, .un, .un, .int .i64 (i : Int)] [(0, .arr 47 10 (o.map encRec))]) (fun (x : Nat × Int × List Rec) => match x with | (i, kk, o) => 0 ≤ kk ∧ MInv markR nxR a k i kk o) (fun (x : Nat × Int × List Rec) => match x with | (i, kk, o) => a.length - i) (0, k, a) ⟨hk, MInv.start⟩ (Sub.o [(0, 0)] [true, true, false, false, false, true]) ?_
  rintro ⟨i, kk, o⟩ ⟨hkk, hR⟩
  have hle := hR.ge nxR_ge
  have hlo := hR.2.1
  refine AW.seq ?_
  refine AW.r ?_
  refine At.a 3 ?_
  refine At.sL 8 encRec o ?_
  refine At.a 1 ?_
  refine At.done rfl ?_
  refine AW.cD ((i : Int) < (o.length : Int)) (fun h1 => ?_) (fun h1 => ?_)
  · skip
    refine AW.skip ?_
    refine AW.seq ?_
    refine AW.block ?_
    refine AW.r ?_
    refine At.a 3 ?_
    refine At.iRf 37 15 (.tmp 12) (.tmp 13) 0 (o.map encRec) .i64 (i : Int) 47 10 (by omega) (by simp only [List.length_map, List.length_append, List.length_take, List.length_drop, List.length_replicate, List.length_set, List.length_cons, List.length_nil]; omega) ?_
    refine At.a 1 ?_
    refine Exists.elim (show ∃ e, o[i]? = some e from ⟨_, List.getElem?_eq_getElem (by omega)⟩) fun e1 he1 => ?_
    have hlt := hR.le nxR_ge he1
    rw [nxR] at hlt
    refine At.sEl 3 0 47 10 i 0 (.tmp 16) (.tmp 14) (o.map encRec) ((o.set i (⟨kk, e1.term, e1.vote, e1.at_, e1.entry⟩ : Rec)).map encRec) [.int .i64 kk] (.int .i64 kk) (encRec e1) (encRec (⟨kk, e1.term, e1.vote, e1.at_, e1.entry⟩ : Rec)) (mapGet he1) setV ?_
    refine At.done rfl ?_
    refine AW.r ?_
    refine At.a 2 ?_
    refine At.sI 18 (kk + 1) (by omega) ?_
    refine At.a 1 ?_
    refine At.done rfl ?_
    refine AW.r ?_
    refine At.a 3 ?_
    refine At.iRf 37 22 (.tmp 19) (.tmp 20) 0 ((o.set i (⟨kk, e1.term, e1.vote, e1.at_, e1.entry⟩ : Rec)).map encRec) .i64 (i : Int) 47 10 (by omega) (by simp only [List.length_map, List.length_append, List.length_take, List.length_drop, List.length_replicate, List.length_set, List.length_cons, List.length_nil]; omega) ?_
    refine At.a 1 ?_
    refine At.sEl 3 0 47 10 i 1 (.tmp 23) (.tmp 21) ((o.set i (⟨kk, e1.term, e1.vote, e1.at_, e1.entry⟩ : Rec)).map encRec) ((o.set i (⟨kk, kk + 1, e1.vote, e1.at_, e1.entry⟩ : Rec)).map encRec) [.int .i64 (kk + 1)] (.int .i64 (kk + 1)) (encRec (⟨kk, e1.term, e1.vote, e1.at_, e1.entry⟩ : Rec)) (encRec (⟨kk, kk + 1, e1.vote, e1.at_, e1.entry⟩ : Rec)) (mapGet (setGet he1)) setSetV ?_
    refine At.done rfl ?_
    refine AW.r ?_
    refine At.a 2 ?_
    refine At.sJ 25 ((kk + 1) + 1) (kk + 2) (by omega) (by omega) ?_
    refine At.a 1 ?_
    refine At.done rfl ?_
    refine AW.r ?_
    refine At.a 3 ?_
    refine At.iRf 37 29 (.tmp 26) (.tmp 27) 0 ((o.set i (⟨kk, kk + 1, e1.vote, e1.at_, e1.entry⟩ : Rec)).map encRec) .i64 (i : Int) 47 10 (by omega) (by simp only [List.length_map, List.length_append, List.length_take, List.length_drop, List.length_replicate, List.length_set, List.length_cons, List.length_nil]; omega) ?_
    refine At.a 1 ?_
    refine At.sEl 3 0 47 10 i 2 (.tmp 30) (.tmp 28) ((o.set i (⟨kk, kk + 1, e1.vote, e1.at_, e1.entry⟩ : Rec)).map encRec) ((o.set i (⟨kk, kk + 1, kk + 2, e1.at_, e1.entry⟩ : Rec)).map encRec) [.int .i64 (kk + 2)] (.int .i64 (kk + 2)) (encRec (⟨kk, kk + 1, e1.vote, e1.at_, e1.entry⟩ : Rec)) (encRec (⟨kk, kk + 1, kk + 2, e1.at_, e1.entry⟩ : Rec)) (mapGet (setGet he1)) setSetV ?_
    refine At.done rfl ?_
    refine AW.r ?_
    refine At.a 2 ?_
    refine At.sJ 32 ((kk + 2) + 1) (kk + 3) (by omega) (by omega) ?_
    refine At.a 1 ?_
    refine At.done rfl ?_
    refine AW.r ?_
    refine At.a 3 ?_
    refine At.iRf 37 36 (.tmp 33) (.tmp 34) 0 ((o.set i (⟨kk, kk + 1, kk + 2, e1.at_, e1.entry⟩ : Rec)).map encRec) .i64 (i : Int) 47 10 (by omega) (by simp only [List.length_map, List.length_append, List.length_take, List.length_drop, List.length_replicate, List.length_set, List.length_cons, List.length_nil]; omega) ?_
    refine At.a 1 ?_
    refine At.sEl 3 0 47 10 i 3 (.tmp 37) (.tmp 35) ((o.set i (⟨kk, kk + 1, kk + 2, e1.at_, e1.entry⟩ : Rec)).map encRec) ((o.set i (⟨kk, kk + 1, kk + 2, kk + 3, e1.entry⟩ : Rec)).map encRec) [.int .i64 (kk + 3)] (.int .i64 (kk + 3)) (encRec (⟨kk, kk + 1, kk + 2, e1.at_, e1.entry⟩ : Rec)) (encRec (⟨kk, kk + 1, kk + 2, kk + 3, e1.entry⟩ : Rec)) (mapGet (setGet he1)) setSetV ?_
    refine At.done rfl ?_
    refine AW.r ?_
    refine At.a 2 ?_
    refine At.sJ 39 ((kk + 3) + 1) (kk + 4) (by omega) (by omega) ?_
    refine At.a 1 ?_
    refine At.done rfl ?_
    refine AW.r ?_
    refine At.a 3 ?_
    refine At.iRf 37 43 (.tmp 40) (.tmp 41) 0 ((o.set i (⟨kk, kk + 1, kk + 2, kk + 3, e1.entry⟩ : Rec)).map encRec) .i64 (i : Int) 47 10 (by omega) (by simp only [List.length_map, List.length_append, List.length_take, List.length_drop, List.length_replicate, List.length_set, List.length_cons, List.length_nil]; omega) ?_
    refine At.a 2 ?_
    refine At.sEl 3 0 47 10 i 4 (.tmp 45) (.tmp 42) ((o.set i (⟨kk, kk + 1, kk + 2, kk + 3, e1.entry⟩ : Rec)).map encRec) ((o.set i (⟨kk, kk + 1, kk + 2, kk + 3, ⟨kk + 4, ⟨e1.entry.cmd.kind, e1.entry.cmd.release, e1.entry.cmd.node, e1.entry.cmd.size, e1.entry.cmd.digest⟩⟩⟩ : Rec)).map encRec) [.int .i64 (kk + 4)] (.int .i64 (kk + 4)) (encRec (⟨kk, kk + 1, kk + 2, kk + 3, e1.entry⟩ : Rec)) (encRec (⟨kk, kk + 1, kk + 2, kk + 3, ⟨kk + 4, ⟨e1.entry.cmd.kind, e1.entry.cmd.release, e1.entry.cmd.node, e1.entry.cmd.size, e1.entry.cmd.digest⟩⟩⟩ : Rec)) (mapGet (setGet he1)) setSetV ?_
    refine At.done rfl ?_
    refine AW.r ?_
    refine At.a 2 ?_
    refine At.sJ 47 ((kk + 4) + 1) (kk + 5) (by omega) (by omega) ?_
    refine At.a 1 ?_
    refine At.done rfl ?_
    refine AW.r ?_
    refine At.a 3 ?_
    refine At.iRf 37 51 (.tmp 48) (.tmp 49) 0 ((o.set i (⟨kk, kk + 1, kk + 2, kk + 3, ⟨kk + 4, ⟨e1.entry.cmd.kind, e1.entry.cmd.release, e1.entry.cmd.node, e1.entry.cmd.size, e1.entry.cmd.digest⟩⟩⟩ : Rec)).map encRec) .i64 (i : Int) 47 10 (by omega) (by simp only [List.length_map, List.length_append, List.length_take, List.length_drop, List.length_replicate, List.length_set, List.length_cons, List.length_nil]; omega) ?_
    refine At.a 3 ?_
    refine At.sEl 3 0 47 10 i 5 (.tmp 54) (.tmp 50) ((o.set i (⟨kk, kk + 1, kk + 2, kk + 3, ⟨kk + 4, ⟨e1.entry.cmd.kind, e1.entry.cmd.release, e1.entry.cmd.node, e1.entry.cmd.size, e1.entry.cmd.digest⟩⟩⟩ : Rec)).map encRec) ((o.set i (⟨kk, kk + 1, kk + 2, kk + 3, ⟨kk + 4, ⟨kk + 5, e1.entry.cmd.release, e1.entry.cmd.node, e1.entry.cmd.size, e1.entry.cmd.digest⟩⟩⟩ : Rec)).map encRec) [.int .i64 (kk + 5)] (.int .i64 (kk + 5)) (encRec (⟨kk, kk + 1, kk + 2, kk + 3, ⟨kk + 4, ⟨e1.entry.cmd.kind, e1.entry.cmd.release, e1.entry.cmd.node, e1.entry.cmd.size, e1.entry.cmd.digest⟩⟩⟩ : Rec)) (encRec (⟨kk, kk + 1, kk + 2, kk + 3, ⟨kk + 4, ⟨kk + 5, e1.entry.cmd.release, e1.entry.cmd.node, e1.entry.cmd.size, e1.entry.cmd.digest⟩⟩⟩ : Rec)) (mapGet (setGet he1)) setSetV ?_
    refine At.done rfl ?_
    refine AW.r ?_
    refine At.a 2 ?_
    refine At.sJ 56 ((kk + 5) + 1) (kk + 6) (by omega) (by omega) ?_
    refine At.a 1 ?_
    refine At.done rfl ?_
    refine AW.r ?_
    refine At.a 3 ?_
    refine At.iRf 37 60 (.tmp 57) (.tmp 58) 0 ((o.set i (⟨kk, kk + 1, kk + 2, kk + 3, ⟨kk + 4, ⟨kk + 5, e1.entry.cmd.release, e1.entry.cmd.node, e1.entry.cmd.size, e1.entry.cmd.digest⟩⟩⟩ : Rec)).map encRec) .i64 (i : Int) 47 10 (by omega) (by simp only [List.length_map, List.length_append, List.length_take, List.length_drop, List.length_replicate, List.length_set, List.length_cons, List.length_nil]; omega) ?_
    refine At.a 3 ?_
    refine At.sEl 3 0 47 10 i 6 (.tmp 63) (.tmp 59) ((o.set i (⟨kk, kk + 1, kk + 2, kk + 3, ⟨kk + 4, ⟨kk + 5, e1.entry.cmd.release, e1.entry.cmd.node, e1.entry.cmd.size, e1.entry.cmd.digest⟩⟩⟩ : Rec)).map encRec) ((o.set i (⟨kk, kk + 1, kk + 2, kk + 3, ⟨kk + 4, ⟨kk + 5, kk + 6, e1.entry.cmd.node, e1.entry.cmd.size, e1.entry.cmd.digest⟩⟩⟩ : Rec)).map encRec) [.int .i64 (kk + 6)] (.int .i64 (kk + 6)) (encRec (⟨kk, kk + 1, kk + 2, kk + 3, ⟨kk + 4, ⟨kk + 5, e1.entry.cmd.release, e1.entry.cmd.node, e1.entry.cmd.size, e1.entry.cmd.digest⟩⟩⟩ : Rec)) (encRec (⟨kk, kk + 1, kk + 2, kk + 3, ⟨kk + 4, ⟨kk + 5, kk + 6, e1.entry.cmd.node, e1.entry.cmd.size, e1.entry.cmd.digest⟩⟩⟩ : Rec)) (mapGet (setGet he1)) setSetV ?_
    refine At.done rfl ?_
    refine AW.r ?_
    refine At.a 2 ?_
    refine At.sJ 65 ((kk + 6) + 1) (kk + 7) (by omega) (by omega) ?_
    refine At.a 1 ?_
    refine At.done rfl ?_
    refine AW.r ?_
    refine At.a 3 ?_
    refine At.iRf 37 69 (.tmp 66) (.tmp 67) 0 ((o.set i (⟨kk, kk + 1, kk + 2, kk + 3, ⟨kk + 4, ⟨kk + 5, kk + 6, e1.entry.cmd.node, e1.entry.cmd.size, e1.entry.cmd.digest⟩⟩⟩ : Rec)).map encRec) .i64 (i : Int) 47 10 (by omega) (by simp only [List.length_map, List.length_append, List.length_take, List.length_drop, List.length_replicate, List.length_set, List.length_cons, List.length_nil]; omega) ?_
    refine At.a 3 ?_
    refine At.sEl 3 0 47 10 i 7 (.tmp 72) (.tmp 68) ((o.set i (⟨kk, kk + 1, kk + 2, kk + 3, ⟨kk + 4, ⟨kk + 5, kk + 6, e1.entry.cmd.node, e1.entry.cmd.size, e1.entry.cmd.digest⟩⟩⟩ : Rec)).map encRec) ((o.set i (⟨kk, kk + 1, kk + 2, kk + 3, ⟨kk + 4, ⟨kk + 5, kk + 6, kk + 7, e1.entry.cmd.size, e1.entry.cmd.digest⟩⟩⟩ : Rec)).map encRec) [.int .i64 (kk + 7)] (.int .i64 (kk + 7)) (encRec (⟨kk, kk + 1, kk + 2, kk + 3, ⟨kk + 4, ⟨kk + 5, kk + 6, e1.entry.cmd.node, e1.entry.cmd.size, e1.entry.cmd.digest⟩⟩⟩ : Rec)) (encRec (⟨kk, kk + 1, kk + 2, kk + 3, ⟨kk + 4, ⟨kk + 5, kk + 6, kk + 7, e1.entry.cmd.size, e1.entry.cmd.digest⟩⟩⟩ : Rec)) (mapGet (setGet he1)) setSetV ?_
    refine At.done rfl ?_
    refine AW.r ?_
    refine At.a 2 ?_
    refine At.sJ 74 ((kk + 7) + 1) (kk + 8) (by omega) (by omega) ?_
    refine At.a 1 ?_
    refine At.done rfl ?_
    refine AW.r ?_
    refine At.a 3 ?_
    refine At.iRf 37 78 (.tmp 75) (.tmp 76) 0 ((o.set i (⟨kk, kk + 1, kk + 2, kk + 3, ⟨kk + 4, ⟨kk + 5, kk + 6, kk + 7, e1.entry.cmd.size, e1.entry.cmd.digest⟩⟩⟩ : Rec)).map encRec) .i64 (i : Int) 47 10 (by omega) (by simp only [List.length_map, List.length_append, List.length_take, List.length_drop, List.length_replicate, List.length_set, List.length_cons, List.length_nil]; omega) ?_
    refine At.a 3 ?_
    refine At.sEl 3 0 47 10 i 8 (.tmp 81) (.tmp 77) ((o.set i (⟨kk, kk + 1, kk + 2, kk + 3, ⟨kk + 4, ⟨kk + 5, kk + 6, kk + 7, e1.entry.cmd.size, e1.entry.cmd.digest⟩⟩⟩ : Rec)).map encRec) ((o.set i (⟨kk, kk + 1, kk + 2, kk + 3, ⟨kk + 4, ⟨kk + 5, kk + 6, kk + 7, kk + 8, e1.entry.cmd.digest⟩⟩⟩ : Rec)).map encRec) [.int .i64 (kk + 8)] (.int .i64 (kk + 8)) (encRec (⟨kk, kk + 1, kk + 2, kk + 3, ⟨kk + 4, ⟨kk + 5, kk + 6, kk + 7, e1.entry.cmd.size, e1.entry.cmd.digest⟩⟩⟩ : Rec)) (encRec (⟨kk, kk + 1, kk + 2, kk + 3, ⟨kk + 4, ⟨kk + 5, kk + 6, kk + 7, kk + 8, e1.entry.cmd.digest⟩⟩⟩ : Rec)) (mapGet (setGet he1)) setSetV ?_
    refine At.done rfl ?_
    refine AW.r ?_
    refine At.a 2 ?_
    refine At.sJ 83 ((kk + 8) + 1) (kk + 9) (by omega) (by omega) ?_
    refine At.a 1 ?_
    refine At.done rfl ?_
    refine AW.r ?_
    refine At.a 3 ?_
    refine At.c (laws_markText_spec  (kk + 9) (by omega)) Tryz.call133 true [] [] [] trivial ?_
    refine At.iRf 37 88 (.tmp 84) (.tmp 85) 0 ((o.set i (⟨kk, kk + 1, kk + 2, kk + 3, ⟨kk + 4, ⟨kk + 5, kk + 6, kk + 7, kk + 8, e1.entry.cmd.digest⟩⟩⟩ : Rec)).map encRec) .i64 (i : Int) 47 10 (by omega) (by simp only [List.length_map, List.length_append, List.length_take, List.length_drop, List.length_replicate, List.length_set, List.length_cons, List.length_nil]; omega) ?_
    refine At.a 3 ?_
    refine At.sEl 9 0 47 10 i 9 (.tmp 91) (.tmp 87) ((o.set i (⟨kk, kk + 1, kk + 2, kk + 3, ⟨kk + 4, ⟨kk + 5, kk + 6, kk + 7, kk + 8, e1.entry.cmd.digest⟩⟩⟩ : Rec)).map encRec) ((o.set i (⟨kk, kk + 1, kk + 2, kk + 3, ⟨kk + 4, ⟨kk + 5, kk + 6, kk + 7, kk + 8, markT (kk + 9)⟩⟩⟩ : Rec)).map encRec) [.str (markT (kk + 9))] (.str (markT (kk + 9))) (encRec (⟨kk, kk + 1, kk + 2, kk + 3, ⟨kk + 4, ⟨kk + 5, kk + 6, kk + 7, kk + 8, e1.entry.cmd.digest⟩⟩⟩ : Rec)) (encRec (⟨kk, kk + 1, kk + 2, kk + 3, ⟨kk + 4, ⟨kk + 5, kk + 6, kk + 7, kk + 8, markT (kk + 9)⟩⟩⟩ : Rec)) (mapGet (setGet he1)) setSetV ?_
    refine At.done rfl ?_
    refine AW.region (At.start ?_)
    refine At.a 2 ?_
    refine At.sJ 93 ((kk + 9) + 1) (kk + 10) (by omega) (by omega) ?_
    refine At.a 1 ?_
    refine At.done rfl ?_
    refine AW.region (At.start ?_)
    refine At.a 2 ?_
    refine At.sI 11 ((i : Int) + 1) (by omega) ?_
    refine At.a 1 ?_
    refine At.done rfl ?_
    exact ⟨(i + 1, (kk + 10), (o.set i (⟨kk, kk + 1, kk + 2, kk + 3, ⟨kk + 4, ⟨kk + 5, kk + 6, kk + 7, kk + 8, markT (kk + 9)⟩⟩⟩ : Rec))), ⟨by omega, hR.step he1 rfl rfl⟩, (by simp only; omega), Sub.o [(0, 0)] [true, true, false, false, false, true]⟩
  · skip
    refine AW.exit ?_
    refine AW.r ?_
    refine At.a 2 ?_
    refine At.done rfl ?_
    refine AW.ret ?_
    refine ⟨_, Sub.refl _ _, ?_⟩
    refine KF.conv (fun w => .int .i64 w) (fun w => [.arr 47 10 ((marks markR nxR a k).map encRec)]) (show (kk) = (ends nxR a k) from (hR.done (by omega)).2) ?_
    refine KF.conv (fun w => .int .i64 kk) (fun w => [.arr 47 10 (w.map encRec)]) (show (o) = (marks markR nxR a k) from (hR.done (by omega)).1) ?_
    exact KF.m [(0, 0)] [.int .i64 kk]
set_option maxRecDepth 100000 in
set_option maxHeartbeats 4000000 in
theorem laws_markOutS_spec  (a : List Out) (k : Int) (hk : 0 ≤ k) (ha : a.length ≤ 1048576) (he : ends nxO a k ≤ 4611686018427387904) (hea : ∀ o ∈ a, o.msg.entries.length ≤ 1048576) : FnSpec Tryz.prog 49 [.ref 0, .int .i64 k] [.arr 51 17 (a.map encOut)] (.int .i64 (ends nxO a k)) [.arr 51 17 ((marks markO nxO a k).map encOut)] := by
  refine FnSpec.of 157 Tryz.func49 rfl Tryz.ntmps49 (by simp) (AW.weakK ?_)
  refine AW.r ?_
  refine At.a 1 ?_
  refine At.done rfl ?_
  refine AW.seq ?_
  refine AW.r ?_
  refine At.a 1 ?_
  refine At.done rfl ?_
  refine AW.block ?_
  refine AW.loopW (fun (x : Nat × Int × List Out) => match x with | (i, kk, o) => Go.Sy.mk [.ref 0, .int .i64 kk, .un, .un, .un, .int .i64 (i : Int)] [(0, .arr 51 17 (o.map encOut))]) (fun (x : Nat × Int × List Out) => match x with | (i, kk, o) => 0 ≤ kk ∧ MInv markO nxO a k i kk o) (fun (x : Nat × Int × List Out) => match x with | (i, kk, o) => a.length - i) (0, k, a) ⟨hk, MInv.start⟩ (Sub.o [(0, 0)] [true, true, false, false, false, true]) ?_
  rintro ⟨i, kk, o⟩ ⟨hkk, hR⟩
  have hle := hR.ge nxO_ge
  have hlo := hR.2.1
  refine AW.seq ?_
  refine AW.r ?_
  refine At.a 3 ?_
  refine At.sL 8 encOut o ?_
  refine At.a 1 ?_
  refine At.done rfl ?_
  refine AW.cD ((i : Int) < (o.length : Int)) (fun h1 => ?_) (fun h1 => ?_)
  · skip
    refine AW.skip ?_
    refine AW.seq ?_
    refine AW.block ?_
    refine AW.r ?_
    refine At.a 3 ?_
    refine At.iRf 38 15 (.tmp 12) (.tmp 13) 0 (o.map encOut) .i64 (i : Int) 51 17 (by omega) (by simp only [List.length_map, List.length_append, List.length_take, List.length_drop, List.length_replicate, List.length_set, List.length_cons, List.length_nil]; omega) ?_
    refine At.a 1 ?_
    refine Exists.elim (show ∃ e, o[i]? = some e from ⟨_, List.getElem?_eq_getElem (by omega)⟩) fun e1 he1 => ?_
    have hlt := hR.le nxO_ge he1
    have hge := ends_ge nxE_ge e1.msg.entries (kk + 16)
    rw [nxO] at hlt
    have hen := hea _ (List.mem_of_getElem? (hR.get he1))
    refine At.sEl 3 0 51 17 i 0 (.tmp 16) (.tmp 14) (o.map encOut) ((o.set i (⟨kk, e1.msg⟩ : Out)).map encOut) [.int .i64 kk] (.int .i64 kk) (encOut e1) (encOut (⟨kk, e1.msg⟩ : Out)) (mapGet he1) setV ?_
    refine At.done rfl ?_
    refine AW.r ?_
    refine At.a 2 ?_
    refine At.sI 18 (kk + 1) (by omega) ?_
    refine At.a 1 ?_
    refine At.done rfl ?_
    refine AW.r ?_
    refine At.a 3 ?_
    refine At.iRf 38 22 (.tmp 19) (.tmp 20) 0 ((o.set i (⟨kk, e1.msg⟩ : Out)).map encOut) .i64 (i : Int) 51 17 (by omega) (by simp only [List.length_map, List.length_append, List.length_take, List.length_drop, List.length_replicate, List.length_set, List.length_cons, List.length_nil]; omega) ?_
    refine At.a 2 ?_
    refine At.sEl 3 0 51 17 i 1 (.tmp 24) (.tmp 21) ((o.set i (⟨kk, e1.msg⟩ : Out)).map encOut) ((o.set i (⟨kk, ⟨kk + 1, e1.msg.from_, e1.msg.term, e1.msg.at_, e1.msg.atTerm, e1.msg.commit, e1.msg.yes, e1.msg.release, e1.msg.part, e1.msg.bytes, ⟨e1.msg.cmd.kind, e1.msg.cmd.release, e1.msg.cmd.node, e1.msg.cmd.size, e1.msg.cmd.digest⟩, e1.msg.entries⟩⟩ : Out)).map encOut) [.int .i64 (kk + 1)] (.int .i64 (kk + 1)) (encOut (⟨kk, e1.msg⟩ : Out)) (encOut (⟨kk, ⟨kk + 1, e1.msg.from_, e1.msg.term, e1.msg.at_, e1.msg.atTerm, e1.msg.commit, e1.msg.yes, e1.msg.release, e1.msg.part, e1.msg.bytes, ⟨e1.msg.cmd.kind, e1.msg.cmd.release, e1.msg.cmd.node, e1.msg.cmd.size, e1.msg.cmd.digest⟩, e1.msg.entries⟩⟩ : Out)) (mapGet (setGet he1)) setSetV ?_
    refine At.done rfl ?_
    refine AW.r ?_
    refine At.a 2 ?_
    refine At.sJ 26 ((kk + 1) + 1) (kk + 2) (by omega) (by omega) ?_
    refine At.a 1 ?_
    refine At.done rfl ?_
    refine AW.r ?_
    refine At.a 3 ?_
    refine At.iRf 38 30 (.tmp 27) (.tmp 28) 0 ((o.set i (⟨kk, ⟨kk + 1, e1.msg.from_, e1.msg.term, e1.msg.at_, e1.msg.atTerm, e1.msg.commit, e1.msg.yes, e1.msg.release, e1.msg.part, e1.msg.bytes, ⟨e1.msg.cmd.kind, e1.msg.cmd.release, e1.msg.cmd.node, e1.msg.cmd.size, e1.msg.cmd.digest⟩, e1.msg.entries⟩⟩ : Out)).map encOut) .i64 (i : Int) 51 17 (by omega) (by simp only [List.length_map, List.length_append, List.length_take, List.length_drop, List.length_replicate, List.length_set, List.length_cons, List.length_nil]; omega) ?_
    refine At.a 2 ?_
    refine At.sEl 3 0 51 17 i 2 (.tmp 32) (.tmp 29) ((o.set i (⟨kk, ⟨kk + 1, e1.msg.from_, e1.msg.term, e1.msg.at_, e1.msg.atTerm, e1.msg.commit, e1.msg.yes, e1.msg.release, e1.msg.part, e1.msg.bytes, ⟨e1.msg.cmd.kind, e1.msg.cmd.release, e1.msg.cmd.node, e1.msg.cmd.size, e1.msg.cmd.digest⟩, e1.msg.entries⟩⟩ : Out)).map encOut) ((o.set i (⟨kk, ⟨kk + 1, kk + 2, e1.msg.term, e1.msg.at_, e1.msg.atTerm, e1.msg.commit, e1.msg.yes, e1.msg.release, e1.msg.part, e1.msg.bytes, ⟨e1.msg.cmd.kind, e1.msg.cmd.release, e1.msg.cmd.node, e1.msg.cmd.size, e1.msg.cmd.digest⟩, e1.msg.entries⟩⟩ : Out)).map encOut) [.int .i64 (kk + 2)] (.int .i64 (kk + 2)) (encOut (⟨kk, ⟨kk + 1, e1.msg.from_, e1.msg.term, e1.msg.at_, e1.msg.atTerm, e1.msg.commit, e1.msg.yes, e1.msg.release, e1.msg.part, e1.msg.bytes, ⟨e1.msg.cmd.kind, e1.msg.cmd.release, e1.msg.cmd.node, e1.msg.cmd.size, e1.msg.cmd.digest⟩, e1.msg.entries⟩⟩ : Out)) (encOut (⟨kk, ⟨kk + 1, kk + 2, e1.msg.term, e1.msg.at_, e1.msg.atTerm, e1.msg.commit, e1.msg.yes, e1.msg.release, e1.msg.part, e1.msg.bytes, ⟨e1.msg.cmd.kind, e1.msg.cmd.release, e1.msg.cmd.node, e1.msg.cmd.size, e1.msg.cmd.digest⟩, e1.msg.entries⟩⟩ : Out)) (mapGet (setGet he1)) setSetV ?_
    refine At.done rfl ?_
    refine AW.r ?_
    refine At.a 2 ?_
    refine At.sJ 34 ((kk + 2) + 1) (kk + 3) (by omega) (by omega) ?_
    refine At.a 1 ?_
    refine At.done rfl ?_
    refine AW.r ?_
    refine At.a 3 ?_
    refine At.iRf 38 38 (.tmp 35) (.tmp 36) 0 ((o.set i (⟨kk, ⟨kk + 1, kk + 2, e1.msg.term, e1.msg.at_, e1.msg.atTerm, e1.msg.commit, e1.msg.yes, e1.msg.release, e1.msg.part, e1.msg.bytes, ⟨e1.msg.cmd.kind, e1.msg.cmd.release, e1.msg.cmd.node, e1.msg.cmd.size, e1.msg.cmd.digest⟩, e1.msg.entries⟩⟩ : Out)).map encOut) .i64 (i : Int) 51 17 (by omega) (by simp only [List.length_map, List.length_append, List.length_take, List.length_drop, List.length_replicate, List.length_set, List.length_cons, List.length_nil]; omega) ?_
    refine At.a 2 ?_
    refine At.sEl 3 0 51 17 i 3 (.tmp 40) (.tmp 37) ((o.set i (⟨kk, ⟨kk + 1, kk + 2, e1.msg.term, e1.msg.at_, e1.msg.atTerm, e1.msg.commit, e1.msg.yes, e1.msg.release, e1.msg.part, e1.msg.bytes, ⟨e1.msg.cmd.kind, e1.msg.cmd.release, e1.msg.cmd.node, e1.msg.cmd.size, e1.msg.cmd.digest⟩, e1.msg.entries⟩⟩ : Out)).map encOut) ((o.set i (⟨kk, ⟨kk + 1, kk + 2, kk + 3, e1.msg.at_, e1.msg.atTerm, e1.msg.commit, e1.msg.yes, e1.msg.release, e1.msg.part, e1.msg.bytes, ⟨e1.msg.cmd.kind, e1.msg.cmd.release, e1.msg.cmd.node, e1.msg.cmd.size, e1.msg.cmd.digest⟩, e1.msg.entries⟩⟩ : Out)).map encOut) [.int .i64 (kk + 3)] (.int .i64 (kk + 3)) (encOut (⟨kk, ⟨kk + 1, kk + 2, e1.msg.term, e1.msg.at_, e1.msg.atTerm, e1.msg.commit, e1.msg.yes, e1.msg.release, e1.msg.part, e1.msg.bytes, ⟨e1.msg.cmd.kind, e1.msg.cmd.release, e1.msg.cmd.node, e1.msg.cmd.size, e1.msg.cmd.digest⟩, e1.msg.entries⟩⟩ : Out)) (encOut (⟨kk, ⟨kk + 1, kk + 2, kk + 3, e1.msg.at_, e1.msg.atTerm, e1.msg.commit, e1.msg.yes, e1.msg.release, e1.msg.part, e1.msg.bytes, ⟨e1.msg.cmd.kind, e1.msg.cmd.release, e1.msg.cmd.node, e1.msg.cmd.size, e1.msg.cmd.digest⟩, e1.msg.entries⟩⟩ : Out)) (mapGet (setGet he1)) setSetV ?_
    refine At.done rfl ?_
    refine AW.r ?_
    refine At.a 2 ?_
    refine At.sJ 42 ((kk + 3) + 1) (kk + 4) (by omega) (by omega) ?_
    refine At.a 1 ?_
    refine At.done rfl ?_
    refine AW.r ?_
    refine At.a 3 ?_
    refine At.iRf 38 46 (.tmp 43) (.tmp 44) 0 ((o.set i (⟨kk, ⟨kk + 1, kk + 2, kk + 3, e1.msg.at_, e1.msg.atTerm, e1.msg.commit, e1.msg.yes, e1.msg.release, e1.msg.part, e1.msg.bytes, ⟨e1.msg.cmd.kind, e1.msg.cmd.release, e1.msg.cmd.node, e1.msg.cmd.size, e1.msg.cmd.digest⟩, e1.msg.entries⟩⟩ : Out)).map encOut) .i64 (i : Int) 51 17 (by omega) (by simp only [List.length_map, List.length_append, List.length_take, List.length_drop, List.length_replicate, List.length_set, List.length_cons, List.length_nil]; omega) ?_
    refine At.a 2 ?_
    refine At.sEl 3 0 51 17 i 4 (.tmp 48) (.tmp 45) ((o.set i (⟨kk, ⟨kk + 1, kk + 2, kk + 3, e1.msg.at_, e1.msg.atTerm, e1.msg.commit, e1.msg.yes, e1.msg.release, e1.msg.part, e1.msg.bytes, ⟨e1.msg.cmd.kind, e1.msg.cmd.release, e1.msg.cmd.node, e1.msg.cmd.size, e1.msg.cmd.digest⟩, e1.msg.entries⟩⟩ : Out)).map encOut) ((o.set i (⟨kk, ⟨kk + 1, kk + 2, kk + 3, kk + 4, e1.msg.atTerm, e1.msg.commit, e1.msg.yes, e1.msg.release, e1.msg.part, e1.msg.bytes, ⟨e1.msg.cmd.kind, e1.msg.cmd.release, e1.msg.cmd.node, e1.msg.cmd.size, e1.msg.cmd.digest⟩, e1.msg.entries⟩⟩ : Out)).map encOut) [.int .i64 (kk + 4)] (.int .i64 (kk + 4)) (encOut (⟨kk, ⟨kk + 1, kk + 2, kk + 3, e1.msg.at_, e1.msg.atTerm, e1.msg.commit, e1.msg.yes, e1.msg.release, e1.msg.part, e1.msg.bytes, ⟨e1.msg.cmd.kind, e1.msg.cmd.release, e1.msg.cmd.node, e1.msg.cmd.size, e1.msg.cmd.digest⟩, e1.msg.entries⟩⟩ : Out)) (encOut (⟨kk, ⟨kk + 1, kk + 2, kk + 3, kk + 4, e1.msg.atTerm, e1.msg.commit, e1.msg.yes, e1.msg.release, e1.msg.part, e1.msg.bytes, ⟨e1.msg.cmd.kind, e1.msg.cmd.release, e1.msg.cmd.node, e1.msg.cmd.size, e1.msg.cmd.digest⟩, e1.msg.entries⟩⟩ : Out)) (mapGet (setGet he1)) setSetV ?_
    refine At.done rfl ?_
    refine AW.r ?_
    refine At.a 2 ?_
    refine At.sJ 50 ((kk + 4) + 1) (kk + 5) (by omega) (by omega) ?_
    refine At.a 1 ?_
    refine At.done rfl ?_
    refine AW.r ?_
    refine At.a 3 ?_
    refine At.iRf 38 54 (.tmp 51) (.tmp 52) 0 ((o.set i (⟨kk, ⟨kk + 1, kk + 2, kk + 3, kk + 4, e1.msg.atTerm, e1.msg.commit, e1.msg.yes, e1.msg.release, e1.msg.part, e1.msg.bytes, ⟨e1.msg.cmd.kind, e1.msg.cmd.release, e1.msg.cmd.node, e1.msg.cmd.size, e1.msg.cmd.digest⟩, e1.msg.entries⟩⟩ : Out)).map encOut) .i64 (i : Int) 51 17 (by omega) (by simp only [List.length_map, List.length_append, List.length_take, List.length_drop, List.length_replicate, List.length_set, List.length_cons, List.length_nil]; omega) ?_
    refine At.a 2 ?_
    refine At.sEl 3 0 51 17 i 5 (.tmp 56) (.tmp 53) ((o.set i (⟨kk, ⟨kk + 1, kk + 2, kk + 3, kk + 4, e1.msg.atTerm, e1.msg.commit, e1.msg.yes, e1.msg.release, e1.msg.part, e1.msg.bytes, ⟨e1.msg.cmd.kind, e1.msg.cmd.release, e1.msg.cmd.node, e1.msg.cmd.size, e1.msg.cmd.digest⟩, e1.msg.entries⟩⟩ : Out)).map encOut) ((o.set i (⟨kk, ⟨kk + 1, kk + 2, kk + 3, kk + 4, kk + 5, e1.msg.commit, e1.msg.yes, e1.msg.release, e1.msg.part, e1.msg.bytes, ⟨e1.msg.cmd.kind, e1.msg.cmd.release, e1.msg.cmd.node, e1.msg.cmd.size, e1.msg.cmd.digest⟩, e1.msg.entries⟩⟩ : Out)).map encOut) [.int .i64 (kk + 5)] (.int .i64 (kk + 5)) (encOut (⟨kk, ⟨kk + 1, kk + 2, kk + 3, kk + 4, e1.msg.atTerm, e1.msg.commit, e1.msg.yes, e1.msg.release, e1.msg.part, e1.msg.bytes, ⟨e1.msg.cmd.kind, e1.msg.cmd.release, e1.msg.cmd.node, e1.msg.cmd.size, e1.msg.cmd.digest⟩, e1.msg.entries⟩⟩ : Out)) (encOut (⟨kk, ⟨kk + 1, kk + 2, kk + 3, kk + 4, kk + 5, e1.msg.commit, e1.msg.yes, e1.msg.release, e1.msg.part, e1.msg.bytes, ⟨e1.msg.cmd.kind, e1.msg.cmd.release, e1.msg.cmd.node, e1.msg.cmd.size, e1.msg.cmd.digest⟩, e1.msg.entries⟩⟩ : Out)) (mapGet (setGet he1)) setSetV ?_
    refine At.done rfl ?_
    refine AW.r ?_
    refine At.a 2 ?_
    refine At.sJ 58 ((kk + 5) + 1) (kk + 6) (by omega) (by omega) ?_
    refine At.a 1 ?_
    refine At.done rfl ?_
    refine AW.r ?_
    refine At.a 3 ?_
    refine At.iRf 38 62 (.tmp 59) (.tmp 60) 0 ((o.set i (⟨kk, ⟨kk + 1, kk + 2, kk + 3, kk + 4, kk + 5, e1.msg.commit, e1.msg.yes, e1.msg.release, e1.msg.part, e1.msg.bytes, ⟨e1.msg.cmd.kind, e1.msg.cmd.release, e1.msg.cmd.node, e1.msg.cmd.size, e1.msg.cmd.digest⟩, e1.msg.entries⟩⟩ : Out)).map encOut) .i64 (i : Int) 51 17 (by omega) (by simp only [List.length_map, List.length_append, List.length_take, List.length_drop, List.length_replicate, List.length_set, List.length_cons, List.length_nil]; omega) ?_
    refine At.a 2 ?_
    refine At.sEl 3 0 51 17 i 6 (.tmp 64) (.tmp 61) ((o.set i (⟨kk, ⟨kk + 1, kk + 2, kk + 3, kk + 4, kk + 5, e1.msg.commit, e1.msg.yes, e1.msg.release, e1.msg.part, e1.msg.bytes, ⟨e1.msg.cmd.kind, e1.msg.cmd.release, e1.msg.cmd.node, e1.msg.cmd.size, e1.msg.cmd.digest⟩, e1.msg.entries⟩⟩ : Out)).map encOut) ((o.set i (⟨kk, ⟨kk + 1, kk + 2, kk + 3, kk + 4, kk + 5, kk + 6, e1.msg.yes, e1.msg.release, e1.msg.part, e1.msg.bytes, ⟨e1.msg.cmd.kind, e1.msg.cmd.release, e1.msg.cmd.node, e1.msg.cmd.size, e1.msg.cmd.digest⟩, e1.msg.entries⟩⟩ : Out)).map encOut) [.int .i64 (kk + 6)] (.int .i64 (kk + 6)) (encOut (⟨kk, ⟨kk + 1, kk + 2, kk + 3, kk + 4, kk + 5, e1.msg.commit, e1.msg.yes, e1.msg.release, e1.msg.part, e1.msg.bytes, ⟨e1.msg.cmd.kind, e1.msg.cmd.release, e1.msg.cmd.node, e1.msg.cmd.size, e1.msg.cmd.digest⟩, e1.msg.entries⟩⟩ : Out)) (encOut (⟨kk, ⟨kk + 1, kk + 2, kk + 3, kk + 4, kk + 5, kk + 6, e1.msg.yes, e1.msg.release, e1.msg.part, e1.msg.bytes, ⟨e1.msg.cmd.kind, e1.msg.cmd.release, e1.msg.cmd.node, e1.msg.cmd.size, e1.msg.cmd.digest⟩, e1.msg.entries⟩⟩ : Out)) (mapGet (setGet he1)) setSetV ?_
    refine At.done rfl ?_
    refine AW.r ?_
    refine At.a 2 ?_
    refine At.sJ 66 ((kk + 6) + 1) (kk + 7) (by omega) (by omega) ?_
    refine At.a 1 ?_
    refine At.done rfl ?_
    refine AW.r ?_
    refine At.a 3 ?_
    refine At.div (t := 3) (u := 3) (d := 70) (op := .rem) (x := .tmp 69) (y := .const (.int .i64 3)) (kd := .i64) (a := kk + 7) (b := 3) (by kernel_rfl) (by kernel_rfl) (by kernel_rfl) (by kernel_rfl) (by omega) (.int .i64 ((kk + 7).tmod 3)) (.inr ⟨rfl, rfl⟩) ?_
    refine At.say 70 (.int .i64 ((kk + 7).tmod 3)) (.int .i64 ((kk + 7) % 3)) (by kernel_rfl) (sayRem (by omega)) ?_
    refine At.a 1 ?_
    refine At.iRf 38 72 (.tmp 67) (.tmp 68) 0 ((o.set i (⟨kk, ⟨kk + 1, kk + 2, kk + 3, kk + 4, kk + 5, kk + 6, e1.msg.yes, e1.msg.release, e1.msg.part, e1.msg.bytes, ⟨e1.msg.cmd.kind, e1.msg.cmd.release, e1.msg.cmd.node, e1.msg.cmd.size, e1.msg.cmd.digest⟩, e1.msg.entries⟩⟩ : Out)).map encOut) .i64 (i : Int) 51 17 (by omega) (by simp only [List.length_map, List.length_append, List.length_take, List.length_drop, List.length_replicate, List.length_set, List.length_cons, List.length_nil]; omega) ?_
    refine At.a 2 ?_
    refine At.sEl 4 0 51 17 i 7 (.tmp 74) (.tmp 71) ((o.set i (⟨kk, ⟨kk + 1, kk + 2, kk + 3, kk + 4, kk + 5, kk + 6, e1.msg.yes, e1.msg.release, e1.msg.part, e1.msg.bytes, ⟨e1.msg.cmd.kind, e1.msg.cmd.release, e1.msg.cmd.node, e1.msg.cmd.size, e1.msg.cmd.digest⟩, e1.msg.entries⟩⟩ : Out)).map encOut) ((o.set i (⟨kk, ⟨kk + 1, kk + 2, kk + 3, kk + 4, kk + 5, kk + 6, ((kk + 7) % 3) == 0, e1.msg.release, e1.msg.part, e1.msg.bytes, ⟨e1.msg.cmd.kind, e1.msg.cmd.release, e1.msg.cmd.node, e1.msg.cmd.size, e1.msg.cmd.digest⟩, e1.msg.entries⟩⟩ : Out)).map encOut) [.bool (((kk + 7) % 3) == 0)] (.bool (((kk + 7) % 3) == 0)) (encOut (⟨kk, ⟨kk + 1, kk + 2, kk + 3, kk + 4, kk + 5, kk + 6, e1.msg.yes, e1.msg.release, e1.msg.part, e1.msg.bytes, ⟨e1.msg.cmd.kind, e1.msg.cmd.release, e1.msg.cmd.node, e1.msg.cmd.size, e1.msg.cmd.digest⟩, e1.msg.entries⟩⟩ : Out)) (encOut (⟨kk, ⟨kk + 1, kk + 2, kk + 3, kk + 4, kk + 5, kk + 6, ((kk + 7) % 3) == 0, e1.msg.release, e1.msg.part, e1.msg.bytes, ⟨e1.msg.cmd.kind, e1.msg.cmd.release, e1.msg.cmd.node, e1.msg.cmd.size, e1.msg.cmd.digest⟩, e1.msg.entries⟩⟩ : Out)) (mapGet (setGet he1)) setSetV ?_
    refine At.done rfl ?_
    refine AW.r ?_
    refine At.a 2 ?_
    refine At.sJ 76 ((kk + 7) + 1) (kk + 8) (by omega) (by omega) ?_
    refine At.a 1 ?_
    refine At.done rfl ?_
    refine AW.r ?_
    refine At.a 3 ?_
    refine At.iRf 38 80 (.tmp 77) (.tmp 78) 0 ((o.set i (⟨kk, ⟨kk + 1, kk + 2, kk + 3, kk + 4, kk + 5, kk + 6, ((kk + 7) % 3) == 0, e1.msg.release, e1.msg.part, e1.msg.bytes, ⟨e1.msg.cmd.kind, e1.msg.cmd.release, e1.msg.cmd.node, e1.msg.cmd.size, e1.msg.cmd.digest⟩, e1.msg.entries⟩⟩ : Out)).map encOut) .i64 (i : Int) 51 17 (by omega) (by simp only [List.length_map, List.length_append, List.length_take, List.length_drop, List.length_replicate, List.length_set, List.length_cons, List.length_nil]; omega) ?_
    refine At.a 2 ?_
    refine At.sEl 3 0 51 17 i 8 (.tmp 82) (.tmp 79) ((o.set i (⟨kk, ⟨kk + 1, kk + 2, kk + 3, kk + 4, kk + 5, kk + 6, ((kk + 7) % 3) == 0, e1.msg.release, e1.msg.part, e1.msg.bytes, ⟨e1.msg.cmd.kind, e1.msg.cmd.release, e1.msg.cmd.node, e1.msg.cmd.size, e1.msg.cmd.digest⟩, e1.msg.entries⟩⟩ : Out)).map encOut) ((o.set i (⟨kk, ⟨kk + 1, kk + 2, kk + 3, kk + 4, kk + 5, kk + 6, ((kk + 7) % 3) == 0, kk + 8, e1.msg.part, e1.msg.bytes, ⟨e1.msg.cmd.kind, e1.msg.cmd.release, e1.msg.cmd.node, e1.msg.cmd.size, e1.msg.cmd.digest⟩, e1.msg.entries⟩⟩ : Out)).map encOut) [.int .i64 (kk + 8)] (.int .i64 (kk + 8)) (encOut (⟨kk, ⟨kk + 1, kk + 2, kk + 3, kk + 4, kk + 5, kk + 6, ((kk + 7) % 3) == 0, e1.msg.release, e1.msg.part, e1.msg.bytes, ⟨e1.msg.cmd.kind, e1.msg.cmd.release, e1.msg.cmd.node, e1.msg.cmd.size, e1.msg.cmd.digest⟩, e1.msg.entries⟩⟩ : Out)) (encOut (⟨kk, ⟨kk + 1, kk + 2, kk + 3, kk + 4, kk + 5, kk + 6, ((kk + 7) % 3) == 0, kk + 8, e1.msg.part, e1.msg.bytes, ⟨e1.msg.cmd.kind, e1.msg.cmd.release, e1.msg.cmd.node, e1.msg.cmd.size, e1.msg.cmd.digest⟩, e1.msg.entries⟩⟩ : Out)) (mapGet (setGet he1)) setSetV ?_
    refine At.done rfl ?_
    refine AW.r ?_
    refine At.a 2 ?_
    refine At.sJ 84 ((kk + 8) + 1) (kk + 9) (by omega) (by omega) ?_
    refine At.a 1 ?_
    refine At.done rfl ?_
    refine AW.r ?_
    refine At.a 3 ?_
    refine At.iRf 38 88 (.tmp 85) (.tmp 86) 0 ((o.set i (⟨kk, ⟨kk + 1, kk + 2, kk + 3, kk + 4, kk + 5, kk + 6, ((kk + 7) % 3) == 0, kk + 8, e1.msg.part, e1.msg.bytes, ⟨e1.msg.cmd.kind, e1.msg.cmd.release, e1.msg.cmd.node, e1.msg.cmd.size, e1.msg.cmd.digest⟩, e1.msg.entries⟩⟩ : Out)).map encOut) .i64 (i : Int) 51 17 (by omega) (by simp only [List.length_map, List.length_append, List.length_take, List.length_drop, List.length_replicate, List.length_set, List.length_cons, List.length_nil]; omega) ?_
    refine At.a 2 ?_
    refine At.sEl 3 0 51 17 i 9 (.tmp 90) (.tmp 87) ((o.set i (⟨kk, ⟨kk + 1, kk + 2, kk + 3, kk + 4, kk + 5, kk + 6, ((kk + 7) % 3) == 0, kk + 8, e1.msg.part, e1.msg.bytes, ⟨e1.msg.cmd.kind, e1.msg.cmd.release, e1.msg.cmd.node, e1.msg.cmd.size, e1.msg.cmd.digest⟩, e1.msg.entries⟩⟩ : Out)).map encOut) ((o.set i (⟨kk, ⟨kk + 1, kk + 2, kk + 3, kk + 4, kk + 5, kk + 6, ((kk + 7) % 3) == 0, kk + 8, kk + 9, e1.msg.bytes, ⟨e1.msg.cmd.kind, e1.msg.cmd.release, e1.msg.cmd.node, e1.msg.cmd.size, e1.msg.cmd.digest⟩, e1.msg.entries⟩⟩ : Out)).map encOut) [.int .i64 (kk + 9)] (.int .i64 (kk + 9)) (encOut (⟨kk, ⟨kk + 1, kk + 2, kk + 3, kk + 4, kk + 5, kk + 6, ((kk + 7) % 3) == 0, kk + 8, e1.msg.part, e1.msg.bytes, ⟨e1.msg.cmd.kind, e1.msg.cmd.release, e1.msg.cmd.node, e1.msg.cmd.size, e1.msg.cmd.digest⟩, e1.msg.entries⟩⟩ : Out)) (encOut (⟨kk, ⟨kk + 1, kk + 2, kk + 3, kk + 4, kk + 5, kk + 6, ((kk + 7) % 3) == 0, kk + 8, kk + 9, e1.msg.bytes, ⟨e1.msg.cmd.kind, e1.msg.cmd.release, e1.msg.cmd.node, e1.msg.cmd.size, e1.msg.cmd.digest⟩, e1.msg.entries⟩⟩ : Out)) (mapGet (setGet he1)) setSetV ?_
    refine At.done rfl ?_
    refine AW.r ?_
    refine At.a 2 ?_
    refine At.sJ 92 ((kk + 9) + 1) (kk + 10) (by omega) (by omega) ?_
    refine At.a 1 ?_
    refine At.done rfl ?_
    refine AW.r ?_
    refine At.a 3 ?_
    refine At.c (laws_markText_spec  (kk + 10) (by omega)) Tryz.call133 true [] [] [] trivial ?_
    refine At.iRf 38 97 (.tmp 93) (.tmp 94) 0 ((o.set i (⟨kk, ⟨kk + 1, kk + 2, kk + 3, kk + 4, kk + 5, kk + 6, ((kk + 7) % 3) == 0, kk + 8, kk + 9, e1.msg.bytes, ⟨e1.msg.cmd.kind, e1.msg.cmd.release, e1.msg.cmd.node, e1.msg.cmd.size, e1.msg.cmd.digest⟩, e1.msg.entries⟩⟩ : Out)).map encOut) .i64 (i : Int) 51 17 (by omega) (by simp only [List.length_map, List.length_append, List.length_take, List.length_drop, List.length_replicate, List.length_set, List.length_cons, List.length_nil]; omega) ?_
    refine At.a 2 ?_
    refine At.sEl 9 0 51 17 i 10 (.tmp 99) (.tmp 96) ((o.set i (⟨kk, ⟨kk + 1, kk + 2, kk + 3, kk + 4, kk + 5, kk + 6, ((kk + 7) % 3) == 0, kk + 8, kk + 9, e1.msg.bytes, ⟨e1.msg.cmd.kind, e1.msg.cmd.release, e1.msg.cmd.node, e1.msg.cmd.size, e1.msg.cmd.digest⟩, e1.msg.entries⟩⟩ : Out)).map encOut) ((o.set i (⟨kk, ⟨kk + 1, kk + 2, kk + 3, kk + 4, kk + 5, kk + 6, ((kk + 7) % 3) == 0, kk + 8, kk + 9, markT (kk + 10), ⟨e1.msg.cmd.kind, e1.msg.cmd.release, e1.msg.cmd.node, e1.msg.cmd.size, e1.msg.cmd.digest⟩, e1.msg.entries⟩⟩ : Out)).map encOut) [.str (markT (kk + 10))] (.str (markT (kk + 10))) (encOut (⟨kk, ⟨kk + 1, kk + 2, kk + 3, kk + 4, kk + 5, kk + 6, ((kk + 7) % 3) == 0, kk + 8, kk + 9, e1.msg.bytes, ⟨e1.msg.cmd.kind, e1.msg.cmd.release, e1.msg.cmd.node, e1.msg.cmd.size, e1.msg.cmd.digest⟩, e1.msg.entries⟩⟩ : Out)) (encOut (⟨kk, ⟨kk + 1, kk + 2, kk + 3, kk + 4, kk + 5, kk + 6, ((kk + 7) % 3) == 0, kk + 8, kk + 9, markT (kk + 10), ⟨e1.msg.cmd.kind, e1.msg.cmd.release, e1.msg.cmd.node, e1.msg.cmd.size, e1.msg.cmd.digest⟩, e1.msg.entries⟩⟩ : Out)) (mapGet (setGet he1)) setSetV ?_
    refine At.done rfl ?_
    refine AW.r ?_
    refine At.a 2 ?_
    refine At.sJ 101 ((kk + 10) + 1) (kk + 11) (by omega) (by omega) ?_
    refine At.a 1 ?_
    refine At.done rfl ?_
    refine AW.r ?_
    refine At.a 3 ?_
    refine At.iRf 38 105 (.tmp 102) (.tmp 103) 0 ((o.set i (⟨kk, ⟨kk + 1, kk + 2, kk + 3, kk + 4, kk + 5, kk + 6, ((kk + 7) % 3) == 0, kk + 8, kk + 9, markT (kk + 10), ⟨e1.msg.cmd.kind, e1.msg.cmd.release, e1.msg.cmd.node, e1.msg.cmd.size, e1.msg.cmd.digest⟩, e1.msg.entries⟩⟩ : Out)).map encOut) .i64 (i : Int) 51 17 (by omega) (by simp only [List.length_map, List.length_append, List.length_take, List.length_drop, List.length_replicate, List.length_set, List.length_cons, List.length_nil]; omega) ?_
    refine At.a 3 ?_
    refine At.sEl 3 0 51 17 i 11 (.tmp 108) (.tmp 104) ((o.set i (⟨kk, ⟨kk + 1, kk + 2, kk + 3, kk + 4, kk + 5, kk + 6, ((kk + 7) % 3) == 0, kk + 8, kk + 9, markT (kk + 10), ⟨e1.msg.cmd.kind, e1.msg.cmd.release, e1.msg.cmd.node, e1.msg.cmd.size, e1.msg.cmd.digest⟩, e1.msg.entries⟩⟩ : Out)).map encOut) ((o.set i (⟨kk, ⟨kk + 1, kk + 2, kk + 3, kk + 4, kk + 5, kk + 6, ((kk + 7) % 3) == 0, kk + 8, kk + 9, markT (kk + 10), ⟨kk + 11, e1.msg.cmd.release, e1.msg.cmd.node, e1.msg.cmd.size, e1.msg.cmd.digest⟩, e1.msg.entries⟩⟩ : Out)).map encOut) [.int .i64 (kk + 11)] (.int .i64 (kk + 11)) (encOut (⟨kk, ⟨kk + 1, kk + 2, kk + 3, kk + 4, kk + 5, kk + 6, ((kk + 7) % 3) == 0, kk + 8, kk + 9, markT (kk + 10), ⟨e1.msg.cmd.kind, e1.msg.cmd.release, e1.msg.cmd.node, e1.msg.cmd.size, e1.msg.cmd.digest⟩, e1.msg.entries⟩⟩ : Out)) (encOut (⟨kk, ⟨kk + 1, kk + 2, kk + 3, kk + 4, kk + 5, kk + 6, ((kk + 7) % 3) == 0, kk + 8, kk + 9, markT (kk + 10), ⟨kk + 11, e1.msg.cmd.release, e1.msg.cmd.node, e1.msg.cmd.size, e1.msg.cmd.digest⟩, e1.msg.entries⟩⟩ : Out)) (mapGet (setGet he1)) setSetV ?_
    refine At.done rfl ?_
    refine AW.r ?_
    refine At.a 2 ?_
    refine At.sJ 110 ((kk + 11) + 1) (kk + 12) (by omega) (by omega) ?_
    refine At.a 1 ?_
    refine At.done rfl ?_
    refine AW.r ?_
    refine At.a 3 ?_
    refine At.iRf 38 114 (.tmp 111) (.tmp 112) 0 ((o.set i (⟨kk, ⟨kk + 1, kk + 2, kk + 3, kk + 4, kk + 5, kk + 6, ((kk + 7) % 3) == 0, kk + 8, kk + 9, markT (kk + 10), ⟨kk + 11, e1.msg.cmd.release, e1.msg.cmd.node, e1.msg.cmd.size, e1.msg.cmd.digest⟩, e1.msg.entries⟩⟩ : Out)).map encOut) .i64 (i : Int) 51 17 (by omega) (by simp only [List.length_map, List.length_append, List.length_take, List.length_drop, List.length_replicate, List.length_set, List.length_cons, List.length_nil]; omega) ?_
    refine At.a 3 ?_
    refine At.sEl 3 0 51 17 i 12 (.tmp 117) (.tmp 113) ((o.set i (⟨kk, ⟨kk + 1, kk + 2, kk + 3, kk + 4, kk + 5, kk + 6, ((kk + 7) % 3) == 0, kk + 8, kk + 9, markT (kk + 10), ⟨kk + 11, e1.msg.cmd.release, e1.msg.cmd.node, e1.msg.cmd.size, e1.msg.cmd.digest⟩, e1.msg.entries⟩⟩ : Out)).map encOut) ((o.set i (⟨kk, ⟨kk + 1, kk + 2, kk + 3, kk + 4, kk + 5, kk + 6, ((kk + 7) % 3) == 0, kk + 8, kk + 9, markT (kk + 10), ⟨kk + 11, kk + 12, e1.msg.cmd.node, e1.msg.cmd.size, e1.msg.cmd.digest⟩, e1.msg.entries⟩⟩ : Out)).map encOut) [.int .i64 (kk + 12)] (.int .i64 (kk + 12)) (encOut (⟨kk, ⟨kk + 1, kk + 2, kk + 3, kk + 4, kk + 5, kk + 6, ((kk + 7) % 3) == 0, kk + 8, kk + 9, markT (kk + 10), ⟨kk + 11, e1.msg.cmd.release, e1.msg.cmd.node, e1.msg.cmd.size, e1.msg.cmd.digest⟩, e1.msg.entries⟩⟩ : Out)) (encOut (⟨kk, ⟨kk + 1, kk + 2, kk + 3, kk + 4, kk + 5, kk + 6, ((kk + 7) % 3) == 0, kk + 8, kk + 9, markT (kk + 10), ⟨kk + 11, kk + 12, e1.msg.cmd.node, e1.msg.cmd.size, e1.msg.cmd.digest⟩, e1.msg.entries⟩⟩ : Out)) (mapGet (setGet he1)) setSetV ?_
    refine At.done rfl ?_
    refine AW.r ?_
    refine At.a 2 ?_
    refine At.sJ 119 ((kk + 12) + 1) (kk + 13) (by omega) (by omega) ?_
    refine At.a 1 ?_
    refine At.done rfl ?_
    refine AW.r ?_
    refine At.a 3 ?_
    refine At.iRf 38 123 (.tmp 120) (.tmp 121) 0 ((o.set i (⟨kk, ⟨kk + 1, kk + 2, kk + 3, kk + 4, kk + 5, kk + 6, ((kk + 7) % 3) == 0, kk + 8, kk + 9, markT (kk + 10), ⟨kk + 11, kk + 12, e1.msg.cmd.node, e1.msg.cmd.size, e1.msg.cmd.digest⟩, e1.msg.entries⟩⟩ : Out)).map encOut) .i64 (i : Int) 51 17 (by omega) (by simp only [List.length_map, List.length_append, List.length_take, List.length_drop, List.length_replicate, List.length_set, List.length_cons, List.length_nil]; omega) ?_
    refine At.a 3 ?_
    refine At.sEl 3 0 51 17 i 13 (.tmp 126) (.tmp 122) ((o.set i (⟨kk, ⟨kk + 1, kk + 2, kk + 3, kk + 4, kk + 5, kk + 6, ((kk + 7) % 3) == 0, kk + 8, kk + 9, markT (kk + 10), ⟨kk + 11, kk + 12, e1.msg.cmd.node, e1.msg.cmd.size, e1.msg.cmd.digest⟩, e1.msg.entries⟩⟩ : Out)).map encOut) ((o.set i (⟨kk, ⟨kk + 1, kk + 2, kk + 3, kk + 4, kk + 5, kk + 6, ((kk + 7) % 3) == 0, kk + 8, kk + 9, markT (kk + 10), ⟨kk + 11, kk + 12, kk + 13, e1.msg.cmd.size, e1.msg.cmd.digest⟩, e1.msg.entries⟩⟩ : Out)).map encOut) [.int .i64 (kk + 13)] (.int .i64 (kk + 13)) (encOut (⟨kk, ⟨kk + 1, kk + 2, kk + 3, kk + 4, kk + 5, kk + 6, ((kk + 7) % 3) == 0, kk + 8, kk + 9, markT (kk + 10), ⟨kk + 11, kk + 12, e1.msg.cmd.node, e1.msg.cmd.size, e1.msg.cmd.digest⟩, e1.msg.entries⟩⟩ : Out)) (encOut (⟨kk, ⟨kk + 1, kk + 2, kk + 3, kk + 4, kk + 5, kk + 6, ((kk + 7) % 3) == 0, kk + 8, kk + 9, markT (kk + 10), ⟨kk + 11, kk + 12, kk + 13, e1.msg.cmd.size, e1.msg.cmd.digest⟩, e1.msg.entries⟩⟩ : Out)) (mapGet (setGet he1)) setSetV ?_
    refine At.done rfl ?_
    refine AW.r ?_
    refine At.a 2 ?_
    refine At.sJ 128 ((kk + 13) + 1) (kk + 14) (by omega) (by omega) ?_
    refine At.a 1 ?_
    refine At.done rfl ?_
    refine AW.r ?_
    refine At.a 3 ?_
    refine At.iRf 38 132 (.tmp 129) (.tmp 130) 0 ((o.set i (⟨kk, ⟨kk + 1, kk + 2, kk + 3, kk + 4, kk + 5, kk + 6, ((kk + 7) % 3) == 0, kk + 8, kk + 9, markT (kk + 10), ⟨kk + 11, kk + 12, kk + 13, e1.msg.cmd.size, e1.msg.cmd.digest⟩, e1.msg.entries⟩⟩ : Out)).map encOut) .i64 (i : Int) 51 17 (by omega) (by simp only [List.length_map, List.length_append, List.length_take, List.length_drop, List.length_replicate, List.length_set, List.length_cons, List.length_nil]; omega) ?_
    refine At.a 3 ?_
    refine At.sEl 3 0 51 17 i 14 (.tmp 135) (.tmp 131) ((o.set i (⟨kk, ⟨kk + 1, kk + 2, kk + 3, kk + 4, kk + 5, kk + 6, ((kk + 7) % 3) == 0, kk + 8, kk + 9, markT (kk + 10), ⟨kk + 11, kk + 12, kk + 13, e1.msg.cmd.size, e1.msg.cmd.digest⟩, e1.msg.entries⟩⟩ : Out)).map encOut) ((o.set i (⟨kk, ⟨kk + 1, kk + 2, kk + 3, kk + 4, kk + 5, kk + 6, ((kk + 7) % 3) == 0, kk + 8, kk + 9, markT (kk + 10), ⟨kk + 11, kk + 12, kk + 13, kk + 14, e1.msg.cmd.digest⟩, e1.msg.entries⟩⟩ : Out)).map encOut) [.int .i64 (kk + 14)] (.int .i64 (kk + 14)) (encOut (⟨kk, ⟨kk + 1, kk + 2, kk + 3, kk + 4, kk + 5, kk + 6, ((kk + 7) % 3) == 0, kk + 8, kk + 9, markT (kk + 10), ⟨kk + 11, kk + 12, kk + 13, e1.msg.cmd.size, e1.msg.cmd.digest⟩, e1.msg.entries⟩⟩ : Out)) (encOut (⟨kk, ⟨kk + 1, kk + 2, kk + 3, kk + 4, kk + 5, kk + 6, ((kk + 7) % 3) == 0, kk + 8, kk + 9, markT (kk + 10), ⟨kk + 11, kk + 12, kk + 13, kk + 14, e1.msg.cmd.digest⟩, e1.msg.entries⟩⟩ : Out)) (mapGet (setGet he1)) setSetV ?_
    refine At.done rfl ?_
    refine AW.r ?_
    refine At.a 2 ?_
    refine At.sJ 137 ((kk + 14) + 1) (kk + 15) (by omega) (by omega) ?_
    refine At.a 1 ?_
    refine At.done rfl ?_
    refine AW.r ?_
    refine At.a 3 ?_
    refine At.c (laws_markText_spec  (kk + 15) (by omega)) Tryz.call133 true [] [] [] trivial ?_
    refine At.iRf 38 142 (.tmp 138) (.tmp 139) 0 ((o.set i (⟨kk, ⟨kk + 1, kk + 2, kk + 3, kk + 4, kk + 5, kk + 6, ((kk + 7) % 3) == 0, kk + 8, kk + 9, markT (kk + 10), ⟨kk + 11, kk + 12, kk + 13, kk + 14, e1.msg.cmd.digest⟩, e1.msg.entries⟩⟩ : Out)).map encOut) .i64 (i : Int) 51 17 (by omega) (by simp only [List.length_map, List.length_append, List.length_take, List.length_drop, List.length_replicate, List.length_set, List.length_cons, List.length_nil]; omega) ?_
    refine At.a 3 ?_
    refine At.sEl 9 0 51 17 i 15 (.tmp 145) (.tmp 141) ((o.set i (⟨kk, ⟨kk + 1, kk + 2, kk + 3, kk + 4, kk + 5, kk + 6, ((kk + 7) % 3) == 0, kk + 8, kk + 9, markT (kk + 10), ⟨kk + 11, kk + 12, kk + 13, kk + 14, e1.msg.cmd.digest⟩, e1.msg.entries⟩⟩ : Out)).map encOut) ((o.set i (⟨kk, ⟨kk + 1, kk + 2, kk + 3, kk + 4, kk + 5, kk + 6, ((kk + 7) % 3) == 0, kk + 8, kk + 9, markT (kk + 10), ⟨kk + 11, kk + 12, kk + 13, kk + 14, markT (kk + 15)⟩, e1.msg.entries⟩⟩ : Out)).map encOut) [.str (markT (kk + 15))] (.str (markT (kk + 15))) (encOut (⟨kk, ⟨kk + 1, kk + 2, kk + 3, kk + 4, kk + 5, kk + 6, ((kk + 7) % 3) == 0, kk + 8, kk + 9, markT (kk + 10), ⟨kk + 11, kk + 12, kk + 13, kk + 14, e1.msg.cmd.digest⟩, e1.msg.entries⟩⟩ : Out)) (encOut (⟨kk, ⟨kk + 1, kk + 2, kk + 3, kk + 4, kk + 5, kk + 6, ((kk + 7) % 3) == 0, kk + 8, kk + 9, markT (kk + 10), ⟨kk + 11, kk + 12, kk + 13, kk + 14, markT (kk + 15)⟩, e1.msg.entries⟩⟩ : Out)) (mapGet (setGet he1)) setSetV ?_
    refine At.done rfl ?_
    refine AW.r ?_
    refine At.a 2 ?_
    refine At.sJ 147 ((kk + 15) + 1) (kk + 16) (by omega) (by omega) ?_
    refine At.a 1 ?_
    refine At.done rfl ?_
    refine AW.region (At.start ?_)
    refine At.a 2 ?_
    refine At.iRf 38 150 (.tmp 148) (.tmp 149) 0 ((o.set i (⟨kk, ⟨kk + 1, kk + 2, kk + 3, kk + 4, kk + 5, kk + 6, ((kk + 7) % 3) == 0, kk + 8, kk + 9, markT (kk + 10), ⟨kk + 11, kk + 12, kk + 13, kk + 14, markT (kk + 15)⟩, e1.msg.entries⟩⟩ : Out)).map encOut) .i64 (i : Int) 51 17 (by omega) (by simp only [List.length_map, List.length_append, List.length_take, List.length_drop, List.length_replicate, List.length_set, List.length_cons, List.length_nil]; omega) ?_
    refine At.a 2 ?_
    refine At.out (t := 24) (d := 153) (x := .tmp 152) (i := 0) (e := 51) (es := 17) (xs := ((o.set i (⟨kk, ⟨kk + 1, kk + 2, kk + 3, kk + 4, kk + 5, kk + 6, ((kk + 7) % 3) == 0, kk + 8, kk + 9, markT (kk + 10), ⟨kk + 11, kk + 12, kk + 13, kk + 14, markT (kk + 15)⟩, e1.msg.entries⟩⟩ : Out)).map encOut)) (xs' := (((o.set i (⟨kk, ⟨kk + 1, kk + 2, kk + 3, kk + 4, kk + 5, kk + 6, ((kk + 7) % 3) == 0, kk + 8, kk + 9, markT (kk + 10), ⟨kk + 11, kk + 12, kk + 13, kk + 14, markT (kk + 15)⟩, e1.msg.entries⟩⟩ : Out)).map encOut)).set i (.agg [.int .i64 kk, .int .i64 (kk + 1), .int .i64 (kk + 2), .int .i64 (kk + 3), .int .i64 (kk + 4), .int .i64 (kk + 5), .int .i64 (kk + 6), .bool (((kk + 7) % 3) == 0), .int .i64 (kk + 8), .int .i64 (kk + 9), .str (markT (kk + 10)), .int .i64 (kk + 11), .int .i64 (kk + 12), .int .i64 (kk + 13), .int .i64 (kk + 14), .str (markT (kk + 15)), .un])) (j := i) (off := 16) (ys := (e1.msg.entries.map encEnt)) (e' := 45) (es' := 6) 253 (encOut (⟨kk, ⟨kk + 1, kk + 2, kk + 3, kk + 4, kk + 5, kk + 6, ((kk + 7) % 3) == 0, kk + 8, kk + 9, markT (kk + 10), ⟨kk + 11, kk + 12, kk + 13, kk + 14, markT (kk + 15)⟩, e1.msg.entries⟩⟩ : Out)) (.agg [.int .i64 kk, .int .i64 (kk + 1), .int .i64 (kk + 2), .int .i64 (kk + 3), .int .i64 (kk + 4), .int .i64 (kk + 5), .int .i64 (kk + 6), .bool (((kk + 7) % 3) == 0), .int .i64 (kk + 8), .int .i64 (kk + 9), .str (markT (kk + 10)), .int .i64 (kk + 11), .int .i64 (kk + 12), .int .i64 (kk + 13), .int .i64 (kk + 14), .str (markT (kk + 15)), .un]) (by kernel_rfl) (by kernel_rfl) (by kernel_rfl) (by kernel_rfl) (by kernel_rfl) (mapGet (setGet he1)) (by kernel_rfl) (by decide) rfl ?_
    refine At.a 1 ?_
    refine At.c (laws_markEntryS_spec  e1.msg.entries (kk + 16) (by omega) (by omega) (by omega)) Tryz.call132 true [(253, 0)] [] [] trivial ?_
    refine At.a 1 ?_
    refine At.done rfl ?_
    refine AW.weak (Sub.close (i := 0) (e := 51) (es := 17) (j := i) (off := 16) (k := 253) (e' := 45) (es' := 6) (xs := (((o.set i (⟨kk, ⟨kk + 1, kk + 2, kk + 3, kk + 4, kk + 5, kk + 6, ((kk + 7) % 3) == 0, kk + 8, kk + 9, markT (kk + 10), ⟨kk + 11, kk + 12, kk + 13, kk + 14, markT (kk + 15)⟩, e1.msg.entries⟩⟩ : Out)).map encOut)).set i (.agg [.int .i64 kk, .int .i64 (kk + 1), .int .i64 (kk + 2), .int .i64 (kk + 3), .int .i64 (kk + 4), .int .i64 (kk + 5), .int .i64 (kk + 6), .bool (((kk + 7) % 3) == 0), .int .i64 (kk + 8), .int .i64 (kk + 9), .str (markT (kk + 10)), .int .i64 (kk + 11), .int .i64 (kk + 12), .int .i64 (kk + 13), .int .i64 (kk + 14), .str (markT (kk + 15)), .un])) (xs' := ((o.set i (⟨kk, ⟨kk + 1, kk + 2, kk + 3, kk + 4, kk + 5, kk + 6, ((kk + 7) % 3) == 0, kk + 8, kk + 9, markT (kk + 10), ⟨kk + 11, kk + 12, kk + 13, kk + 14, markT (kk + 15)⟩, marks markE nxE e1.msg.entries (kk + 16)⟩⟩ : Out)).map encOut)) (zs := ((marks markE nxE e1.msg.entries (kk + 16)).map encEnt)) (y := .agg [.int .i64 kk, .int .i64 (kk + 1), .int .i64 (kk + 2), .int .i64 (kk + 3), .int .i64 (kk + 4), .int .i64 (kk + 5), .int .i64 (kk + 6), .bool (((kk + 7) % 3) == 0), .int .i64 (kk + 8), .int .i64 (kk + 9), .str (markT (kk + 10)), .int .i64 (kk + 11), .int .i64 (kk + 12), .int .i64 (kk + 13), .int .i64 (kk + 14), .str (markT (kk + 15)), .un]) (y' := encOut (⟨kk, ⟨kk + 1, kk + 2, kk + 3, kk + 4, kk + 5, kk + 6, ((kk + 7) % 3) == 0, kk + 8, kk + 9, markT (kk + 10), ⟨kk + 11, kk + 12, kk + 13, kk + 14, markT (kk + 15)⟩, marks markE nxE e1.msg.entries (kk + 16)⟩⟩ : Out)) (by kernel_rfl) flatEnts (by decide) (setGet (mapGet (setGet he1))) (by kernel_rfl) (by rw [List.set_set, ← setSetV])) ?_
    refine AW.region (At.start ?_)
    refine At.a 2 ?_
    refine At.sI 11 ((i : Int) + 1) (by omega) ?_
    refine At.a 1 ?_
    refine At.done rfl ?_
    exact ⟨(i + 1, (ends nxE e1.msg.entries (kk + 16)), (o.set i (⟨kk, ⟨kk + 1, kk + 2, kk + 3, kk + 4, kk + 5, kk + 6, ((kk + 7) % 3) == 0, kk + 8, kk + 9, markT (kk + 10), ⟨kk + 11, kk + 12, kk + 13, kk + 14, markT (kk + 15)⟩, marks markE nxE e1.msg.entries (kk + 16)⟩⟩ : Out))), ⟨by omega, hR.step he1 rfl rfl⟩, (by simp only; omega), Sub.o [(0, 0)] [true, true, false, false, false, true]⟩
  · skip
    refine AW.exit ?_
    refine AW.r ?_
    refine At.a 2 ?_
    refine At.done rfl ?_
    refine AW.ret ?_
    refine ⟨_, Sub.refl _ _, ?_⟩
    refine KF.conv (fun w => .int .i64 w) (fun w => [.arr 51 17 ((marks markO nxO a k).map encOut)]) (show (kk) = (ends nxO a k) from (hR.done (by omega)).2) ?_
    refine KF.conv (fun w => .int .i64 kk) (fun w => [.arr 51 17 (w.map encOut)]) (show (o) = (marks markO nxO a k) from (hR.done (by omega)).1) ?_
    exact KF.m [(0, 0)] [.int .i64 kk]
set_option maxRecDepth 100000 in
set_option maxHeartbeats 4000000 in
theorem laws_heldEntryS_spec  (a : List Ent) (k : Int) (ha : a.length ≤ 1048576) (hk : 0 ≤ k ∧ k + 20 * a.length ≤ 4611686018427387904) : FnSpec Tryz.prog 136 [.sl false 6 (a.map encEnt), .int .i64 k] [] (.int .i64 (held okE nxE a k)) [] := by
  refine FnSpec.of 73 Tryz.func136 rfl Tryz.ntmps136 (by simp) (AW.weakK ?_)
  refine AW.r ?_
  refine At.a 1 ?_
  refine At.done rfl ?_
  refine AW.seq ?_
  refine AW.r ?_
  refine At.a 1 ?_
  refine At.done rfl ?_
  refine AW.block ?_
  refine AW.loopW (fun (x : Nat × Int) => match x with | (i, kk) => Go.Sy.mk [.sl false 6 (a.map encEnt), .int .i64 kk, .un, .un, .un, .int .i64 (i : Int)] []) (fun (x : Nat × Int) => match x with | (i, kk) => i ≤ a.length ∧ 0 ≤ kk ∧ kk + 20 * ((a.length : Int) - i) ≤ 4611686018427387904 ∧ held okE nxE a k = held okE nxE (a.drop i) kk) (fun (x : Nat × Int) => match x with | (i, kk) => a.length - i) (0, k) ⟨by omega, by omega, by omega, by rw [List.drop_zero]⟩ (Sub.o [] [true, true, false, false, false, true]) ?_
  rintro ⟨i, kk⟩ ⟨hi, hkk, hkb, hR⟩
  refine AW.seq ?_
  refine AW.r ?_
  refine At.a 3 ?_
  refine At.sL 8 encEnt a ?_
  refine At.a 1 ?_
  refine At.done rfl ?_
  refine AW.cD ((i : Int) < (a.length : Int)) (fun h1 => ?_) (fun h1 => ?_)
  · skip
    refine AW.skip ?_
    refine AW.seq ?_
    refine AW.block ?_
    refine AW.seq ?_
    refine AW.r ?_
    refine At.a 2 ?_
    refine At.iSl 24 14 (.tmp 12) (.tmp 13) false 6 (a.map encEnt) .i64 (i : Int) 45 (by omega) (by simp only [List.length_map, List.length_append, List.length_take, List.length_drop, List.length_replicate, List.length_set, List.length_cons, List.length_nil]; omega) ?_
    refine At.a 1 ?_
    refine Exists.elim (show ∃ e, a[i]? = some e from ⟨_, List.getElem?_eq_getElem (by omega)⟩) fun e1 he1 => ?_
    refine At.lVp 3 16 (.tmp 15) false 6 (a.map encEnt) i 0 false 1 (encEnt e1) (.int .i64 e1.term) (mapGet he1) ?_
    refine At.a 2 ?_
    refine At.done rfl ?_
    refine AW.cU e1.term kk (fun h2 => ?_) (fun h2 => ?_)
    · skip
      refine AW.r ?_
      refine At.a 1 ?_
      refine At.done rfl ?_
      refine AW.ret ?_
      refine ⟨_, Sub.refl _ _, ?_⟩
      refine KF.conv (fun w => .int .i64 w) (fun w => []) (show (-1) = (held okE nxE a k) from by rw [hR, dropCons he1, held, if_neg (by simp [okE, h1, h2])]) ?_
      exact KF.m [] [.int .i64 (-1)]
    · skip
      refine AW.skip ?_
      refine AW.r ?_
      refine At.a 2 ?_
      refine At.sI 20 (kk + 1) (by omega) ?_
      refine At.a 1 ?_
      refine At.done rfl ?_
      refine AW.seq ?_
      refine AW.r ?_
      refine At.a 2 ?_
      refine At.iSl 24 23 (.tmp 21) (.tmp 22) false 6 (a.map encEnt) .i64 (i : Int) 45 (by omega) (by simp only [List.length_map, List.length_append, List.length_take, List.length_drop, List.length_replicate, List.length_set, List.length_cons, List.length_nil]; omega) ?_
      refine At.a 2 ?_
      refine At.lVp 3 26 (.tmp 25) false 6 (a.map encEnt) i 1 false 1 (encEnt e1) (.int .i64 e1.cmd.kind) (mapGet he1) ?_
      refine At.a 2 ?_
      refine At.done rfl ?_
      refine AW.cU e1.cmd.kind (kk + 1) (fun h3 => ?_) (fun h3 => ?_)
      · skip
        refine AW.r ?_
        refine At.a 1 ?_
        refine At.done rfl ?_
        refine AW.ret ?_
        refine ⟨_, Sub.refl _ _, ?_⟩
        refine KF.conv (fun w => .int .i64 w) (fun w => []) (show (-1) = (held okE nxE a k) from by rw [hR, dropCons he1, held, if_neg (by simp [okE, h1, h2, h3])]) ?_
        exact KF.m [] [.int .i64 (-1)]
      · skip
        refine AW.skip ?_
        refine AW.r ?_
        refine At.a 2 ?_
        refine At.sJ 30 ((kk + 1) + 1) (kk + 2) (by omega) (by omega) ?_
        refine At.a 1 ?_
        refine At.done rfl ?_
        refine AW.seq ?_
        refine AW.r ?_
        refine At.a 2 ?_
        refine At.iSl 24 33 (.tmp 31) (.tmp 32) false 6 (a.map encEnt) .i64 (i : Int) 45 (by omega) (by simp only [List.length_map, List.length_append, List.length_take, List.length_drop, List.length_replicate, List.length_set, List.length_cons, List.length_nil]; omega) ?_
        refine At.a 2 ?_
        refine At.lVp 3 36 (.tmp 35) false 6 (a.map encEnt) i 2 false 1 (encEnt e1) (.int .i64 e1.cmd.release) (mapGet he1) ?_
        refine At.a 2 ?_
        refine At.done rfl ?_
        refine AW.cU e1.cmd.release (kk + 2) (fun h4 => ?_) (fun h4 => ?_)
        · skip
          refine AW.r ?_
          refine At.a 1 ?_
          refine At.done rfl ?_
          refine AW.ret ?_
          refine ⟨_, Sub.refl _ _, ?_⟩
          refine KF.conv (fun w => .int .i64 w) (fun w => []) (show (-1) = (held okE nxE a k) from by rw [hR, dropCons he1, held, if_neg (by simp [okE, h1, h2, h3, h4])]) ?_
          exact KF.m [] [.int .i64 (-1)]
        · skip
          refine AW.skip ?_
          refine AW.r ?_
          refine At.a 2 ?_
          refine At.sJ 40 ((kk + 2) + 1) (kk + 3) (by omega) (by omega) ?_
          refine At.a 1 ?_
          refine At.done rfl ?_
          refine AW.seq ?_
          refine AW.r ?_
          refine At.a 2 ?_
          refine At.iSl 24 43 (.tmp 41) (.tmp 42) false 6 (a.map encEnt) .i64 (i : Int) 45 (by omega) (by simp only [List.length_map, List.length_append, List.length_take, List.length_drop, List.length_replicate, List.length_set, List.length_cons, List.length_nil]; omega) ?_
          refine At.a 2 ?_
          refine At.lVp 3 46 (.tmp 45) false 6 (a.map encEnt) i 3 false 1 (encEnt e1) (.int .i64 e1.cmd.node) (mapGet he1) ?_
          refine At.a 2 ?_
          refine At.done rfl ?_
          refine AW.cU e1.cmd.node (kk + 3) (fun h5 => ?_) (fun h5 => ?_)
          · skip
            refine AW.r ?_
            refine At.a 1 ?_
            refine At.done rfl ?_
            refine AW.ret ?_
            refine ⟨_, Sub.refl _ _, ?_⟩
            refine KF.conv (fun w => .int .i64 w) (fun w => []) (show (-1) = (held okE nxE a k) from by rw [hR, dropCons he1, held, if_neg (by simp [okE, h1, h2, h3, h4, h5])]) ?_
            exact KF.m [] [.int .i64 (-1)]
          · skip
            refine AW.skip ?_
            refine AW.r ?_
            refine At.a 2 ?_
            refine At.sJ 50 ((kk + 3) + 1) (kk + 4) (by omega) (by omega) ?_
            refine At.a 1 ?_
            refine At.done rfl ?_
            refine AW.seq ?_
            refine AW.r ?_
            refine At.a 2 ?_
            refine At.iSl 24 53 (.tmp 51) (.tmp 52) false 6 (a.map encEnt) .i64 (i : Int) 45 (by omega) (by simp only [List.length_map, List.length_append, List.length_take, List.length_drop, List.length_replicate, List.length_set, List.length_cons, List.length_nil]; omega) ?_
            refine At.a 2 ?_
            refine At.lVp 3 56 (.tmp 55) false 6 (a.map encEnt) i 4 false 1 (encEnt e1) (.int .i64 e1.cmd.size) (mapGet he1) ?_
            refine At.a 2 ?_
            refine At.done rfl ?_
            refine AW.cU e1.cmd.size (kk + 4) (fun h6 => ?_) (fun h6 => ?_)
            · skip
              refine AW.r ?_
              refine At.a 1 ?_
              refine At.done rfl ?_
              refine AW.ret ?_
              refine ⟨_, Sub.refl _ _, ?_⟩
              refine KF.conv (fun w => .int .i64 w) (fun w => []) (show (-1) = (held okE nxE a k) from by rw [hR, dropCons he1, held, if_neg (by simp [okE, h1, h2, h3, h4, h5, h6])]) ?_
              exact KF.m [] [.int .i64 (-1)]
            · skip
              refine AW.skip ?_
              refine AW.r ?_
              refine At.a 2 ?_
              refine At.sJ 60 ((kk + 4) + 1) (kk + 5) (by omega) (by omega) ?_
              refine At.a 1 ?_
              refine At.done rfl ?_
              refine AW.seq ?_
              refine AW.seq ?_
              refine AW.regionD Tryz_mix (At.start ?_)
              refine At.a 2 ?_
              refine At.iSl 24 63 (.tmp 61) (.tmp 62) false 6 (a.map encEnt) .i64 (i : Int) 45 (by omega) (by simp only [List.length_map, List.length_append, List.length_take, List.length_drop, List.length_replicate, List.length_set, List.length_cons, List.length_nil]; omega) ?_
              refine At.a 2 ?_
              refine At.lVp 9 66 (.tmp 65) false 6 (a.map encEnt) i 5 false 1 (encEnt e1) (.str e1.cmd.digest) (mapGet he1) ?_
              refine At.a 1 ?_
              refine At.c (laws_markText_spec  (kk + 5) (by omega)) Tryz.call133 true [] [] [] trivial ?_
              refine At.a 1 ?_
              refine At.done rfl ⟨by kernel_rfl, ?_⟩
              refine AW.cNE (e1.cmd.digest.toList) ((markT (kk + 5)).toList) (fun h7 => ?_) (fun h7 => ?_)
              · skip
                refine AW.r ?_
                refine At.a 1 ?_
                refine At.done rfl ?_
                refine AW.ret ?_
                refine ⟨_, Sub.refl _ _, ?_⟩
                refine KF.conv (fun w => .int .i64 w) (fun w => []) (show (-1) = (held okE nxE a k) from by rw [hR, dropCons he1, held, if_neg (by simp [okE, h1, h2, h3, h4, h5, h6, h7])]) ?_
                exact KF.m [] [.int .i64 (-1)]
              · skip
                refine AW.skip ?_
                refine AW.region (At.start ?_)
                refine At.a 2 ?_
                refine At.sJ 71 ((kk + 5) + 1) (kk + 6) (by omega) (by omega) ?_
                refine At.a 1 ?_
                refine At.done rfl ?_
                refine AW.region (At.start ?_)
                refine At.a 2 ?_
                refine At.sI 11 ((i : Int) + 1) (by omega) ?_
                refine At.a 1 ?_
                refine At.done rfl ?_
                exact ⟨(i + 1, (kk + 6)), ⟨by omega, by omega, by omega, by rw [hR, dropCons he1, held, if_pos (by simp [okE, h1, h2, h3, h4, h5, h6, h7])]; rfl⟩, (by simp only; omega), Sub.o [] [true, true, false, false, false, true]⟩
  · skip
    refine AW.exit ?_
    refine AW.r ?_
    refine At.a 2 ?_
    refine At.done rfl ?_
    refine AW.ret ?_
    refine ⟨_, Sub.refl _ _, ?_⟩
    refine KF.conv (fun w => .int .i64 w) (fun w => []) (show (kk) = (held okE nxE a k) from by rw [hR, List.drop_of_length_le (by omega)]; rfl) ?_
    exact KF.m [] [.int .i64 kk]
set_option maxRecDepth 100000 in
set_option maxHeartbeats 4000000 in
theorem laws_heldHard_spec  (a : Hard) (k : Int) (ha : a.log.length ≤ 1048576) (hk : 0 ≤ k ∧ k ≤ 4611686018000000000) : FnSpec Tryz.prog 134 [.agg [.int .i64 a.term, .int .i64 a.vote, .sl false 6 (a.log.map encEnt)], .int .i64 k] [] (.int .i64 (held okE nxE a.log k)) [] := by
  refine FnSpec.of 12 Tryz.func134 rfl Tryz.ntmps134 (by simp) (AW.weakK ?_)
  refine AW.r ?_
  refine At.a 2 ?_
  refine At.done rfl ?_
  refine AW.r ?_
  refine At.a 3 ?_
  refine At.c (laws_heldEntryS_spec  a.log k (by omega) (by omega)) Tryz.call136 true [] [] [] trivial ?_
  have hhe := heldE_le a.log k (by omega)
  refine At.a 1 ?_
  refine At.done rfl ?_
  refine AW.seq ?_
  refine AW.r ?_
  refine At.a 2 ?_
  refine At.done rfl ?_
  refine AW.cD ((held okE nxE a.log k) < 0) (fun h1 => ?_) (fun h1 => ?_)
  · skip
    refine AW.r ?_
    refine At.a 1 ?_
    refine At.done rfl ?_
    refine AW.ret ?_
    refine ⟨_, Sub.refl _ _, ?_⟩
    refine KF.conv (fun w => .int .i64 w) (fun w => []) (show (-1) = (held okE nxE a.log k) from by exact (held_neg nxE_ge (by omega) (by assumption)).symm) ?_
    exact KF.m [] [.int .i64 (-1)]
  · skip
    refine AW.skip ?_
    refine AW.r ?_
    refine At.a 2 ?_
    refine At.done rfl ?_
    refine AW.ret ?_
    refine ⟨_, Sub.refl _ _, ?_⟩
    exact KF.m [] [.int .i64 (held okE nxE a.log k)]
set_option maxRecDepth 100000 in
set_option maxHeartbeats 4000000 in
theorem laws_heldIntS_spec  (a : List Int) (k : Int) (ha : a.length ≤ 1048576) (hk : 0 ≤ k ∧ k + 20 * a.length ≤ 4611686018427387904) : FnSpec Tryz.prog 135 [.sl false 1 (a.map encI), .int .i64 k] [] (.int .i64 (held okI nxI a k)) [] := by
  refine FnSpec.of 21 Tryz.func135 rfl Tryz.ntmps135 (by simp) (AW.weakK ?_)
  refine AW.r ?_
  refine At.a 1 ?_
  refine At.done rfl ?_
  refine AW.seq ?_
  refine AW.r ?_
  refine At.a 1 ?_
  refine At.done rfl ?_
  refine AW.block ?_
  refine AW.loopW (fun (x : Nat × Int) => match x with | (i, kk) => Go.Sy.mk [.sl false 1 (a.map encI), .int .i64 kk, .un, .un, .un, .int .i64 (i : Int)] []) (fun (x : Nat × Int) => match x with | (i, kk) => i ≤ a.length ∧ 0 ≤ kk ∧ kk + 20 * ((a.length : Int) - i) ≤ 4611686018427387904 ∧ held okI nxI a k = held okI nxI (a.drop i) kk) (fun (x : Nat × Int) => match x with | (i, kk) => a.length - i) (0, k) ⟨by omega, by omega, by omega, by rw [List.drop_zero]⟩ (Sub.o [] [true, true, false, false, false, true]) ?_
  rintro ⟨i, kk⟩ ⟨hi, hkk, hkb, hR⟩
  refine AW.seq ?_
  refine AW.r ?_
  refine At.a 3 ?_
  refine At.sL 8 encI a ?_
  refine At.a 1 ?_
  refine At.done rfl ?_
  refine AW.cD ((i : Int) < (a.length : Int)) (fun h1 => ?_) (fun h1 => ?_)
  · skip
    refine AW.skip ?_
    refine AW.seq ?_
    refine AW.block ?_
    refine AW.seq ?_
    refine AW.r ?_
    refine At.a 2 ?_
    refine At.iSl 27 14 (.tmp 12) (.tmp 13) false 1 (a.map encI) .i64 (i : Int) 3 (by omega) (by simp only [List.length_map, List.length_append, List.length_take, List.length_drop, List.length_replicate, List.length_set, List.length_cons, List.length_nil]; omega) ?_
    refine Exists.elim (show ∃ e, a[i]? = some e from ⟨_, List.getElem?_eq_getElem (by omega)⟩) fun e1 he1 => ?_
    refine At.lVp 3 15 (.tmp 14) false 1 (a.map encI) i 0 false 1 (encI e1) (.int .i64 e1) (mapGet he1) ?_
    refine At.a 2 ?_
    refine At.done rfl ?_
    refine AW.cU e1 kk (fun h2 => ?_) (fun h2 => ?_)
    · skip
      refine AW.r ?_
      refine At.a 1 ?_
      refine At.done rfl ?_
      refine AW.ret ?_
      refine ⟨_, Sub.refl _ _, ?_⟩
      refine KF.conv (fun w => .int .i64 w) (fun w => []) (show (-1) = (held okI nxI a k) from by rw [hR, dropCons he1, held, if_neg (by simp [okI, h1, h2])]) ?_
      exact KF.m [] [.int .i64 (-1)]
    · skip
      refine AW.skip ?_
      refine AW.region (At.start ?_)
      refine At.a 2 ?_
      refine At.sI 19 (kk + 1) (by omega) ?_
      refine At.a 1 ?_
      refine At.done rfl ?_
      refine AW.region (At.start ?_)
      refine At.a 2 ?_
      refine At.sI 11 ((i : Int) + 1) (by omega) ?_
      refine At.a 1 ?_
      refine At.done rfl ?_
      exact ⟨(i + 1, (kk + 1)), ⟨by omega, by omega, by omega, by rw [hR, dropCons he1, held, if_pos (by simp [okI, h1, h2])]; rfl⟩, (by simp only; omega), Sub.o [] [true, true, false, false, false, true]⟩
  · skip
    refine AW.exit ?_
    refine AW.r ?_
    refine At.a 2 ?_
    refine At.done rfl ?_
    refine AW.ret ?_
    refine ⟨_, Sub.refl _ _, ?_⟩
    refine KF.conv (fun w => .int .i64 w) (fun w => []) (show (kk) = (held okI nxI a k) from by rw [hR, List.drop_of_length_le (by omega)]; rfl) ?_
    exact KF.m [] [.int .i64 kk]
set_option maxRecDepth 100000 in
set_option maxHeartbeats 4000000 in
theorem laws_heldRaft_spec  (a : Raft) (k : Int) (hz : SmallR a) (hk : 0 ≤ k ∧ k ≤ 4611686017427387904) : FnSpec Tryz.prog 50 [.agg [.int .i64 a.id, .int .i64 a.of_, .int .i64 a.role, .int .i64 a.commit, .int .i64 a.hard.term, .int .i64 a.hard.vote, .sl false 6 (a.hard.log.map encEnt), .sl false 1 (a.yes.map encI), .sl false 1 (a.next.map encI), .sl false 1 (a.match_.map encI)], .int .i64 k] [] (.int .i64 (heldRaft a k)) [] := by
  obtain ⟨z1, z2, z3, z4⟩ := id hz
  refine FnSpec.of 30 Tryz.func50 rfl Tryz.ntmps50 (by simp) (AW.weakK ?_)
  refine AW.r ?_
  refine At.a 2 ?_
  refine At.done rfl ?_
  refine AW.r ?_
  refine At.a 3 ?_
  refine At.c (laws_heldHard_spec  a.hard k (by omega) (by omega)) Tryz.call134 true [] [] [] trivial ?_
  have hhh := heldE_le a.hard.log k (by omega)
  refine At.a 1 ?_
  refine At.done rfl ?_
  refine AW.seq ?_
  refine AW.r ?_
  refine At.a 2 ?_
  refine At.done rfl ?_
  refine AW.cD ((held okE nxE a.hard.log k) < 0) (fun h1 => ?_) (fun h1 => ?_)
  · skip
    refine AW.r ?_
    refine At.a 1 ?_
    refine At.done rfl ?_
    refine AW.ret ?_
    refine ⟨_, Sub.refl _ _, ?_⟩
    refine KF.conv (fun w => .int .i64 w) (fun w => []) (show (-1) = (heldRaft a k) from by unfold heldRaft; first | (simp [h1]; done) | (simp only [h1, if_false, if_true]; exact (held_neg nxI_ge (by omega) (by assumption)).symm)) ?_
    exact KF.m [] [.int .i64 (-1)]
  · skip
    refine AW.skip ?_
    refine AW.r ?_
    refine At.a 3 ?_
    refine At.c (laws_heldIntS_spec  a.yes (held okE nxE a.hard.log k) (by omega) (by omega)) Tryz.call135 true [] [] [] trivial ?_
    have hhi := heldI_le a.yes (held okE nxE a.hard.log k) (by omega)
    refine At.a 1 ?_
    refine At.done rfl ?_
    refine AW.seq ?_
    refine AW.r ?_
    refine At.a 2 ?_
    refine At.done rfl ?_
    refine AW.cD ((held okI nxI a.yes (held okE nxE a.hard.log k)) < 0) (fun h2 => ?_) (fun h2 => ?_)
    · skip
      refine AW.r ?_
      refine At.a 1 ?_
      refine At.done rfl ?_
      refine AW.ret ?_
      refine ⟨_, Sub.refl _ _, ?_⟩
      refine KF.conv (fun w => .int .i64 w) (fun w => []) (show (-1) = (heldRaft a k) from by unfold heldRaft; first | (simp [h1, h2]; done) | (simp only [h1, h2, if_false, if_true]; exact (held_neg nxI_ge (by omega) (by assumption)).symm)) ?_
      exact KF.m [] [.int .i64 (-1)]
    · skip
      refine AW.skip ?_
      refine AW.r ?_
      refine At.a 3 ?_
      refine At.c (laws_heldIntS_spec  a.next (held okI nxI a.yes (held okE nxE a.hard.log k)) (by omega) (by omega)) Tryz.call135 true [] [] [] trivial ?_
      have hhi := heldI_le a.next (held okI nxI a.yes (held okE nxE a.hard.log k)) (by omega)
      refine At.a 1 ?_
      refine At.done rfl ?_
      refine AW.seq ?_
      refine AW.r ?_
      refine At.a 2 ?_
      refine At.done rfl ?_
      refine AW.cD ((held okI nxI a.next (held okI nxI a.yes (held okE nxE a.hard.log k))) < 0) (fun h3 => ?_) (fun h3 => ?_)
      · skip
        refine AW.r ?_
        refine At.a 1 ?_
        refine At.done rfl ?_
        refine AW.ret ?_
        refine ⟨_, Sub.refl _ _, ?_⟩
        refine KF.conv (fun w => .int .i64 w) (fun w => []) (show (-1) = (heldRaft a k) from by unfold heldRaft; first | (simp [h1, h2, h3]; done) | (simp only [h1, h2, h3, if_false, if_true]; exact (held_neg nxI_ge (by omega) (by assumption)).symm)) ?_
        exact KF.m [] [.int .i64 (-1)]
      · skip
        refine AW.skip ?_
        refine AW.r ?_
        refine At.a 3 ?_
        refine At.c (laws_heldIntS_spec  a.match_ (held okI nxI a.next (held okI nxI a.yes (held okE nxE a.hard.log k))) (by omega) (by omega)) Tryz.call135 true [] [] [] trivial ?_
        have hhi := heldI_le a.match_ (held okI nxI a.next (held okI nxI a.yes (held okE nxE a.hard.log k))) (by omega)
        refine At.a 1 ?_
        refine At.done rfl ?_
        refine AW.seq ?_
        refine AW.r ?_
        refine At.a 2 ?_
        refine At.done rfl ?_
        refine AW.cD ((held okI nxI a.match_ (held okI nxI a.next (held okI nxI a.yes (held okE nxE a.hard.log k)))) < 0) (fun h4 => ?_) (fun h4 => ?_)
        · skip
          refine AW.r ?_
          refine At.a 1 ?_
          refine At.done rfl ?_
          refine AW.ret ?_
          refine ⟨_, Sub.refl _ _, ?_⟩
          refine KF.conv (fun w => .int .i64 w) (fun w => []) (show (-1) = (heldRaft a k) from by unfold heldRaft; first | (simp [h1, h2, h3, h4]; done) | (simp only [h1, h2, h3, h4, if_false, if_true]; exact (held_neg nxI_ge (by omega) (by assumption)).symm)) ?_
          exact KF.m [] [.int .i64 (-1)]
        · skip
          refine AW.skip ?_
          refine AW.r ?_
          refine At.a 2 ?_
          refine At.done rfl ?_
          refine AW.ret ?_
          refine ⟨_, Sub.refl _ _, ?_⟩
          refine KF.conv (fun w => .int .i64 w) (fun w => []) (show (held okI nxI a.match_ (held okI nxI a.next (held okI nxI a.yes (held okE nxE a.hard.log k)))) = (heldRaft a k) from by unfold heldRaft; first | (simp [h1, h2, h3, h4]; done) | (simp only [h1, h2, h3, h4, if_false, if_true]; exact (held_neg nxI_ge (by omega) (by assumption)).symm)) ?_
          exact KF.m [] [.int .i64 (held okI nxI a.match_ (held okI nxI a.next (held okI nxI a.yes (held okE nxE a.hard.log k))))]
set_option maxRecDepth 100000 in
set_option maxHeartbeats 4000000 in
theorem laws_heldRecS_spec  (a : List Rec) (k : Int) (ha : a.length ≤ 1048576) (hk : 0 ≤ k ∧ k + 20 * a.length ≤ 4611686018427387904) : FnSpec Tryz.prog 51 [.sl false 10 (a.map encRec), .int .i64 k] [] (.int .i64 (held okR nxR a k)) [] := by
  refine FnSpec.of 115 Tryz.func51 rfl Tryz.ntmps51 (by simp) (AW.weakK ?_)
  refine AW.r ?_
  refine At.a 1 ?_
  refine At.done rfl ?_
  refine AW.seq ?_
  refine AW.r ?_
  refine At.a 1 ?_
  refine At.done rfl ?_
  refine AW.block ?_
  refine AW.loopW (fun (x : Nat × Int) => match x with | (i, kk) => Go.Sy.mk [.sl false 10 (a.map encRec), .int .i64 kk, .un, .un, .un, .int .i64 (i : Int)] []) (fun (x : Nat × Int) => match x with | (i, kk) => i ≤ a.length ∧ 0 ≤ kk ∧ kk + 20 * ((a.length : Int) - i) ≤ 4611686018427387904 ∧ held okR nxR a k = held okR nxR (a.drop i) kk) (fun (x : Nat × Int) => match x with | (i, kk) => a.length - i) (0, k) ⟨by omega, by omega, by omega, by rw [List.drop_zero]⟩ (Sub.o [] [true, true, false, false, false, true]) ?_
  rintro ⟨i, kk⟩ ⟨hi, hkk, hkb, hR⟩
  refine AW.seq ?_
  refine AW.r ?_
  refine At.a 3 ?_
  refine At.sL 8 encRec a ?_
  refine At.a 1 ?_
  refine At.done rfl ?_
  refine AW.cD ((i : Int) < (a.length : Int)) (fun h1 => ?_) (fun h1 => ?_)
  · skip
    refine AW.skip ?_
    refine AW.seq ?_
    refine AW.block ?_
    refine AW.seq ?_
    refine AW.r ?_
    refine At.a 2 ?_
    refine At.iSl 37 14 (.tmp 12) (.tmp 13) false 10 (a.map encRec) .i64 (i : Int) 47 (by omega) (by simp only [List.length_map, List.length_append, List.length_take, List.length_drop, List.length_replicate, List.length_set, List.length_cons, List.length_nil]; omega) ?_
    refine At.a 1 ?_
    refine Exists.elim (show ∃ e, a[i]? = some e from ⟨_, List.getElem?_eq_getElem (by omega)⟩) fun e1 he1 => ?_
    refine At.lVp 3 16 (.tmp 15) false 10 (a.map encRec) i 0 false 1 (encRec e1) (.int .i64 e1.kind) (mapGet he1) ?_
    refine At.a 2 ?_
    refine At.done rfl ?_
    refine AW.cU e1.kind kk (fun h2 => ?_) (fun h2 => ?_)
    · skip
      refine AW.r ?_
      refine At.a 1 ?_
      refine At.done rfl ?_
      refine AW.ret ?_
      refine ⟨_, Sub.refl _ _, ?_⟩
      refine KF.conv (fun w => .int .i64 w) (fun w => []) (show (-1) = (held okR nxR a k) from by rw [hR, dropCons he1, held, if_neg (by simp [okR, h1, h2])]) ?_
      exact KF.m [] [.int .i64 (-1)]
    · skip
      refine AW.skip ?_
      refine AW.r ?_
      refine At.a 2 ?_
      refine At.sI 20 (kk + 1) (by omega) ?_
      refine At.a 1 ?_
      refine At.done rfl ?_
      refine AW.seq ?_
      refine AW.r ?_
      refine At.a 2 ?_
      refine At.iSl 37 23 (.tmp 21) (.tmp 22) false 10 (a.map encRec) .i64 (i : Int) 47 (by omega) (by simp only [List.length_map, List.length_append, List.length_take, List.length_drop, List.length_replicate, List.length_set, List.length_cons, List.length_nil]; omega) ?_
      refine At.a 1 ?_
      refine At.lVp 3 25 (.tmp 24) false 10 (a.map encRec) i 1 false 1 (encRec e1) (.int .i64 e1.term) (mapGet he1) ?_
      refine At.a 2 ?_
      refine At.done rfl ?_
      refine AW.cU e1.term (kk + 1) (fun h3 => ?_) (fun h3 => ?_)
      · skip
        refine AW.r ?_
        refine At.a 1 ?_
        refine At.done rfl ?_
        refine AW.ret ?_
        refine ⟨_, Sub.refl _ _, ?_⟩
        refine KF.conv (fun w => .int .i64 w) (fun w => []) (show (-1) = (held okR nxR a k) from by rw [hR, dropCons he1, held, if_neg (by simp [okR, h1, h2, h3])]) ?_
        exact KF.m [] [.int .i64 (-1)]
      · skip
        refine AW.skip ?_
        refine AW.r ?_
        refine At.a 2 ?_
        refine At.sJ 29 ((kk + 1) + 1) (kk + 2) (by omega) (by omega) ?_
        refine At.a 1 ?_
        refine At.done rfl ?_
        refine AW.seq ?_
        refine AW.r ?_
        refine At.a 2 ?_
        refine At.iSl 37 32 (.tmp 30) (.tmp 31) false 10 (a.map encRec) .i64 (i : Int) 47 (by omega) (by simp only [List.length_map, List.length_append, List.length_take, List.length_drop, List.length_replicate, List.length_set, List.length_cons, List.length_nil]; omega) ?_
        refine At.a 1 ?_
        refine At.lVp 3 34 (.tmp 33) false 10 (a.map encRec) i 2 false 1 (encRec e1) (.int .i64 e1.vote) (mapGet he1) ?_
        refine At.a 2 ?_
        refine At.done rfl ?_
        refine AW.cU e1.vote (kk + 2) (fun h4 => ?_) (fun h4 => ?_)
        · skip
          refine AW.r ?_
          refine At.a 1 ?_
          refine At.done rfl ?_
          refine AW.ret ?_
          refine ⟨_, Sub.refl _ _, ?_⟩
          refine KF.conv (fun w => .int .i64 w) (fun w => []) (show (-1) = (held okR nxR a k) from by rw [hR, dropCons he1, held, if_neg (by simp [okR, h1, h2, h3, h4])]) ?_
          exact KF.m [] [.int .i64 (-1)]
        · skip
          refine AW.skip ?_
          refine AW.r ?_
          refine At.a 2 ?_
          refine At.sJ 38 ((kk + 2) + 1) (kk + 3) (by omega) (by omega) ?_
          refine At.a 1 ?_
          refine At.done rfl ?_
          refine AW.seq ?_
          refine AW.r ?_
          refine At.a 2 ?_
          refine At.iSl 37 41 (.tmp 39) (.tmp 40) false 10 (a.map encRec) .i64 (i : Int) 47 (by omega) (by simp only [List.length_map, List.length_append, List.length_take, List.length_drop, List.length_replicate, List.length_set, List.length_cons, List.length_nil]; omega) ?_
          refine At.a 1 ?_
          refine At.lVp 3 43 (.tmp 42) false 10 (a.map encRec) i 3 false 1 (encRec e1) (.int .i64 e1.at_) (mapGet he1) ?_
          refine At.a 2 ?_
          refine At.done rfl ?_
          refine AW.cU e1.at_ (kk + 3) (fun h5 => ?_) (fun h5 => ?_)
          · skip
            refine AW.r ?_
            refine At.a 1 ?_
            refine At.done rfl ?_
            refine AW.ret ?_
            refine ⟨_, Sub.refl _ _, ?_⟩
            refine KF.conv (fun w => .int .i64 w) (fun w => []) (show (-1) = (held okR nxR a k) from by rw [hR, dropCons he1, held, if_neg (by simp [okR, h1, h2, h3, h4, h5])]) ?_
            exact KF.m [] [.int .i64 (-1)]
          · skip
            refine AW.skip ?_
            refine AW.r ?_
            refine At.a 2 ?_
            refine At.sJ 47 ((kk + 3) + 1) (kk + 4) (by omega) (by omega) ?_
            refine At.a 1 ?_
            refine At.done rfl ?_
            refine AW.seq ?_
            refine AW.r ?_
            refine At.a 2 ?_
            refine At.iSl 37 50 (.tmp 48) (.tmp 49) false 10 (a.map encRec) .i64 (i : Int) 47 (by omega) (by simp only [List.length_map, List.length_append, List.length_take, List.length_drop, List.length_replicate, List.length_set, List.length_cons, List.length_nil]; omega) ?_
            refine At.a 2 ?_
            refine At.lVp 3 53 (.tmp 52) false 10 (a.map encRec) i 4 false 1 (encRec e1) (.int .i64 e1.entry.term) (mapGet he1) ?_
            refine At.a 2 ?_
            refine At.done rfl ?_
            refine AW.cU e1.entry.term (kk + 4) (fun h6 => ?_) (fun h6 => ?_)
            · skip
              refine AW.r ?_
              refine At.a 1 ?_
              refine At.done rfl ?_
              refine AW.ret ?_
              refine ⟨_, Sub.refl _ _, ?_⟩
              refine KF.conv (fun w => .int .i64 w) (fun w => []) (show (-1) = (held okR nxR a k) from by rw [hR, dropCons he1, held, if_neg (by simp [okR, h1, h2, h3, h4, h5, h6])]) ?_
              exact KF.m [] [.int .i64 (-1)]
            · skip
              refine AW.skip ?_
              refine AW.r ?_
              refine At.a 2 ?_
              refine At.sJ 57 ((kk + 4) + 1) (kk + 5) (by omega) (by omega) ?_
              refine At.a 1 ?_
              refine At.done rfl ?_
              refine AW.seq ?_
              refine AW.r ?_
              refine At.a 2 ?_
              refine At.iSl 37 60 (.tmp 58) (.tmp 59) false 10 (a.map encRec) .i64 (i : Int) 47 (by omega) (by simp only [List.length_map, List.length_append, List.length_take, List.length_drop, List.length_replicate, List.length_set, List.length_cons, List.length_nil]; omega) ?_
              refine At.a 3 ?_
              refine At.lVp 3 64 (.tmp 63) false 10 (a.map encRec) i 5 false 1 (encRec e1) (.int .i64 e1.entry.cmd.kind) (mapGet he1) ?_
              refine At.a 2 ?_
              refine At.done rfl ?_
              refine AW.cU e1.entry.cmd.kind (kk + 5) (fun h7 => ?_) (fun h7 => ?_)
              · skip
                refine AW.r ?_
                refine At.a 1 ?_
                refine At.done rfl ?_
                refine AW.ret ?_
                refine ⟨_, Sub.refl _ _, ?_⟩
                refine KF.conv (fun w => .int .i64 w) (fun w => []) (show (-1) = (held okR nxR a k) from by rw [hR, dropCons he1, held, if_neg (by simp [okR, h1, h2, h3, h4, h5, h6, h7])]) ?_
                exact KF.m [] [.int .i64 (-1)]
              · skip
                refine AW.skip ?_
                refine AW.r ?_
                refine At.a 2 ?_
                refine At.sJ 68 ((kk + 5) + 1) (kk + 6) (by omega) (by omega) ?_
                refine At.a 1 ?_
                refine At.done rfl ?_
                refine AW.seq ?_
                refine AW.r ?_
                refine At.a 2 ?_
                refine At.iSl 37 71 (.tmp 69) (.tmp 70) false 10 (a.map encRec) .i64 (i : Int) 47 (by omega) (by simp only [List.length_map, List.length_append, List.length_take, List.length_drop, List.length_replicate, List.length_set, List.length_cons, List.length_nil]; omega) ?_
                refine At.a 3 ?_
                refine At.lVp 3 75 (.tmp 74) false 10 (a.map encRec) i 6 false 1 (encRec e1) (.int .i64 e1.entry.cmd.release) (mapGet he1) ?_
                refine At.a 2 ?_
                refine At.done rfl ?_
                refine AW.cU e1.entry.cmd.release (kk + 6) (fun h8 => ?_) (fun h8 => ?_)
                · skip
                  refine AW.r ?_
                  refine At.a 1 ?_
                  refine At.done rfl ?_
                  refine AW.ret ?_
                  refine ⟨_, Sub.refl _ _, ?_⟩
                  refine KF.conv (fun w => .int .i64 w) (fun w => []) (show (-1) = (held okR nxR a k) from by rw [hR, dropCons he1, held, if_neg (by simp [okR, h1, h2, h3, h4, h5, h6, h7, h8])]) ?_
                  exact KF.m [] [.int .i64 (-1)]
                · skip
                  refine AW.skip ?_
                  refine AW.r ?_
                  refine At.a 2 ?_
                  refine At.sJ 79 ((kk + 6) + 1) (kk + 7) (by omega) (by omega) ?_
                  refine At.a 1 ?_
                  refine At.done rfl ?_
                  refine AW.seq ?_
                  refine AW.r ?_
                  refine At.a 2 ?_
                  refine At.iSl 37 82 (.tmp 80) (.tmp 81) false 10 (a.map encRec) .i64 (i : Int) 47 (by omega) (by simp only [List.length_map, List.length_append, List.length_take, List.length_drop, List.length_replicate, List.length_set, List.length_cons, List.length_nil]; omega) ?_
                  refine At.a 3 ?_
                  refine At.lVp 3 86 (.tmp 85) false 10 (a.map encRec) i 7 false 1 (encRec e1) (.int .i64 e1.entry.cmd.node) (mapGet he1) ?_
                  refine At.a 2 ?_
                  refine At.done rfl ?_
                  refine AW.cU e1.entry.cmd.node (kk + 7) (fun h9 => ?_) (fun h9 => ?_)
                  · skip
                    refine AW.r ?_
                    refine At.a 1 ?_
                    refine At.done rfl ?_
                    refine AW.ret ?_
                    refine ⟨_, Sub.refl _ _, ?_⟩
                    refine KF.conv (fun w => .int .i64 w) (fun w => []) (show (-1) = (held okR nxR a k) from by rw [hR, dropCons he1, held, if_neg (by simp [okR, h1, h2, h3, h4, h5, h6, h7, h8, h9])]) ?_
                    exact KF.m [] [.int .i64 (-1)]
                  · skip
                    refine AW.skip ?_
                    refine AW.r ?_
                    refine At.a 2 ?_
                    refine At.sJ 90 ((kk + 7) + 1) (kk + 8) (by omega) (by omega) ?_
                    refine At.a 1 ?_
                    refine At.done rfl ?_
                    refine AW.seq ?_
                    refine AW.r ?_
                    refine At.a 2 ?_
                    refine At.iSl 37 93 (.tmp 91) (.tmp 92) false 10 (a.map encRec) .i64 (i : Int) 47 (by omega) (by simp only [List.length_map, List.length_append, List.length_take, List.length_drop, List.length_replicate, List.length_set, List.length_cons, List.length_nil]; omega) ?_
                    refine At.a 3 ?_
                    refine At.lVp 3 97 (.tmp 96) false 10 (a.map encRec) i 8 false 1 (encRec e1) (.int .i64 e1.entry.cmd.size) (mapGet he1) ?_
                    refine At.a 2 ?_
                    refine At.done rfl ?_
                    refine AW.cU e1.entry.cmd.size (kk + 8) (fun h10 => ?_) (fun h10 => ?_)
                    · skip
                      refine AW.r ?_
                      refine At.a 1 ?_
                      refine At.done rfl ?_
                      refine AW.ret ?_
                      refine ⟨_, Sub.refl _ _, ?_⟩
                      refine KF.conv (fun w => .int .i64 w) (fun w => []) (show (-1) = (held okR nxR a k) from by rw [hR, dropCons he1, held, if_neg (by simp [okR, h1, h2, h3, h4, h5, h6, h7, h8, h9, h10])]) ?_
                      exact KF.m [] [.int .i64 (-1)]
                    · skip
                      refine AW.skip ?_
                      refine AW.r ?_
                      refine At.a 2 ?_
                      refine At.sJ 101 ((kk + 8) + 1) (kk + 9) (by omega) (by omega) ?_
                      refine At.a 1 ?_
                      refine At.done rfl ?_
                      refine AW.seq ?_
                      refine AW.seq ?_
                      refine AW.regionD Tryz_mix (At.start ?_)
                      refine At.a 2 ?_
                      refine At.iSl 37 104 (.tmp 102) (.tmp 103) false 10 (a.map encRec) .i64 (i : Int) 47 (by omega) (by simp only [List.length_map, List.length_append, List.length_take, List.length_drop, List.length_replicate, List.length_set, List.length_cons, List.length_nil]; omega) ?_
                      refine At.a 3 ?_
                      refine At.lVp 9 108 (.tmp 107) false 10 (a.map encRec) i 9 false 1 (encRec e1) (.str e1.entry.cmd.digest) (mapGet he1) ?_
                      refine At.a 1 ?_
                      refine At.c (laws_markText_spec  (kk + 9) (by omega)) Tryz.call133 true [] [] [] trivial ?_
                      refine At.a 1 ?_
                      refine At.done rfl ⟨by kernel_rfl, ?_⟩
                      refine AW.cNE (e1.entry.cmd.digest.toList) ((markT (kk + 9)).toList) (fun h11 => ?_) (fun h11 => ?_)
                      · skip
                        refine AW.r ?_
                        refine At.a 1 ?_
                        refine At.done rfl ?_
                        refine AW.ret ?_
                        refine ⟨_, Sub.refl _ _, ?_⟩
                        refine KF.conv (fun w => .int .i64 w) (fun w => []) (show (-1) = (held okR nxR a k) from by rw [hR, dropCons he1, held, if_neg (by simp [okR, h1, h2, h3, h4, h5, h6, h7, h8, h9, h10, h11])]) ?_
                        exact KF.m [] [.int .i64 (-1)]
                      · skip
                        refine AW.skip ?_
                        refine AW.region (At.start ?_)
                        refine At.a 2 ?_
                        refine At.sJ 113 ((kk + 9) + 1) (kk + 10) (by omega) (by omega) ?_
                        refine At.a 1 ?_
                        refine At.done rfl ?_
                        refine AW.region (At.start ?_)
                        refine At.a 2 ?_
                        refine At.sI 11 ((i : Int) + 1) (by omega) ?_
                        refine At.a 1 ?_
                        refine At.done rfl ?_
                        exact ⟨(i + 1, (kk + 10)), ⟨by omega, by omega, by omega, by rw [hR, dropCons he1, held, if_pos (by simp [okR, h1, h2, h3, h4, h5, h6, h7, h8, h9, h10, h11])]; rfl⟩, (by simp only; omega), Sub.o [] [true, true, false, false, false, true]⟩
  · skip
    refine AW.exit ?_
    refine AW.r ?_
    refine At.a 2 ?_
    refine At.done rfl ?_
    refine AW.ret ?_
    refine ⟨_, Sub.refl _ _, ?_⟩
    refine KF.conv (fun w => .int .i64 w) (fun w => []) (show (kk) = (held okR nxR a k) from by rw [hR, List.drop_of_length_le (by omega)]; rfl) ?_
    exact KF.m [] [.int .i64 kk]
set_option maxRecDepth 100000 in
set_option maxHeartbeats 4000000 in
theorem laws_heldOutS_spec  (a : List Out) (k : Int) (ha : FewOuts a) (hk : 0 ≤ k ∧ k ≤ 4611686017427387904) : FnSpec Tryz.prog 52 [.sl false 17 (a.map encOutV), .int .i64 k] [] (.int .i64 (heldO a k)) [] := by
  obtain ⟨ha1, ha2⟩ := id ha
  refine FnSpec.of 191 Tryz.func52 rfl Tryz.ntmps52 (by simp) (AW.weakK ?_)
  refine AW.r ?_
  refine At.a 1 ?_
  refine At.done rfl ?_
  refine AW.seq ?_
  refine AW.r ?_
  refine At.a 1 ?_
  refine At.done rfl ?_
  refine AW.block ?_
  refine AW.loopW (fun (x : Nat × Int) => match x with | (i, kk) => Go.Sy.mk [.sl false 17 (a.map encOutV), .int .i64 kk, .un, .un, .un, .int .i64 (i : Int)] []) (fun (x : Nat × Int) => match x with | (i, kk) => i ≤ a.length ∧ 0 ≤ kk ∧ kk ≤ k + 1000 * i ∧ heldO a k = heldO (a.drop i) kk) (fun (x : Nat × Int) => match x with | (i, kk) => a.length - i) (0, k) ⟨by omega, by omega, by omega, by rw [List.drop_zero]⟩ (Sub.o [] [true, true, false, false, false, true]) ?_
  rintro ⟨i, kk⟩ ⟨hi, hkk, hkb, hR⟩
  refine AW.seq ?_
  refine AW.r ?_
  refine At.a 3 ?_
  refine At.sL 8 encOutV a ?_
  refine At.a 1 ?_
  refine At.done rfl ?_
  refine AW.cD ((i : Int) < (a.length : Int)) (fun h1 => ?_) (fun h1 => ?_)
  · skip
    refine AW.skip ?_
    refine AW.seq ?_
    refine AW.block ?_
    refine AW.seq ?_
    refine AW.r ?_
    refine At.a 2 ?_
    refine At.iSl 38 14 (.tmp 12) (.tmp 13) false 17 (a.map encOutV) .i64 (i : Int) 51 (by omega) (by simp only [List.length_map, List.length_append, List.length_take, List.length_drop, List.length_replicate, List.length_set, List.length_cons, List.length_nil]; omega) ?_
    refine At.a 1 ?_
    refine Exists.elim (show ∃ e, a[i]? = some e from ⟨_, List.getElem?_eq_getElem (by omega)⟩) fun e1 he1 => ?_
    have hen := ha2 _ (List.mem_of_getElem? he1)
    refine At.lVp 3 16 (.tmp 15) false 17 (a.map encOutV) i 0 false 1 (encOutV e1) (.int .i64 e1.to) (mapGet he1) ?_
    refine At.a 2 ?_
    refine At.done rfl ?_
    refine AW.cU e1.to kk (fun h2 => ?_) (fun h2 => ?_)
    · skip
      refine AW.r ?_
      refine At.a 1 ?_
      refine At.done rfl ?_
      refine AW.ret ?_
      refine ⟨_, Sub.refl _ _, ?_⟩
      refine KF.conv (fun w => .int .i64 w) (fun w => []) (show (-1) = (heldO a k) from by rw [hR, dropCons he1, heldO, if_neg (by simp [okM, h1, h2])]) ?_
      exact KF.m [] [.int .i64 (-1)]
    · skip
      refine AW.skip ?_
      refine AW.r ?_
      refine At.a 2 ?_
      refine At.sI 20 (kk + 1) (by omega) ?_
      refine At.a 1 ?_
      refine At.done rfl ?_
      refine AW.seq ?_
      refine AW.r ?_
      refine At.a 2 ?_
      refine At.iSl 38 23 (.tmp 21) (.tmp 22) false 17 (a.map encOutV) .i64 (i : Int) 51 (by omega) (by simp only [List.length_map, List.length_append, List.length_take, List.length_drop, List.length_replicate, List.length_set, List.length_cons, List.length_nil]; omega) ?_
      refine At.a 2 ?_
      refine At.lVp 3 26 (.tmp 25) false 17 (a.map encOutV) i 1 false 1 (encOutV e1) (.int .i64 e1.msg.kind) (mapGet he1) ?_
      refine At.a 2 ?_
      refine At.done rfl ?_
      refine AW.cU e1.msg.kind (kk + 1) (fun h3 => ?_) (fun h3 => ?_)
      · skip
        refine AW.r ?_
        refine At.a 1 ?_
        refine At.done rfl ?_
        refine AW.ret ?_
        refine ⟨_, Sub.refl _ _, ?_⟩
        refine KF.conv (fun w => .int .i64 w) (fun w => []) (show (-1) = (heldO a k) from by rw [hR, dropCons he1, heldO, if_neg (by simp [okM, h1, h2, h3])]) ?_
        exact KF.m [] [.int .i64 (-1)]
      · skip
        refine AW.skip ?_
        refine AW.r ?_
        refine At.a 2 ?_
        refine At.sJ 30 ((kk + 1) + 1) (kk + 2) (by omega) (by omega) ?_
        refine At.a 1 ?_
        refine At.done rfl ?_
        refine AW.seq ?_
        refine AW.r ?_
        refine At.a 2 ?_
        refine At.iSl 38 33 (.tmp 31) (.tmp 32) false 17 (a.map encOutV) .i64 (i : Int) 51 (by omega) (by simp only [List.length_map, List.length_append, List.length_take, List.length_drop, List.length_replicate, List.length_set, List.length_cons, List.length_nil]; omega) ?_
        refine At.a 2 ?_
        refine At.lVp 3 36 (.tmp 35) false 17 (a.map encOutV) i 2 false 1 (encOutV e1) (.int .i64 e1.msg.from_) (mapGet he1) ?_
        refine At.a 2 ?_
        refine At.done rfl ?_
        refine AW.cU e1.msg.from_ (kk + 2) (fun h4 => ?_) (fun h4 => ?_)
        · skip
          refine AW.r ?_
          refine At.a 1 ?_
          refine At.done rfl ?_
          refine AW.ret ?_
          refine ⟨_, Sub.refl _ _, ?_⟩
          refine KF.conv (fun w => .int .i64 w) (fun w => []) (show (-1) = (heldO a k) from by rw [hR, dropCons he1, heldO, if_neg (by simp [okM, h1, h2, h3, h4])]) ?_
          exact KF.m [] [.int .i64 (-1)]
        · skip
          refine AW.skip ?_
          refine AW.r ?_
          refine At.a 2 ?_
          refine At.sJ 40 ((kk + 2) + 1) (kk + 3) (by omega) (by omega) ?_
          refine At.a 1 ?_
          refine At.done rfl ?_
          refine AW.seq ?_
          refine AW.r ?_
          refine At.a 2 ?_
          refine At.iSl 38 43 (.tmp 41) (.tmp 42) false 17 (a.map encOutV) .i64 (i : Int) 51 (by omega) (by simp only [List.length_map, List.length_append, List.length_take, List.length_drop, List.length_replicate, List.length_set, List.length_cons, List.length_nil]; omega) ?_
          refine At.a 2 ?_
          refine At.lVp 3 46 (.tmp 45) false 17 (a.map encOutV) i 3 false 1 (encOutV e1) (.int .i64 e1.msg.term) (mapGet he1) ?_
          refine At.a 2 ?_
          refine At.done rfl ?_
          refine AW.cU e1.msg.term (kk + 3) (fun h5 => ?_) (fun h5 => ?_)
          · skip
            refine AW.r ?_
            refine At.a 1 ?_
            refine At.done rfl ?_
            refine AW.ret ?_
            refine ⟨_, Sub.refl _ _, ?_⟩
            refine KF.conv (fun w => .int .i64 w) (fun w => []) (show (-1) = (heldO a k) from by rw [hR, dropCons he1, heldO, if_neg (by simp [okM, h1, h2, h3, h4, h5])]) ?_
            exact KF.m [] [.int .i64 (-1)]
          · skip
            refine AW.skip ?_
            refine AW.r ?_
            refine At.a 2 ?_
            refine At.sJ 50 ((kk + 3) + 1) (kk + 4) (by omega) (by omega) ?_
            refine At.a 1 ?_
            refine At.done rfl ?_
            refine AW.seq ?_
            refine AW.r ?_
            refine At.a 2 ?_
            refine At.iSl 38 53 (.tmp 51) (.tmp 52) false 17 (a.map encOutV) .i64 (i : Int) 51 (by omega) (by simp only [List.length_map, List.length_append, List.length_take, List.length_drop, List.length_replicate, List.length_set, List.length_cons, List.length_nil]; omega) ?_
            refine At.a 2 ?_
            refine At.lVp 3 56 (.tmp 55) false 17 (a.map encOutV) i 4 false 1 (encOutV e1) (.int .i64 e1.msg.at_) (mapGet he1) ?_
            refine At.a 2 ?_
            refine At.done rfl ?_
            refine AW.cU e1.msg.at_ (kk + 4) (fun h6 => ?_) (fun h6 => ?_)
            · skip
              refine AW.r ?_
              refine At.a 1 ?_
              refine At.done rfl ?_
              refine AW.ret ?_
              refine ⟨_, Sub.refl _ _, ?_⟩
              refine KF.conv (fun w => .int .i64 w) (fun w => []) (show (-1) = (heldO a k) from by rw [hR, dropCons he1, heldO, if_neg (by simp [okM, h1, h2, h3, h4, h5, h6])]) ?_
              exact KF.m [] [.int .i64 (-1)]
            · skip
              refine AW.skip ?_
              refine AW.r ?_
              refine At.a 2 ?_
              refine At.sJ 60 ((kk + 4) + 1) (kk + 5) (by omega) (by omega) ?_
              refine At.a 1 ?_
              refine At.done rfl ?_
              refine AW.seq ?_
              refine AW.r ?_
              refine At.a 2 ?_
              refine At.iSl 38 63 (.tmp 61) (.tmp 62) false 17 (a.map encOutV) .i64 (i : Int) 51 (by omega) (by simp only [List.length_map, List.length_append, List.length_take, List.length_drop, List.length_replicate, List.length_set, List.length_cons, List.length_nil]; omega) ?_
              refine At.a 2 ?_
              refine At.lVp 3 66 (.tmp 65) false 17 (a.map encOutV) i 5 false 1 (encOutV e1) (.int .i64 e1.msg.atTerm) (mapGet he1) ?_
              refine At.a 2 ?_
              refine At.done rfl ?_
              refine AW.cU e1.msg.atTerm (kk + 5) (fun h7 => ?_) (fun h7 => ?_)
              · skip
                refine AW.r ?_
                refine At.a 1 ?_
                refine At.done rfl ?_
                refine AW.ret ?_
                refine ⟨_, Sub.refl _ _, ?_⟩
                refine KF.conv (fun w => .int .i64 w) (fun w => []) (show (-1) = (heldO a k) from by rw [hR, dropCons he1, heldO, if_neg (by simp [okM, h1, h2, h3, h4, h5, h6, h7])]) ?_
                exact KF.m [] [.int .i64 (-1)]
              · skip
                refine AW.skip ?_
                refine AW.r ?_
                refine At.a 2 ?_
                refine At.sJ 70 ((kk + 5) + 1) (kk + 6) (by omega) (by omega) ?_
                refine At.a 1 ?_
                refine At.done rfl ?_
                refine AW.seq ?_
                refine AW.r ?_
                refine At.a 2 ?_
                refine At.iSl 38 73 (.tmp 71) (.tmp 72) false 17 (a.map encOutV) .i64 (i : Int) 51 (by omega) (by simp only [List.length_map, List.length_append, List.length_take, List.length_drop, List.length_replicate, List.length_set, List.length_cons, List.length_nil]; omega) ?_
                refine At.a 2 ?_
                refine At.lVp 3 76 (.tmp 75) false 17 (a.map encOutV) i 6 false 1 (encOutV e1) (.int .i64 e1.msg.commit) (mapGet he1) ?_
                refine At.a 2 ?_
                refine At.done rfl ?_
                refine AW.cU e1.msg.commit (kk + 6) (fun h8 => ?_) (fun h8 => ?_)
                · skip
                  refine AW.r ?_
                  refine At.a 1 ?_
                  refine At.done rfl ?_
                  refine AW.ret ?_
                  refine ⟨_, Sub.refl _ _, ?_⟩
                  refine KF.conv (fun w => .int .i64 w) (fun w => []) (show (-1) = (heldO a k) from by rw [hR, dropCons he1, heldO, if_neg (by simp [okM, h1, h2, h3, h4, h5, h6, h7, h8])]) ?_
                  exact KF.m [] [.int .i64 (-1)]
                · skip
                  refine AW.skip ?_
                  refine AW.r ?_
                  refine At.a 2 ?_
                  refine At.sJ 80 ((kk + 6) + 1) (kk + 7) (by omega) (by omega) ?_
                  refine At.a 1 ?_
                  refine At.done rfl ?_
                  refine AW.seq ?_
                  refine AW.r ?_
                  refine At.a 2 ?_
                  refine At.iSl 38 83 (.tmp 81) (.tmp 82) false 17 (a.map encOutV) .i64 (i : Int) 51 (by omega) (by simp only [List.length_map, List.length_append, List.length_take, List.length_drop, List.length_replicate, List.length_set, List.length_cons, List.length_nil]; omega) ?_
                  refine At.a 2 ?_
                  refine At.lVp 4 86 (.tmp 85) false 17 (a.map encOutV) i 7 false 1 (encOutV e1) (.bool e1.msg.yes) (mapGet he1) ?_
                  refine At.a 1 ?_
                  refine At.div (t := 3) (u := 3) (d := 88) (op := .rem) (x := .tmp 87) (y := .const (.int .i64 3)) (kd := .i64) (a := kk + 7) (b := 3) (by kernel_rfl) (by kernel_rfl) (by kernel_rfl) (by kernel_rfl) (by omega) (.int .i64 ((kk + 7).tmod 3)) (.inr ⟨rfl, rfl⟩) ?_
                  refine At.say 88 (.int .i64 ((kk + 7).tmod 3)) (.int .i64 ((kk + 7) % 3)) (by kernel_rfl) (sayRem (by omega)) ?_
                  refine At.a 1 ?_
                  refine At.eqB (t := 4) (u := 4) (d := 90) (op := .neq) (x := .tmp 86) (y := .tmp 89) (a := e1.msg.yes) (b := (((kk + 7) % 3) == 0)) (by kernel_rfl) (by kernel_rfl) (by kernel_rfl) (by kernel_rfl) (by kernel_rfl) (.bool (!(e1.msg.yes == (((kk + 7) % 3) == 0)))) (.inr ⟨rfl, rfl⟩) ?_
                  refine At.done rfl ?_
                  refine AW.cNB (e1.msg.yes == (((kk + 7) % 3) == 0)) (fun h9 => ?_) (fun h9 => ?_)
                  · skip
                    refine AW.r ?_
                    refine At.a 1 ?_
                    refine At.done rfl ?_
                    refine AW.ret ?_
                    refine ⟨_, Sub.refl _ _, ?_⟩
                    refine KF.conv (fun w => .int .i64 w) (fun w => []) (show (-1) = (heldO a k) from by rw [hR, dropCons he1, heldO, if_neg (by simp [okM, h1, h2, h3, h4, h5, h6, h7, h8, h9])]) ?_
                    exact KF.m [] [.int .i64 (-1)]
                  · skip
                    refine AW.skip ?_
                    refine AW.r ?_
                    refine At.a 2 ?_
                    refine At.sJ 92 ((kk + 7) + 1) (kk + 8) (by omega) (by omega) ?_
                    refine At.a 1 ?_
                    refine At.done rfl ?_
                    refine AW.seq ?_
                    refine AW.r ?_
                    refine At.a 2 ?_
                    refine At.iSl 38 95 (.tmp 93) (.tmp 94) false 17 (a.map encOutV) .i64 (i : Int) 51 (by omega) (by simp only [List.length_map, List.length_append, List.length_take, List.length_drop, List.length_replicate, List.length_set, List.length_cons, List.length_nil]; omega) ?_
                    refine At.a 2 ?_
                    refine At.lVp 3 98 (.tmp 97) false 17 (a.map encOutV) i 8 false 1 (encOutV e1) (.int .i64 e1.msg.release) (mapGet he1) ?_
                    refine At.a 2 ?_
                    refine At.done rfl ?_
                    refine AW.cU e1.msg.release (kk + 8) (fun h10 => ?_) (fun h10 => ?_)
                    · skip
                      refine AW.r ?_
                      refine At.a 1 ?_
                      refine At.done rfl ?_
                      refine AW.ret ?_
                      refine ⟨_, Sub.refl _ _, ?_⟩
                      refine KF.conv (fun w => .int .i64 w) (fun w => []) (show (-1) = (heldO a k) from by rw [hR, dropCons he1, heldO, if_neg (by simp [okM, h1, h2, h3, h4, h5, h6, h7, h8, h9, h10])]) ?_
                      exact KF.m [] [.int .i64 (-1)]
                    · skip
                      refine AW.skip ?_
                      refine AW.r ?_
                      refine At.a 2 ?_
                      refine At.sJ 102 ((kk + 8) + 1) (kk + 9) (by omega) (by omega) ?_
                      refine At.a 1 ?_
                      refine At.done rfl ?_
                      refine AW.seq ?_
                      refine AW.r ?_
                      refine At.a 2 ?_
                      refine At.iSl 38 105 (.tmp 103) (.tmp 104) false 17 (a.map encOutV) .i64 (i : Int) 51 (by omega) (by simp only [List.length_map, List.length_append, List.length_take, List.length_drop, List.length_replicate, List.length_set, List.length_cons, List.length_nil]; omega) ?_
                      refine At.a 2 ?_
                      refine At.lVp 3 108 (.tmp 107) false 17 (a.map encOutV) i 9 false 1 (encOutV e1) (.int .i64 e1.msg.part) (mapGet he1) ?_
                      refine At.a 2 ?_
                      refine At.done rfl ?_
                      refine AW.cU e1.msg.part (kk + 9) (fun h11 => ?_) (fun h11 => ?_)
                      · skip
                        refine AW.r ?_
                        refine At.a 1 ?_
                        refine At.done rfl ?_
                        refine AW.ret ?_
                        refine ⟨_, Sub.refl _ _, ?_⟩
                        refine KF.conv (fun w => .int .i64 w) (fun w => []) (show (-1) = (heldO a k) from by rw [hR, dropCons he1, heldO, if_neg (by simp [okM, h1, h2, h3, h4, h5, h6, h7, h8, h9, h10, h11])]) ?_
                        exact KF.m [] [.int .i64 (-1)]
                      · skip
                        refine AW.skip ?_
                        refine AW.r ?_
                        refine At.a 2 ?_
                        refine At.sJ 112 ((kk + 9) + 1) (kk + 10) (by omega) (by omega) ?_
                        refine At.a 1 ?_
                        refine At.done rfl ?_
                        refine AW.seq ?_
                        refine AW.seq ?_
                        refine AW.regionD Tryz_mix (At.start ?_)
                        refine At.a 2 ?_
                        refine At.iSl 38 115 (.tmp 113) (.tmp 114) false 17 (a.map encOutV) .i64 (i : Int) 51 (by omega) (by simp only [List.length_map, List.length_append, List.length_take, List.length_drop, List.length_replicate, List.length_set, List.length_cons, List.length_nil]; omega) ?_
                        refine At.a 2 ?_
                        refine At.lVp 9 118 (.tmp 117) false 17 (a.map encOutV) i 10 false 1 (encOutV e1) (.str e1.msg.bytes) (mapGet he1) ?_
                        refine At.a 1 ?_
                        refine At.c (laws_markText_spec  (kk + 10) (by omega)) Tryz.call133 true [] [] [] trivial ?_
                        refine At.a 1 ?_
                        refine At.done rfl ⟨by kernel_rfl, ?_⟩
                        refine AW.cNE (e1.msg.bytes.toList) ((markT (kk + 10)).toList) (fun h12 => ?_) (fun h12 => ?_)
                        · skip
                          refine AW.r ?_
                          refine At.a 1 ?_
                          refine At.done rfl ?_
                          refine AW.ret ?_
                          refine ⟨_, Sub.refl _ _, ?_⟩
                          refine KF.conv (fun w => .int .i64 w) (fun w => []) (show (-1) = (heldO a k) from by rw [hR, dropCons he1, heldO, if_neg (by simp [okM, h1, h2, h3, h4, h5, h6, h7, h8, h9, h10, h11, h12])]) ?_
                          exact KF.m [] [.int .i64 (-1)]
                        · skip
                          refine AW.skip ?_
                          refine AW.r ?_
                          refine At.a 2 ?_
                          refine At.sJ 123 ((kk + 10) + 1) (kk + 11) (by omega) (by omega) ?_
                          refine At.a 1 ?_
                          refine At.done rfl ?_
                          refine AW.seq ?_
                          refine AW.r ?_
                          refine At.a 2 ?_
                          refine At.iSl 38 126 (.tmp 124) (.tmp 125) false 17 (a.map encOutV) .i64 (i : Int) 51 (by omega) (by simp only [List.length_map, List.length_append, List.length_take, List.length_drop, List.length_replicate, List.length_set, List.length_cons, List.length_nil]; omega) ?_
                          refine At.a 3 ?_
                          refine At.lVp 3 130 (.tmp 129) false 17 (a.map encOutV) i 11 false 1 (encOutV e1) (.int .i64 e1.msg.cmd.kind) (mapGet he1) ?_
                          refine At.a 2 ?_
                          refine At.done rfl ?_
                          refine AW.cU e1.msg.cmd.kind (kk + 11) (fun h13 => ?_) (fun h13 => ?_)
                          · skip
                            refine AW.r ?_
                            refine At.a 1 ?_
                            refine At.done rfl ?_
                            refine AW.ret ?_
                            refine ⟨_, Sub.refl _ _, ?_⟩
                            refine KF.conv (fun w => .int .i64 w) (fun w => []) (show (-1) = (heldO a k) from by rw [hR, dropCons he1, heldO, if_neg (by simp [okM, h1, h2, h3, h4, h5, h6, h7, h8, h9, h10, h11, h12, h13])]) ?_
                            exact KF.m [] [.int .i64 (-1)]
                          · skip
                            refine AW.skip ?_
                            refine AW.r ?_
                            refine At.a 2 ?_
                            refine At.sJ 134 ((kk + 11) + 1) (kk + 12) (by omega) (by omega) ?_
                            refine At.a 1 ?_
                            refine At.done rfl ?_
                            refine AW.seq ?_
                            refine AW.r ?_
                            refine At.a 2 ?_
                            refine At.iSl 38 137 (.tmp 135) (.tmp 136) false 17 (a.map encOutV) .i64 (i : Int) 51 (by omega) (by simp only [List.length_map, List.length_append, List.length_take, List.length_drop, List.length_replicate, List.length_set, List.length_cons, List.length_nil]; omega) ?_
                            refine At.a 3 ?_
                            refine At.lVp 3 141 (.tmp 140) false 17 (a.map encOutV) i 12 false 1 (encOutV e1) (.int .i64 e1.msg.cmd.release) (mapGet he1) ?_
                            refine At.a 2 ?_
                            refine At.done rfl ?_
                            refine AW.cU e1.msg.cmd.release (kk + 12) (fun h14 => ?_) (fun h14 => ?_)
                            · skip
                              refine AW.r ?_
                              refine At.a 1 ?_
                              refine At.done rfl ?_
                              refine AW.ret ?_
                              refine ⟨_, Sub.refl _ _, ?_⟩
                              refine KF.conv (fun w => .int .i64 w) (fun w => []) (show (-1) = (heldO a k) from by rw [hR, dropCons he1, heldO, if_neg (by simp [okM, h1, h2, h3, h4, h5, h6, h7, h8, h9, h10, h11, h12, h13, h14])]) ?_
                              exact KF.m [] [.int .i64 (-1)]
                            · skip
                              refine AW.skip ?_
                              refine AW.r ?_
                              refine At.a 2 ?_
                              refine At.sJ 145 ((kk + 12) + 1) (kk + 13) (by omega) (by omega) ?_
                              refine At.a 1 ?_
                              refine At.done rfl ?_
                              refine AW.seq ?_
                              refine AW.r ?_
                              refine At.a 2 ?_
                              refine At.iSl 38 148 (.tmp 146) (.tmp 147) false 17 (a.map encOutV) .i64 (i : Int) 51 (by omega) (by simp only [List.length_map, List.length_append, List.length_take, List.length_drop, List.length_replicate, List.length_set, List.length_cons, List.length_nil]; omega) ?_
                              refine At.a 3 ?_
                              refine At.lVp 3 152 (.tmp 151) false 17 (a.map encOutV) i 13 false 1 (encOutV e1) (.int .i64 e1.msg.cmd.node) (mapGet he1) ?_
                              refine At.a 2 ?_
                              refine At.done rfl ?_
                              refine AW.cU e1.msg.cmd.node (kk + 13) (fun h15 => ?_) (fun h15 => ?_)
                              · skip
                                refine AW.r ?_
                                refine At.a 1 ?_
                                refine At.done rfl ?_
                                refine AW.ret ?_
                                refine ⟨_, Sub.refl _ _, ?_⟩
                                refine KF.conv (fun w => .int .i64 w) (fun w => []) (show (-1) = (heldO a k) from by rw [hR, dropCons he1, heldO, if_neg (by simp [okM, h1, h2, h3, h4, h5, h6, h7, h8, h9, h10, h11, h12, h13, h14, h15])]) ?_
                                exact KF.m [] [.int .i64 (-1)]
                              · skip
                                refine AW.skip ?_
                                refine AW.r ?_
                                refine At.a 2 ?_
                                refine At.sJ 156 ((kk + 13) + 1) (kk + 14) (by omega) (by omega) ?_
                                refine At.a 1 ?_
                                refine At.done rfl ?_
                                refine AW.seq ?_
                                refine AW.r ?_
                                refine At.a 2 ?_
                                refine At.iSl 38 159 (.tmp 157) (.tmp 158) false 17 (a.map encOutV) .i64 (i : Int) 51 (by omega) (by simp only [List.length_map, List.length_append, List.length_take, List.length_drop, List.length_replicate, List.length_set, List.length_cons, List.length_nil]; omega) ?_
                                refine At.a 3 ?_
                                refine At.lVp 3 163 (.tmp 162) false 17 (a.map encOutV) i 14 false 1 (encOutV e1) (.int .i64 e1.msg.cmd.size) (mapGet he1) ?_
                                refine At.a 2 ?_
                                refine At.done rfl ?_
                                refine AW.cU e1.msg.cmd.size (kk + 14) (fun h16 => ?_) (fun h16 => ?_)
                                · skip
                                  refine AW.r ?_
                                  refine At.a 1 ?_
                                  refine At.done rfl ?_
                                  refine AW.ret ?_
                                  refine ⟨_, Sub.refl _ _, ?_⟩
                                  refine KF.conv (fun w => .int .i64 w) (fun w => []) (show (-1) = (heldO a k) from by rw [hR, dropCons he1, heldO, if_neg (by simp [okM, h1, h2, h3, h4, h5, h6, h7, h8, h9, h10, h11, h12, h13, h14, h15, h16])]) ?_
                                  exact KF.m [] [.int .i64 (-1)]
                                · skip
                                  refine AW.skip ?_
                                  refine AW.r ?_
                                  refine At.a 2 ?_
                                  refine At.sJ 167 ((kk + 14) + 1) (kk + 15) (by omega) (by omega) ?_
                                  refine At.a 1 ?_
                                  refine At.done rfl ?_
                                  refine AW.seq ?_
                                  refine AW.seq ?_
                                  refine AW.regionD Tryz_mix (At.start ?_)
                                  refine At.a 2 ?_
                                  refine At.iSl 38 170 (.tmp 168) (.tmp 169) false 17 (a.map encOutV) .i64 (i : Int) 51 (by omega) (by simp only [List.length_map, List.length_append, List.length_take, List.length_drop, List.length_replicate, List.length_set, List.length_cons, List.length_nil]; omega) ?_
                                  refine At.a 3 ?_
                                  refine At.lVp 9 174 (.tmp 173) false 17 (a.map encOutV) i 15 false 1 (encOutV e1) (.str e1.msg.cmd.digest) (mapGet he1) ?_
                                  refine At.a 1 ?_
                                  refine At.c (laws_markText_spec  (kk + 15) (by omega)) Tryz.call133 true [] [] [] trivial ?_
                                  refine At.a 1 ?_
                                  refine At.done rfl ⟨by kernel_rfl, ?_⟩
                                  refine AW.cNE (e1.msg.cmd.digest.toList) ((markT (kk + 15)).toList) (fun h17 => ?_) (fun h17 => ?_)
                                  · skip
                                    refine AW.r ?_
                                    refine At.a 1 ?_
                                    refine At.done rfl ?_
                                    refine AW.ret ?_
                                    refine ⟨_, Sub.refl _ _, ?_⟩
                                    refine KF.conv (fun w => .int .i64 w) (fun w => []) (show (-1) = (heldO a k) from by rw [hR, dropCons he1, heldO, if_neg (by simp [okM, h1, h2, h3, h4, h5, h6, h7, h8, h9, h10, h11, h12, h13, h14, h15, h16, h17])]) ?_
                                    exact KF.m [] [.int .i64 (-1)]
                                  · skip
                                    refine AW.skip ?_
                                    refine AW.r ?_
                                    refine At.a 2 ?_
                                    refine At.sJ 179 ((kk + 15) + 1) (kk + 16) (by omega) (by omega) ?_
                                    refine At.a 1 ?_
                                    refine At.done rfl ?_
                                    refine AW.r ?_
                                    refine At.a 2 ?_
                                    refine At.iSl 38 182 (.tmp 180) (.tmp 181) false 17 (a.map encOutV) .i64 (i : Int) 51 (by omega) (by simp only [List.length_map, List.length_append, List.length_take, List.length_drop, List.length_replicate, List.length_set, List.length_cons, List.length_nil]; omega) ?_
                                    refine At.a 2 ?_
                                    refine At.lVp 24 185 (.tmp 184) false 17 (a.map encOutV) i 16 false 1 (encOutV e1) (.sl false 6 (e1.msg.entries.map encEnt)) (mapGet he1) ?_
                                    refine At.a 1 ?_
                                    refine At.c (laws_heldEntryS_spec  e1.msg.entries (kk + 16) (by omega) (by omega)) Tryz.call136 true [] [] [] trivial ?_
                                    have hhe := heldE_le e1.msg.entries (kk + 16) (by omega)
                                    refine At.a 1 ?_
                                    refine At.done rfl ?_
                                    refine AW.r ?_
                                    refine At.a 2 ?_
                                    refine At.done rfl ?_
                                    refine AW.cD ((held okE nxE e1.msg.entries (kk + 16)) < 0) (fun h18 => ?_) (fun h18 => ?_)
                                    · skip
                                      refine AW.r ?_
                                      refine At.a 1 ?_
                                      refine At.done rfl ?_
                                      refine AW.ret ?_
                                      refine ⟨_, Sub.refl _ _, ?_⟩
                                      refine KF.conv (fun w => .int .i64 w) (fun w => []) (show (-1) = (heldO a k) from by rw [hR, dropCons he1, heldO, if_pos (by simp [okM, h1, h2, h3, h4, h5, h6, h7, h8, h9, h10, h11, h12, h13, h14, h15, h16, h17, h18]), if_pos (by assumption)]) ?_
                                      exact KF.m [] [.int .i64 (-1)]
                                    · skip
                                      refine AW.skip ?_
                                      refine AW.region (At.start ?_)
                                      refine At.a 2 ?_
                                      refine At.sI 11 ((i : Int) + 1) (by omega) ?_
                                      refine At.a 1 ?_
                                      refine At.done rfl ?_
                                      exact ⟨(i + 1, (held okE nxE e1.msg.entries (kk + 16))), ⟨by omega, by omega, by omega, by rw [hR, dropCons he1, heldO, if_pos (by simp [okM, h1, h2, h3, h4, h5, h6, h7, h8, h9, h10, h11, h12, h13, h14, h15, h16, h17, h18]), if_neg (by assumption)]⟩, (by simp only; omega), Sub.o [] [true, true, false, false, false, true]⟩
  · skip
    refine AW.exit ?_
    refine AW.r ?_
    refine At.a 2 ?_
    refine At.done rfl ?_
    refine AW.ret ?_
    refine ⟨_, Sub.refl _ _, ?_⟩
    refine KF.conv (fun w => .int .i64 w) (fun w => []) (show (kk) = (heldO a k) from by rw [hR, List.drop_of_length_le (by omega)]; rfl) ?_
    exact KF.m [] [.int .i64 kk]
end Go.Proofs.YtlmadhahghiedaaGreat
