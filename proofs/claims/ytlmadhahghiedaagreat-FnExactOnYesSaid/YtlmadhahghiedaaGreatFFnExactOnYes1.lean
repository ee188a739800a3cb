/- The contracts of the functions that FnExactOnYes reaches (each: what it answers, said over values), printed by a program of this session (wip/sy/g/gen.py). -/
import Derived.Test.YtlmadhahghiedaaGreatSyY
import Derived.Test.YtlmadhahghiedaaGreatProg
set_option linter.unusedVariables false
set_option linter.unusedSimpArgs false
namespace Go.Proofs.YtlmadhahghiedaaGreat
open Go Go.Sy Go.Proofs
def encOut (o : Out) : V := encOutWith (.own 45 6 (o.msg.entries.map encEnt)) o
theorem frzOut (l : List Out) : FrzIs (l.map encOut) (l.map encOutV) := frzOf _ (fun _ => ⟨rfl, frz17 _⟩)
theorem Tryz_mix : Tryz.prog.follows .mixedOrders = true := by kernel_rfl
set_option maxRecDepth 100000 in
set_option maxHeartbeats 4000000 in
theorem laws_szCmd_spec  (a : Cmd) (left : Int) (h0 : 0 ≤ left ∧ left ≤ 1048576) (hd : (a.digest.size : Int) ≤ big) : FnSpec Tryz.prog 118 [.agg [.int .i64 a.kind, .int .i64 a.release, .int .i64 a.node, .int .i64 a.size, .str a.digest], .int .i64 left] [] (.int .i64 (szB left a.digest.size)) [] := by
  unfold big at hd
  refine FnSpec.of 13 Tryz.func118 rfl Tryz.ntmps118 (by simp) (AW.weakK ?_)
  refine AW.r ?_
  refine At.a 2 ?_
  refine At.done rfl ?_
  refine AW.r ?_
  refine At.a 5 ?_
  refine At.sI 9 (left - (a.digest.size : Int)) (by omega) ?_
  refine At.a 1 ?_
  refine At.done rfl ?_
  refine AW.seq ?_
  refine AW.r ?_
  refine At.a 2 ?_
  refine At.done rfl ?_
  refine AW.cD ((left - (a.digest.size : Int)) < 0) (fun h1 => ?_) (fun h1 => ?_)
  · skip
    refine AW.r ?_
    refine At.a 1 ?_
    refine At.done rfl ?_
    refine AW.ret ?_
    refine ⟨_, Sub.refl _ _, ?_⟩
    refine KF.conv (fun w => .int .i64 w) (fun w => []) (show (-1) = (szB left a.digest.size) from by unfold szB; omega) ?_
    exact KF.m [] [.int .i64 (-1)]
  · skip
    refine AW.skip ?_
    refine AW.r ?_
    refine At.a 2 ?_
    refine At.done rfl ?_
    refine AW.ret ?_
    refine ⟨_, Sub.refl _ _, ?_⟩
    refine KF.conv (fun w => .int .i64 w) (fun w => []) (show (left - (a.digest.size : Int)) = (szB left a.digest.size) from by unfold szB; omega) ?_
    exact KF.m [] [.int .i64 (left - (a.digest.size : Int))]
set_option maxRecDepth 100000 in
set_option maxHeartbeats 4000000 in
theorem laws_szEntry_spec  (a : Ent) (left : Int) (h0 : 0 ≤ left ∧ left ≤ 1048576) (hd : (a.cmd.digest.size : Int) ≤ big) : FnSpec Tryz.prog 164 [.agg [.int .i64 a.term, .int .i64 a.cmd.kind, .int .i64 a.cmd.release, .int .i64 a.cmd.node, .int .i64 a.cmd.size, .str a.cmd.digest], .int .i64 left] [] (.int .i64 (szB left a.cmd.digest.size)) [] := by
  refine FnSpec.of 12 Tryz.func164 rfl Tryz.ntmps164 (by simp) (AW.weakK ?_)
  refine AW.r ?_
  refine At.a 2 ?_
  refine At.done rfl ?_
  refine AW.r ?_
  refine At.a 3 ?_
  refine At.c (laws_szCmd_spec  a.cmd left (by omega) (by omega)) Tryz.call118 true [] [] [] trivial ?_
  refine At.a 1 ?_
  refine At.done rfl ?_
  refine AW.seq ?_
  refine AW.r ?_
  refine At.a 2 ?_
  refine At.done rfl ?_
  refine AW.cD ((szB left a.cmd.digest.size) < 0) (fun h1 => ?_) (fun h1 => ?_)
  · skip
    refine AW.r ?_
    refine At.a 1 ?_
    refine At.done rfl ?_
    refine AW.ret ?_
    refine ⟨_, Sub.refl _ _, ?_⟩
    refine KF.conv (fun w => .int .i64 w) (fun w => []) (show (-1) = (szB left a.cmd.digest.size) from by have := szB_cases left a.cmd.digest.size; omega) ?_
    exact KF.m [] [.int .i64 (-1)]
  · skip
    have h1s := szB_small h1
    refine AW.skip ?_
    refine AW.r ?_
    refine At.a 2 ?_
    refine At.done rfl ?_
    refine AW.ret ?_
    refine ⟨_, Sub.refl _ _, ?_⟩
    exact KF.m [] [.int .i64 (szB left a.cmd.digest.size)]
set_option maxRecDepth 100000 in
set_option maxHeartbeats 4000000 in
theorem laws_szEntryS_spec  (a : List Ent) (left : Int) (h0 : 0 ≤ left ∧ left ≤ 1048576) (hd : BigE a) : FnSpec Tryz.prog 119 [.sl false 6 (a.map encEnt), .int .i64 left] [] (.int .i64 (szEnts a left)) [] := by
  obtain ⟨hd1, hd2⟩ := id hd
  unfold big at hd1
  refine FnSpec.of 27 Tryz.func119 rfl Tryz.ntmps119 (by simp) (AW.weakK ?_)
  refine AW.r ?_
  refine At.a 1 ?_
  refine At.done rfl ?_
  refine AW.r ?_
  refine At.a 3 ?_
  refine At.sL 8 encEnt a ?_
  refine At.a 1 ?_
  refine At.sI 9 (left - (a.length : Int)) (by omega) ?_
  refine At.a 1 ?_
  refine At.done rfl ?_
  refine AW.seq ?_
  refine AW.r ?_
  refine At.a 2 ?_
  refine At.done rfl ?_
  refine AW.cD ((left - (a.length : Int)) < 0) (fun h1 => ?_) (fun h1 => ?_)
  · skip
    refine AW.r ?_
    refine At.a 1 ?_
    refine At.done rfl ?_
    refine AW.ret ?_
    refine ⟨_, Sub.refl _ _, ?_⟩
    refine KF.conv (fun w => .int .i64 w) (fun w => []) (show (-1) = (szEnts a left) from by unfold szEnts; rw [if_pos (by omega)]) ?_
    exact KF.m [] [.int .i64 (-1)]
  · skip
    refine AW.skip ?_
    refine AW.seq ?_
    refine AW.r ?_
    refine At.a 1 ?_
    refine At.done rfl ?_
    refine AW.block ?_
    refine AW.loopW (fun (x : Nat × Int) => match x with | (k, lf) => Go.Sy.mk [.sl false 6 (a.map encEnt), .int .i64 lf, .un, .un, .un, .int .i64 (k : Int)] []) (fun (x : Nat × Int) => match x with | (k, lf) => k ≤ a.length ∧ 0 ≤ lf ∧ lf ≤ 1048576 ∧ szEnts a left = szGo (a.drop k) lf) (fun (x : Nat × Int) => match x with | (k, lf) => a.length - k) (0, left - (a.length : Int)) ⟨by omega, by omega, by omega, by unfold szEnts; rw [if_neg (by omega)]; rfl⟩ (Sub.o [] [true, true, false, false, false, true]) ?_
    rintro ⟨k, lf⟩ ⟨hk, hl0, hl1, hR⟩
    refine AW.seq ?_
    refine AW.r ?_
    refine At.a 3 ?_
    refine At.sL 14 encEnt a ?_
    refine At.a 1 ?_
    refine At.done rfl ?_
    refine AW.cD ((k : Int) < (a.length : Int)) (fun h2 => ?_) (fun h2 => ?_)
    · skip
      refine AW.skip ?_
      refine AW.seq ?_
      refine AW.block ?_
      refine AW.r ?_
      refine At.a 2 ?_
      refine At.iSl 61 20 (.tmp 18) (.tmp 19) false 6 (a.map encEnt) .i64 (k : Int) 157 (by omega) (by simp only [List.length_map, List.length_append, List.length_take, List.length_drop, List.length_replicate, List.length_set, List.length_cons, List.length_nil]; omega) ?_
      refine Exists.elim (show ∃ e, a[k]? = some e from ⟨_, List.getElem?_eq_getElem (by omega)⟩) fun e1 he1 => ?_
      refine At.lVp 157 21 (.tmp 20) false 6 (a.map encEnt) k 0 true 6 (encEnt e1) (.agg [.int .i64 e1.term, .int .i64 e1.cmd.kind, .int .i64 e1.cmd.release, .int .i64 e1.cmd.node, .int .i64 e1.cmd.size, .str e1.cmd.digest]) (mapGet he1) ?_
      refine At.a 1 ?_
      refine At.c (laws_szEntry_spec  e1 lf (by omega) (hd2 _ (List.mem_of_getElem? he1))) Tryz.call164 true [] [] [] trivial ?_
      refine At.a 1 ?_
      refine At.done rfl ?_
      refine AW.r ?_
      refine At.a 2 ?_
      refine At.done rfl ?_
      refine AW.cD ((szB lf e1.cmd.digest.size) < 0) (fun h3 => ?_) (fun h3 => ?_)
      · skip
        refine AW.r ?_
        refine At.a 1 ?_
        refine At.done rfl ?_
        refine AW.ret ?_
        refine ⟨_, Sub.refl _ _, ?_⟩
        refine KF.conv (fun w => .int .i64 w) (fun w => []) (show (-1) = (szEnts a left) from by rw [hR, dropCons he1, szGo]; have := szB_cases lf e1.cmd.digest.size; rw [if_pos (by omega)]) ?_
        exact KF.m [] [.int .i64 (-1)]
      · skip
        have h3s := szB_small h3
        refine AW.skip ?_
        refine AW.region (At.start ?_)
        refine At.a 2 ?_
        refine At.sI 17 ((k : Int) + 1) (by omega) ?_
        refine At.a 1 ?_
        refine At.done rfl ?_
        exact ⟨(k + 1, szB lf e1.cmd.digest.size), ⟨by omega, by have := szB_cases lf e1.cmd.digest.size; omega, by have := szB_cases lf e1.cmd.digest.size; omega, by have := szB_cases lf e1.cmd.digest.size; rw [hR, dropCons he1, szGo, if_neg (by omega)]; congr 1; omega⟩, by simp only; omega, Sub.o [] [true, true, false, false, false, true]⟩
    · skip
      refine AW.exit ?_
      refine AW.r ?_
      refine At.a 2 ?_
      refine At.done rfl ?_
      refine AW.ret ?_
      refine ⟨_, Sub.refl _ _, ?_⟩
      refine KF.conv (fun w => .int .i64 w) (fun w => []) (show (lf) = (szEnts a left) from by rw [hR, List.drop_of_length_le (by omega)]; rfl) ?_
      exact KF.m [] [.int .i64 lf]
set_option maxRecDepth 100000 in
set_option maxHeartbeats 4000000 in
theorem laws_szHard_spec  (a : Hard) (left : Int) (h0 : 0 ≤ left ∧ left ≤ 1048576) (hd : BigE a.log) : FnSpec Tryz.prog 116 [.agg [.int .i64 a.term, .int .i64 a.vote, .sl false 6 (a.log.map encEnt)], .int .i64 left] [] (.int .i64 (szEnts a.log left)) [] := by
  refine FnSpec.of 12 Tryz.func116 rfl Tryz.ntmps116 (by simp) (AW.weakK ?_)
  refine AW.r ?_
  refine At.a 2 ?_
  refine At.done rfl ?_
  refine AW.r ?_
  refine At.a 3 ?_
  refine At.c (laws_szEntryS_spec  a.log left (by omega) hd) Tryz.call119 true [] [] [] trivial ?_
  refine At.a 1 ?_
  refine At.done rfl ?_
  refine AW.seq ?_
  refine AW.r ?_
  refine At.a 2 ?_
  refine At.done rfl ?_
  refine AW.cD ((szEnts a.log left) < 0) (fun h1 => ?_) (fun h1 => ?_)
  · skip
    refine AW.r ?_
    refine At.a 1 ?_
    refine At.done rfl ?_
    refine AW.ret ?_
    refine ⟨_, Sub.refl _ _, ?_⟩
    refine KF.conv (fun w => .int .i64 w) (fun w => []) (show (-1) = (szEnts a.log left) from (szEnts_neg h1).symm) ?_
    exact KF.m [] [.int .i64 (-1)]
  · skip
    have h1s := szEnts_small h1
    refine AW.skip ?_
    refine AW.r ?_
    refine At.a 2 ?_
    refine At.done rfl ?_
    refine AW.ret ?_
    refine ⟨_, Sub.refl _ _, ?_⟩
    exact KF.m [] [.int .i64 (szEnts a.log left)]
set_option maxRecDepth 100000 in
set_option maxHeartbeats 4000000 in
theorem laws_szIntS_spec  (a : List Int) (left : Int) (h0 : 0 ≤ left ∧ left ≤ 1048576) (hd : (a.length : Int) ≤ big) : FnSpec Tryz.prog 117 [.sl false 1 (a.map encI), .int .i64 left] [] (.int .i64 (szB left a.length)) [] := by
  unfold big at hd
  refine FnSpec.of 12 Tryz.func117 rfl Tryz.ntmps117 (by simp) (AW.weakK ?_)
  refine AW.r ?_
  refine At.a 1 ?_
  refine At.done rfl ?_
  refine AW.r ?_
  refine At.a 3 ?_
  refine At.sL 7 encI a ?_
  refine At.a 1 ?_
  refine At.sI 8 (left - (a.length : Int)) (by omega) ?_
  refine At.a 1 ?_
  refine At.done rfl ?_
  refine AW.seq ?_
  refine AW.r ?_
  refine At.a 2 ?_
  refine At.done rfl ?_
  refine AW.cD ((left - (a.length : Int)) < 0) (fun h1 => ?_) (fun h1 => ?_)
  · skip
    refine AW.r ?_
    refine At.a 1 ?_
    refine At.done rfl ?_
    refine AW.ret ?_
    refine ⟨_, Sub.refl _ _, ?_⟩
    refine KF.conv (fun w => .int .i64 w) (fun w => []) (show (-1) = (szB left a.length) from by unfold szB; omega) ?_
    exact KF.m [] [.int .i64 (-1)]
  · skip
    refine AW.skip ?_
    refine AW.r ?_
    refine At.a 2 ?_
    refine At.done rfl ?_
    refine AW.ret ?_
    refine ⟨_, Sub.refl _ _, ?_⟩
    refine KF.conv (fun w => .int .i64 w) (fun w => []) (show (left - (a.length : Int)) = (szB left a.length) from by unfold szB; omega) ?_
    exact KF.m [] [.int .i64 (left - (a.length : Int))]
set_option maxRecDepth 100000 in
set_option maxHeartbeats 4000000 in
theorem laws_szRaft_spec  (a : Raft) (left : Int) (h0 : 0 ≤ left ∧ left ≤ 1048576) (hd : BigR a) : FnSpec Tryz.prog 38 [.agg [.int .i64 a.id, .int .i64 a.of_, .int .i64 a.role, .int .i64 a.commit, .int .i64 a.hard.term, .int .i64 a.hard.vote, .sl false 6 (a.hard.log.map encEnt), .sl false 1 (a.yes.map encI), .sl false 1 (a.next.map encI), .sl false 1 (a.match_.map encI)], .int .i64 left] [] (.int .i64 (szRaft a left)) [] := by
  obtain ⟨d1, d2, d3, d4⟩ := id hd
  refine FnSpec.of 30 Tryz.func38 rfl Tryz.ntmps38 (by simp) (AW.weakK ?_)
  refine AW.r ?_
  refine At.a 2 ?_
  refine At.done rfl ?_
  refine AW.r ?_
  refine At.a 3 ?_
  refine At.c (laws_szHard_spec  a.hard left (by omega) d1) Tryz.call116 true [] [] [] trivial ?_
  refine At.a 1 ?_
  refine At.done rfl ?_
  refine AW.seq ?_
  refine AW.r ?_
  refine At.a 2 ?_
  refine At.done rfl ?_
  refine AW.cD ((szEnts a.hard.log left) < 0) (fun h1 => ?_) (fun h1 => ?_)
  · skip
    refine AW.r ?_
    refine At.a 1 ?_
    refine At.done rfl ?_
    refine AW.ret ?_
    refine ⟨_, Sub.refl _ _, ?_⟩
    refine KF.conv (fun w => .int .i64 w) (fun w => []) (show (-1) = (szRaft a left) from by unfold szRaft; first | (simp [*]; done) | (simp only [*, if_false, if_true]; exact (szB_neg h4).symm)) ?_
    exact KF.m [] [.int .i64 (-1)]
  · skip
    have h1s := szEnts_small h1
    refine AW.skip ?_
    refine AW.r ?_
    refine At.a 3 ?_
    refine At.c (laws_szIntS_spec  a.yes (szEnts a.hard.log left) (by omega) (by omega)) Tryz.call117 true [] [] [] trivial ?_
    refine At.a 1 ?_
    refine At.done rfl ?_
    refine AW.seq ?_
    refine AW.r ?_
    refine At.a 2 ?_
    refine At.done rfl ?_
    refine AW.cD ((szB (szEnts a.hard.log left) a.yes.length) < 0) (fun h2 => ?_) (fun h2 => ?_)
    · skip
      refine AW.r ?_
      refine At.a 1 ?_
      refine At.done rfl ?_
      refine AW.ret ?_
      refine ⟨_, Sub.refl _ _, ?_⟩
      refine KF.conv (fun w => .int .i64 w) (fun w => []) (show (-1) = (szRaft a left) from by unfold szRaft; first | (simp [*]; done) | (simp only [*, if_false, if_true]; exact (szB_neg h4).symm)) ?_
      exact KF.m [] [.int .i64 (-1)]
    · skip
      have h2s := szB_small h2
      refine AW.skip ?_
      refine AW.r ?_
      refine At.a 3 ?_
      refine At.c (laws_szIntS_spec  a.next (szB (szEnts a.hard.log left) a.yes.length) (by omega) (by omega)) Tryz.call117 true [] [] [] trivial ?_
      refine At.a 1 ?_
      refine At.done rfl ?_
      refine AW.seq ?_
      refine AW.r ?_
      refine At.a 2 ?_
      refine At.done rfl ?_
      refine AW.cD ((szB (szB (szEnts a.hard.log left) a.yes.length) a.next.length) < 0) (fun h3 => ?_) (fun h3 => ?_)
      · skip
        refine AW.r ?_
        refine At.a 1 ?_
        refine At.done rfl ?_
        refine AW.ret ?_
        refine ⟨_, Sub.refl _ _, ?_⟩
        refine KF.conv (fun w => .int .i64 w) (fun w => []) (show (-1) = (szRaft a left) from by unfold szRaft; first | (simp [*]; done) | (simp only [*, if_false, if_true]; exact (szB_neg h4).symm)) ?_
        exact KF.m [] [.int .i64 (-1)]
      · skip
        have h3s := szB_small h3
        refine AW.skip ?_
        refine AW.r ?_
        refine At.a 3 ?_
        refine At.c (laws_szIntS_spec  a.match_ (szB (szB (szEnts a.hard.log left) a.yes.length) a.next.length) (by omega) (by omega)) Tryz.call117 true [] [] [] trivial ?_
        refine At.a 1 ?_
        refine At.done rfl ?_
        refine AW.seq ?_
        refine AW.r ?_
        refine At.a 2 ?_
        refine At.done rfl ?_
        refine AW.cD ((szB (szB (szB (szEnts a.hard.log left) a.yes.length) a.next.length) a.match_.length) < 0) (fun h4 => ?_) (fun h4 => ?_)
        · skip
          refine AW.r ?_
          refine At.a 1 ?_
          refine At.done rfl ?_
          refine AW.ret ?_
          refine ⟨_, Sub.refl _ _, ?_⟩
          refine KF.conv (fun w => .int .i64 w) (fun w => []) (show (-1) = (szRaft a left) from by unfold szRaft; first | (simp [*]; done) | (simp only [*, if_false, if_true]; exact (szB_neg h4).symm)) ?_
          exact KF.m [] [.int .i64 (-1)]
        · skip
          have h4s := szB_small h4
          refine AW.skip ?_
          refine AW.r ?_
          refine At.a 2 ?_
          refine At.done rfl ?_
          refine AW.ret ?_
          refine ⟨_, Sub.refl _ _, ?_⟩
          refine KF.conv (fun w => .int .i64 w) (fun w => []) (show (szB (szB (szB (szEnts a.hard.log left) a.yes.length) a.next.length) a.match_.length) = (szRaft a left) from by unfold szRaft; first | (simp [*]; done) | (simp only [*, if_false, if_true]; exact (szB_neg h4).symm)) ?_
          exact KF.m [] [.int .i64 (szB (szB (szB (szEnts a.hard.log left) a.yes.length) a.next.length) a.match_.length)]
set_option maxRecDepth 100000 in
set_option maxHeartbeats 4000000 in
theorem laws_szMsg_spec  (a : Msg) (left : Int) (h0 : 0 ≤ left ∧ left ≤ 1048576) (hd : BigM a) : FnSpec Tryz.prog 39 [.agg [.int .i64 a.kind, .int .i64 a.from_, .int .i64 a.term, .int .i64 a.at_, .int .i64 a.atTerm, .int .i64 a.commit, .bool a.yes, .int .i64 a.release, .int .i64 a.part, .str a.bytes, .int .i64 a.cmd.kind, .int .i64 a.cmd.release, .int .i64 a.cmd.node, .int .i64 a.cmd.size, .str a.cmd.digest, .sl false 6 (a.entries.map encEnt)], .int .i64 left] [] (.int .i64 (szMsg a left)) [] := by
  obtain ⟨d1, d2, d3⟩ := id hd
  unfold big at d1
  refine FnSpec.of 25 Tryz.func39 rfl Tryz.ntmps39 (by simp) (AW.weakK ?_)
  refine AW.r ?_
  refine At.a 2 ?_
  refine At.done rfl ?_
  refine AW.r ?_
  refine At.a 5 ?_
  refine At.sI 9 (left - (a.bytes.size : Int)) (by omega) ?_
  refine At.a 1 ?_
  refine At.done rfl ?_
  refine AW.seq ?_
  refine AW.r ?_
  refine At.a 2 ?_
  refine At.done rfl ?_
  refine AW.cD ((left - (a.bytes.size : Int)) < 0) (fun h1 => ?_) (fun h1 => ?_)
  · skip
    refine AW.r ?_
    refine At.a 1 ?_
    refine At.done rfl ?_
    refine AW.ret ?_
    refine ⟨_, Sub.refl _ _, ?_⟩
    refine KF.conv (fun w => .int .i64 w) (fun w => []) (show (-1) = (szMsg a left) from by have q1 := szB_cases left a.bytes.size; unfold szMsg; first | (rw [if_pos (by omega)]; done) | (rw [if_neg (by omega), show szB left a.bytes.size = left - a.bytes.size from by omega]; first | (rw [if_pos (by assumption)]; done) | (rw [if_neg (by assumption)]; done) | (rw [if_neg (by assumption)]; exact (szEnts_neg (by assumption)).symm))) ?_
    exact KF.m [] [.int .i64 (-1)]
  · skip
    refine AW.skip ?_
    refine AW.r ?_
    refine At.a 3 ?_
    refine At.c (laws_szCmd_spec  a.cmd (left - (a.bytes.size : Int)) (by omega) d2) Tryz.call118 true [] [] [] trivial ?_
    refine At.a 1 ?_
    refine At.done rfl ?_
    refine AW.seq ?_
    refine AW.r ?_
    refine At.a 2 ?_
    refine At.done rfl ?_
    refine AW.cD ((szB (left - (a.bytes.size : Int)) a.cmd.digest.size) < 0) (fun h2 => ?_) (fun h2 => ?_)
    · skip
      refine AW.r ?_
      refine At.a 1 ?_
      refine At.done rfl ?_
      refine AW.ret ?_
      refine ⟨_, Sub.refl _ _, ?_⟩
      refine KF.conv (fun w => .int .i64 w) (fun w => []) (show (-1) = (szMsg a left) from by have q1 := szB_cases left a.bytes.size; unfold szMsg; first | (rw [if_pos (by omega)]; done) | (rw [if_neg (by omega), show szB left a.bytes.size = left - a.bytes.size from by omega]; first | (rw [if_pos (by assumption)]; done) | (rw [if_neg (by assumption)]; done) | (rw [if_neg (by assumption)]; exact (szEnts_neg (by assumption)).symm))) ?_
      exact KF.m [] [.int .i64 (-1)]
    · skip
      have h2s := szB_small h2
      refine AW.skip ?_
      refine AW.r ?_
      refine At.a 3 ?_
      refine At.c (laws_szEntryS_spec  a.entries (szB (left - (a.bytes.size : Int)) a.cmd.digest.size) (by omega) d3) Tryz.call119 true [] [] [] trivial ?_
      refine At.a 1 ?_
      refine At.done rfl ?_
      refine AW.seq ?_
      refine AW.r ?_
      refine At.a 2 ?_
      refine At.done rfl ?_
      refine AW.cD ((szEnts a.entries (szB (left - (a.bytes.size : Int)) a.cmd.digest.size)) < 0) (fun h3 => ?_) (fun h3 => ?_)
      · skip
        refine AW.r ?_
        refine At.a 1 ?_
        refine At.done rfl ?_
        refine AW.ret ?_
        refine ⟨_, Sub.refl _ _, ?_⟩
        refine KF.conv (fun w => .int .i64 w) (fun w => []) (show (-1) = (szMsg a left) from by have q1 := szB_cases left a.bytes.size; unfold szMsg; first | (rw [if_pos (by omega)]; done) | (rw [if_neg (by omega), show szB left a.bytes.size = left - a.bytes.size from by omega]; first | (rw [if_pos (by assumption)]; done) | (rw [if_neg (by assumption)]; done) | (rw [if_neg (by assumption)]; exact (szEnts_neg (by assumption)).symm))) ?_
        exact KF.m [] [.int .i64 (-1)]
      · skip
        have h3s := szEnts_small h3
        refine AW.skip ?_
        refine AW.r ?_
        refine At.a 2 ?_
        refine At.done rfl ?_
        refine AW.ret ?_
        refine ⟨_, Sub.refl _ _, ?_⟩
        refine KF.conv (fun w => .int .i64 w) (fun w => []) (show (szEnts a.entries (szB (left - (a.bytes.size : Int)) a.cmd.digest.size)) = (szMsg a left) from by have q1 := szB_cases left a.bytes.size; unfold szMsg; first | (rw [if_pos (by omega)]; done) | (rw [if_neg (by omega), show szB left a.bytes.size = left - a.bytes.size from by omega]; first | (rw [if_pos (by assumption)]; done) | (rw [if_neg (by assumption)]; done) | (rw [if_neg (by assumption)]; exact (szEnts_neg (by assumption)).symm))) ?_
        exact KF.m [] [.int .i64 (szEnts a.entries (szB (left - (a.bytes.size : Int)) a.cmd.digest.size))]
set_option maxRecDepth 100000 in
set_option maxHeartbeats 4000000 in
theorem laws_toCmd_spec  (a : Cmd) : FnSpec Tryz.prog 122 [.agg [.int .i64 a.kind, .int .i64 a.release, .int .i64 a.node, .int .i64 a.size, .str a.digest]] [] (.agg [.int .i64 a.kind, .int .i64 a.release, .int .i64 a.node, .int .i64 a.size, .str a.digest]) [] := by
  refine FnSpec.of 20 Tryz.func122 rfl Tryz.ntmps122 (by simp) (AW.weakK ?_)
  refine AW.r ?_
  refine At.a 2 ?_
  refine At.done rfl ?_
  refine AW.r ?_
  refine At.a 1 ?_
  refine At.done rfl ?_
  refine AW.r ?_
  refine At.a 4 ?_
  refine At.done rfl ?_
  refine AW.r ?_
  refine At.a 4 ?_
  refine At.done rfl ?_
  refine AW.r ?_
  refine At.a 4 ?_
  refine At.done rfl ?_
  refine AW.r ?_
  refine At.a 4 ?_
  refine At.done rfl ?_
  refine AW.r ?_
  refine At.a 4 ?_
  refine At.done rfl ?_
  refine AW.r ?_
  refine At.a 2 ?_
  refine At.done rfl ?_
  refine AW.ret ?_
  refine ⟨_, Sub.refl _ _, ?_⟩
  exact KF.m [] [.agg [.int .i64 a.kind, .int .i64 a.release, .int .i64 a.node, .int .i64 a.size, .str a.digest]]
set_option maxRecDepth 100000 in
set_option maxHeartbeats 4000000 in
theorem laws_toEntry_spec  (a : Ent) : FnSpec Tryz.prog 165 [.agg [.int .i64 a.term, .int .i64 a.cmd.kind, .int .i64 a.cmd.release, .int .i64 a.cmd.node, .int .i64 a.cmd.size, .str a.cmd.digest]] [] (.agg [.int .i64 a.term, .int .i64 a.cmd.kind, .int .i64 a.cmd.release, .int .i64 a.cmd.node, .int .i64 a.cmd.size, .str a.cmd.digest]) [] := by
  refine FnSpec.of 12 Tryz.func165 rfl Tryz.ntmps165 (by simp) (AW.weakK ?_)
  refine AW.r ?_
  refine At.a 2 ?_
  refine At.done rfl ?_
  refine AW.r ?_
  refine At.a 1 ?_
  refine At.done rfl ?_
  refine AW.r ?_
  refine At.a 4 ?_
  refine At.done rfl ?_
  refine AW.r ?_
  refine At.a 2 ?_
  refine At.c (laws_toCmd_spec  a.cmd ) Tryz.call122 true [] [] [] trivial ?_
  refine At.a 2 ?_
  refine At.done rfl ?_
  refine AW.r ?_
  refine At.a 2 ?_
  refine At.done rfl ?_
  refine AW.ret ?_
  refine ⟨_, Sub.refl _ _, ?_⟩
  exact KF.m [] [.agg [.int .i64 a.term, .int .i64 a.cmd.kind, .int .i64 a.cmd.release, .int .i64 a.cmd.node, .int .i64 a.cmd.size, .str a.cmd.digest]]
set_option maxRecDepth 100000 in
set_option maxHeartbeats 4000000 in
theorem laws_toEntryS_spec  (a : List Ent) (ha : a.length ≤ 1048576) : FnSpec Tryz.prog 123 [.sl false 6 (a.map encEnt)] [] (.ref 0) [.arr 45 6 (a.map encEnt)] := by
  refine FnSpec.of 23 Tryz.func123 rfl Tryz.ntmps123 (by simp) (AW.weakK ?_)
  refine AW.r ?_
  refine At.a 1 ?_
  refine At.done rfl ?_
  refine AW.r ?_
  refine At.a 2 ?_
  refine At.sL 6 encEnt a ?_
  refine At.make (t := 24) (d := 7) (e := 45) (es := 6) (bytes := 56) (x := .tmp 6) (y := .tmp 6) (ka := .i64) (kb := .i64) (zs := [.int .i64 0, .int .i64 0, .int .i64 0, .int .i64 0, .int .i64 0, .str (⟨#[]⟩ : ByteArray)]) 107 a.length ((List.replicate a.length (⟨0, ⟨0, 0, 0, 0, (⟨#[]⟩ : ByteArray)⟩⟩ : Ent)).map encEnt) (by kernel_rfl) (by kernel_rfl) (by kernel_rfl) (by kernel_rfl) (by kernel_rfl) (by omega) (by omega) (by rw [List.map_replicate]; rfl) ?_
  refine At.a 1 ?_
  refine At.done rfl ?_
  refine AW.seq ?_
  refine AW.r ?_
  refine At.a 1 ?_
  refine At.done rfl ?_
  refine AW.block ?_
  refine AW.loopW (fun (k : Nat) => Go.Sy.mk [.sl false 6 (a.map encEnt), .un, .un, .ref 107, .int .i64 (k : Int)] [(107, .arr 45 6 ((a.take k ++ List.replicate (a.length - k) zEnt).map encEnt))]) (fun (k : Nat) => k ≤ a.length) (fun (k : Nat) => a.length - k) 0 (by omega) (Sub.o [(107, 107)] [true, false, false, true, true]) ?_
  rintro k hk
  refine AW.seq ?_
  refine AW.r ?_
  refine At.a 3 ?_
  refine At.sL 10 encEnt a ?_
  refine At.a 1 ?_
  refine At.done rfl ?_
  refine AW.cD ((k : Int) < (a.length : Int)) (fun h1 => ?_) (fun h1 => ?_)
  · skip
    refine AW.skip ?_
    refine AW.seq ?_
    refine AW.block ?_
    refine AW.region (At.start ?_)
    refine At.a 4 ?_
    refine At.iSl 61 18 (.tmp 16) (.tmp 17) false 6 (a.map encEnt) .i64 (k : Int) 157 (by omega) (by simp only [List.length_map, List.length_append, List.length_take, List.length_drop, List.length_replicate, List.length_set, List.length_cons, List.length_nil]; omega) ?_
    refine Exists.elim (show ∃ e, a[k]? = some e from ⟨_, List.getElem?_eq_getElem (by omega)⟩) fun e1 he1 => ?_
    refine At.lVp 157 19 (.tmp 18) false 6 (a.map encEnt) k 0 true 6 (encEnt e1) (.agg [.int .i64 e1.term, .int .i64 e1.cmd.kind, .int .i64 e1.cmd.release, .int .i64 e1.cmd.node, .int .i64 e1.cmd.size, .str e1.cmd.digest]) (mapGet he1) ?_
    refine At.c (laws_toEntry_spec  e1 ) Tryz.call165 true [] [] [] trivial ?_
    refine At.iRf 24 21 (.tmp 14) (.tmp 15) 107 ((a.take k ++ List.replicate (a.length - k) zEnt).map encEnt) .i64 (k : Int) 45 6 (by omega) (by simp only [List.length_map, List.length_append, List.length_take, List.length_drop, List.length_replicate, List.length_set, List.length_cons, List.length_nil]; omega) ?_
    refine Exists.elim (show ∃ e, (a.take k ++ List.replicate (a.length - k) zEnt)[k]? = some e from ⟨_, List.getElem?_eq_getElem (by simp only [List.length_map, List.length_append, List.length_take, List.length_drop, List.length_replicate, List.length_set, List.length_cons, List.length_nil]; omega)⟩) fun e2 he2 => ?_
    refine At.sEl 45 107 45 6 k 0 (.tmp 21) (.tmp 20) ((a.take k ++ List.replicate (a.length - k) zEnt).map encEnt) ((a.take (k + 1) ++ List.replicate (a.length - (k + 1)) zEnt).map encEnt) [.int .i64 e1.term, .int .i64 e1.cmd.kind, .int .i64 e1.cmd.release, .int .i64 e1.cmd.node, .int .i64 e1.cmd.size, .str e1.cmd.digest] (.agg [.int .i64 e1.term, .int .i64 e1.cmd.kind, .int .i64 e1.cmd.release, .int .i64 e1.cmd.node, .int .i64 e1.cmd.size, .str e1.cmd.digest]) (encEnt e2) (encEnt e1) (mapGet he2) (stepToV (by assumption)) ?_
    refine At.done rfl ?_
    refine AW.region (At.start ?_)
    refine At.a 2 ?_
    refine At.sI 13 ((k : Int) + 1) (by omega) ?_
    refine At.a 1 ?_
    refine At.done rfl ?_
    exact ⟨k + 1, (by omega), (by omega), Sub.o [(107, 107)] [true, false, false, true, true]⟩
  · skip
    refine AW.exit ?_
    refine AW.r ?_
    refine At.a 2 ?_
    refine At.done rfl ?_
    refine AW.ret ?_
    refine ⟨_, Sub.refl _ _, ?_⟩
    refine KF.conv (fun w => .ref 0) (fun w => [.arr 45 6 (w.map encEnt)]) (show (a.take k ++ List.replicate (a.length - k) zEnt) = (a) from endTo (by omega)) ?_
    exact KF.m [(107, 0)] [.ref 107]
set_option maxRecDepth 100000 in
set_option maxHeartbeats 4000000 in
theorem laws_toHard_spec  (a : Hard) (ha : a.log.length ≤ 1048576) : FnSpec Tryz.prog 120 [.agg [.int .i64 a.term, .int .i64 a.vote, .sl false 6 (a.log.map encEnt)]] [] (.agg [.int .i64 a.term, .int .i64 a.vote, .ref 0]) [.arr 45 6 (a.log.map encEnt)] := by
  refine FnSpec.of 15 Tryz.func120 rfl Tryz.ntmps120 (by simp) (AW.weakK ?_)
  refine AW.r ?_
  refine At.a 2 ?_
  refine At.done rfl ?_
  refine AW.seq ?_
  refine AW.weak (Sub.nils [⟨true, 102, some 2, 5001, 45, 6⟩] (by kernel_rfl)) ?_
  refine AW.region (At.start ?_)
  refine At.a 1 ?_
  refine At.done rfl ?_
  refine AW.seq ?_
  refine AW.weak (Sub.nils [⟨true, 103, some 2, 5002, 45, 6⟩] (by kernel_rfl)) ?_
  refine AW.region (At.start ?_)
  refine At.a 4 ?_
  refine At.done rfl ?_
  refine AW.r ?_
  refine At.a 4 ?_
  refine At.done rfl ?_
  refine AW.r ?_
  refine At.a 2 ?_
  refine At.c (laws_toEntryS_spec  a.log (by omega)) Tryz.call123 true [] [(1240, 0)] [] trivial ?_
  refine At.a 2 ?_
  refine At.done rfl ?_
  refine AW.r ?_
  refine At.a 2 ?_
  refine At.done rfl ?_
  refine AW.ret ?_
  refine ⟨_, Sub.refl _ _, ?_⟩
  exact KF.m [(1240, 0)] [.agg [.int .i64 a.term, .int .i64 a.vote, .ref 1240]]
set_option maxRecDepth 100000 in
set_option maxHeartbeats 4000000 in
theorem laws_toIntS_spec  (a : List Int) (ha : a.length ≤ 1048576) : FnSpec Tryz.prog 121 [.sl false 1 (a.map encI)] [] (.ref 0) [.arr 3 1 (a.map encI)] := by
  refine FnSpec.of 22 Tryz.func121 rfl Tryz.ntmps121 (by simp) (AW.weakK ?_)
  refine AW.r ?_
  refine At.a 1 ?_
  refine At.done rfl ?_
  refine AW.r ?_
  refine At.a 2 ?_
  refine At.sL 6 encI a ?_
  refine At.make (t := 27) (d := 7) (e := 3) (es := 1) (bytes := 8) (x := .tmp 6) (y := .tmp 6) (ka := .i64) (kb := .i64) (zs := [.int .i64 0]) 107 a.length ((List.replicate a.length 0).map encI) (by kernel_rfl) (by kernel_rfl) (by kernel_rfl) (by kernel_rfl) (by kernel_rfl) (by omega) (by omega) (by rw [List.map_replicate]; rfl) ?_
  refine At.a 1 ?_
  refine At.done rfl ?_
  refine AW.seq ?_
  refine AW.r ?_
  refine At.a 1 ?_
  refine At.done rfl ?_
  refine AW.block ?_
  refine AW.loopW (fun (k : Nat) => Go.Sy.mk [.sl false 1 (a.map encI), .un, .un, .ref 107, .int .i64 (k : Int)] [(107, .arr 3 1 ((a.take k ++ List.replicate (a.length - k) (0 : Int)).map encI))]) (fun (k : Nat) => k ≤ a.length) (fun (k : Nat) => a.length - k) 0 (by omega) (Sub.o [(107, 107)] [true, false, false, true, true]) ?_
  rintro k hk
  refine AW.seq ?_
  refine AW.r ?_
  refine At.a 3 ?_
  refine At.sL 10 encI a ?_
  refine At.a 1 ?_
  refine At.done rfl ?_
  refine AW.cD ((k : Int) < (a.length : Int)) (fun h1 => ?_) (fun h1 => ?_)
  · skip
    refine AW.skip ?_
    refine AW.seq ?_
    refine AW.block ?_
    refine AW.region (At.start ?_)
    refine At.a 4 ?_
    refine At.iSl 27 18 (.tmp 16) (.tmp 17) false 1 (a.map encI) .i64 (k : Int) 3 (by omega) (by simp only [List.length_map, List.length_append, List.length_take, List.length_drop, List.length_replicate, List.length_set, List.length_cons, List.length_nil]; omega) ?_
    refine Exists.elim (show ∃ e, a[k]? = some e from ⟨_, List.getElem?_eq_getElem (by omega)⟩) fun e1 he1 => ?_
    refine At.lVp 3 19 (.tmp 18) false 1 (a.map encI) k 0 false 1 (encI e1) (.int .i64 e1) (mapGet he1) ?_
    refine At.iRf 27 20 (.tmp 14) (.tmp 15) 107 ((a.take k ++ List.replicate (a.length - k) (0 : Int)).map encI) .i64 (k : Int) 3 1 (by omega) (by simp only [List.length_map, List.length_append, List.length_take, List.length_drop, List.length_replicate, List.length_set, List.length_cons, List.length_nil]; omega) ?_
    refine Exists.elim (show ∃ e, (a.take k ++ List.replicate (a.length - k) (0 : Int))[k]? = some e from ⟨_, List.getElem?_eq_getElem (by simp only [List.length_map, List.length_append, List.length_take, List.length_drop, List.length_replicate, List.length_set, List.length_cons, List.length_nil]; omega)⟩) fun e2 he2 => ?_
    refine At.sEl 3 107 3 1 k 0 (.tmp 20) (.tmp 19) ((a.take k ++ List.replicate (a.length - k) (0 : Int)).map encI) ((a.take (k + 1) ++ List.replicate (a.length - (k + 1)) (0 : Int)).map encI) [.int .i64 e1] (.int .i64 e1) (encI e2) (encI e1) (mapGet he2) (stepToV (by assumption)) ?_
    refine At.done rfl ?_
    refine AW.region (At.start ?_)
    refine At.a 2 ?_
    refine At.sI 13 ((k : Int) + 1) (by omega) ?_
    refine At.a 1 ?_
    refine At.done rfl ?_
    exact ⟨k + 1, (by omega), (by omega), Sub.o [(107, 107)] [true, false, false, true, true]⟩
  · skip
    refine AW.exit ?_
    refine AW.r ?_
    refine At.a 2 ?_
    refine At.done rfl ?_
    refine AW.ret ?_
    refine ⟨_, Sub.refl _ _, ?_⟩
    refine KF.conv (fun w => .ref 0) (fun w => [.arr 3 1 (w.map encI)]) (show (a.take k ++ List.replicate (a.length - k) (0 : Int)) = (a) from endTo (by omega)) ?_
    exact KF.m [(107, 0)] [.ref 107]
set_option maxRecDepth 100000 in
set_option maxHeartbeats 4000000 in
theorem laws_toRaft_spec  (a : Raft) (hz : SmallR a) : FnSpec Tryz.prog 40 [.agg [.int .i64 a.id, .int .i64 a.of_, .int .i64 a.role, .int .i64 a.commit, .int .i64 a.hard.term, .int .i64 a.hard.vote, .sl false 6 (a.hard.log.map encEnt), .sl false 1 (a.yes.map encI), .sl false 1 (a.next.map encI), .sl false 1 (a.match_.map encI)]] [] (.agg [.int .i64 a.id, .int .i64 a.of_, .int .i64 a.role, .int .i64 a.commit, .int .i64 a.hard.term, .int .i64 a.hard.vote, .ref 0, .ref 1, .ref 2, .ref 3]) [.arr 45 6 (a.hard.log.map encEnt), .arr 3 1 (a.yes.map encI), .arr 3 1 (a.next.map encI), .arr 3 1 (a.match_.map encI)] := by
  obtain ⟨z1, z2, z3, z4⟩ := id hz
  refine FnSpec.of 33 Tryz.func40 rfl Tryz.ntmps40 (by simp) (AW.weakK ?_)
  refine AW.r ?_
  refine At.a 2 ?_
  refine At.done rfl ?_
  refine AW.seq ?_
  refine AW.weak (Sub.nils [⟨true, 102, some 6, 5001, 45, 6⟩, ⟨true, 102, some 7, 5002, 3, 1⟩, ⟨true, 102, some 8, 5003, 3, 1⟩, ⟨true, 102, some 9, 5004, 3, 1⟩] (by kernel_rfl)) ?_
  refine AW.region (At.start ?_)
  refine At.a 1 ?_
  refine At.done rfl ?_
  refine AW.seq ?_
  refine AW.weak (Sub.nils [⟨true, 103, some 6, 5005, 45, 6⟩, ⟨true, 103, some 7, 5006, 3, 1⟩, ⟨true, 103, some 8, 5007, 3, 1⟩, ⟨true, 103, some 9, 5008, 3, 1⟩] (by kernel_rfl)) ?_
  refine AW.region (At.start ?_)
  refine At.a 4 ?_
  refine At.done rfl ?_
  refine AW.r ?_
  refine At.a 4 ?_
  refine At.done rfl ?_
  refine AW.r ?_
  refine At.a 4 ?_
  refine At.done rfl ?_
  refine AW.r ?_
  refine At.a 4 ?_
  refine At.done rfl ?_
  refine AW.r ?_
  refine At.a 2 ?_
  refine At.c (laws_toHard_spec  a.hard (by omega)) Tryz.call120 true [] [(1360, 0)] [] trivial ?_
  refine At.a 2 ?_
  refine At.done rfl ?_
  refine AW.r ?_
  refine At.a 2 ?_
  refine At.c (laws_toIntS_spec  a.yes (by omega)) Tryz.call121 true [] [(1440, 0)] [] trivial ?_
  refine At.a 2 ?_
  refine At.done rfl ?_
  refine AW.r ?_
  refine At.a 2 ?_
  refine At.c (laws_toIntS_spec  a.next (by omega)) Tryz.call121 true [] [(1520, 0)] [] trivial ?_
  refine At.a 2 ?_
  refine At.done rfl ?_
  refine AW.r ?_
  refine At.a 2 ?_
  refine At.c (laws_toIntS_spec  a.match_ (by omega)) Tryz.call121 true [] [(1600, 0)] [] trivial ?_
  refine At.a 2 ?_
  refine At.done rfl ?_
  refine AW.r ?_
  refine At.a 2 ?_
  refine At.done rfl ?_
  refine AW.ret ?_
  refine ⟨_, Sub.refl _ _, ?_⟩
  exact KF.m [(1360, 0), (1440, 1), (1520, 2), (1600, 3)] [.agg [.int .i64 a.id, .int .i64 a.of_, .int .i64 a.role, .int .i64 a.commit, .int .i64 a.hard.term, .int .i64 a.hard.vote, .ref 1360, .ref 1440, .ref 1520, .ref 1600]]
set_option maxRecDepth 100000 in
set_option maxHeartbeats 4000000 in
theorem laws_toMsg_spec  (a : Msg) (hl : a.entries.length ≤ 1048576) : FnSpec Tryz.prog 41 [.agg [.int .i64 a.kind, .int .i64 a.from_, .int .i64 a.term, .int .i64 a.at_, .int .i64 a.atTerm, .int .i64 a.commit, .bool a.yes, .int .i64 a.release, .int .i64 a.part, .str a.bytes, .int .i64 a.cmd.kind, .int .i64 a.cmd.release, .int .i64 a.cmd.node, .int .i64 a.cmd.size, .str a.cmd.digest, .sl false 6 (a.entries.map encEnt)]] [] (.agg [.int .i64 a.kind, .int .i64 a.from_, .int .i64 a.term, .int .i64 a.at_, .int .i64 a.atTerm, .int .i64 a.commit, .bool a.yes, .int .i64 a.release, .int .i64 a.part, .str a.bytes, .int .i64 a.cmd.kind, .int .i64 a.cmd.release, .int .i64 a.cmd.node, .int .i64 a.cmd.size, .str a.cmd.digest, .ref 0]) [.arr 45 6 (a.entries.map encEnt)] := by
  refine FnSpec.of 43 Tryz.func41 rfl Tryz.ntmps41 (by simp) (AW.weakK ?_)
  refine AW.r ?_
  refine At.a 2 ?_
  refine At.done rfl ?_
  refine AW.seq ?_
  refine AW.weak (Sub.nils [⟨true, 102, some 15, 5001, 45, 6⟩] (by kernel_rfl)) ?_
  refine AW.region (At.start ?_)
  refine At.a 1 ?_
  refine At.done rfl ?_
  refine AW.seq ?_
  refine AW.weak (Sub.nils [⟨true, 103, some 15, 5002, 45, 6⟩] (by kernel_rfl)) ?_
  refine AW.region (At.start ?_)
  refine At.a 4 ?_
  refine At.done rfl ?_
  refine AW.r ?_
  refine At.a 4 ?_
  refine At.done rfl ?_
  refine AW.r ?_
  refine At.a 4 ?_
  refine At.done rfl ?_
  refine AW.r ?_
  refine At.a 4 ?_
  refine At.done rfl ?_
  refine AW.r ?_
  refine At.a 4 ?_
  refine At.done rfl ?_
  refine AW.r ?_
  refine At.a 4 ?_
  refine At.done rfl ?_
  refine AW.r ?_
  refine At.a 4 ?_
  refine At.done rfl ?_
  refine AW.r ?_
  refine At.a 4 ?_
  refine At.done rfl ?_
  refine AW.r ?_
  refine At.a 4 ?_
  refine At.done rfl ?_
  refine AW.r ?_
  refine At.a 4 ?_
  refine At.done rfl ?_
  refine AW.r ?_
  refine At.a 2 ?_
  refine At.c (laws_toCmd_spec  a.cmd ) Tryz.call122 true [] [] [] trivial ?_
  refine At.a 2 ?_
  refine At.done rfl ?_
  refine AW.r ?_
  refine At.a 2 ?_
  refine At.c (laws_toEntryS_spec  a.entries (by omega)) Tryz.call123 true [] [(1800, 0)] [] trivial ?_
  refine At.a 2 ?_
  refine At.done rfl ?_
  refine AW.r ?_
  refine At.a 2 ?_
  refine At.done rfl ?_
  refine AW.ret ?_
  refine ⟨_, Sub.refl _ _, ?_⟩
  exact KF.m [(1800, 0)] [.agg [.int .i64 a.kind, .int .i64 a.from_, .int .i64 a.term, .int .i64 a.at_, .int .i64 a.atTerm, .int .i64 a.commit, .bool a.yes, .int .i64 a.release, .int .i64 a.part, .str a.bytes, .int .i64 a.cmd.kind, .int .i64 a.cmd.release, .int .i64 a.cmd.node, .int .i64 a.cmd.size, .str a.cmd.digest, .ref 1800]]
set_option maxRecDepth 100000 in
set_option maxHeartbeats 4000000 in
theorem spec_l7Of_spec  (of : Int) : FnSpec Tryz.prog 62 [.int .i64 of] [] (.bool (ofOk of)) [] := by
  refine FnSpec.of 13 Tryz.func62 rfl Tryz.ntmps62 (by simp) (AW.weakK ?_)
  refine AW.r ?_
  refine At.a 1 ?_
  refine At.done rfl ?_
  refine AW.r ?_
  refine At.a 3 ?_
  by_cases h1 : of = 1
  · refine At.sB 5 (of == 1) true (sayET h1) ?_
    refine At.a 8 ?_
    refine At.done rfl ?_
    refine AW.ret ?_
    refine ⟨_, Sub.refl _ _, ?_⟩
    refine KF.conv (fun w => .bool w) (fun w => []) (show (true) = (ofOk of) from by simp_all [ofOk]) ?_
    exact KF.m [] [.bool true]
  · refine At.sB 5 (of == 1) false (sayEF h1) ?_
    refine At.a 4 ?_
    by_cases h2 : of = 3
    · refine At.sB 9 (of == 3) true (sayET h2) ?_
      refine At.a 4 ?_
      refine At.done rfl ?_
      refine AW.ret ?_
      refine ⟨_, Sub.refl _ _, ?_⟩
      refine KF.conv (fun w => .bool w) (fun w => []) (show (true) = (ofOk of) from by simp_all [ofOk]) ?_
      exact KF.m [] [.bool true]
    · refine At.sB 9 (of == 3) false (sayEF h2) ?_
      refine At.a 4 ?_
      refine At.done rfl ?_
      refine AW.ret ?_
      refine ⟨_, Sub.refl _ _, ?_⟩
      refine KF.conv (fun w => .bool w) (fun w => []) (show (of == 5) = (ofOk of) from by simp_all [ofOk]) ?_
      exact KF.m [] [.bool (of == 5)]
set_option maxRecDepth 100000 in
set_option maxHeartbeats 4000000 in
theorem spec_l1In_spec  (x : Int) (lo : Int) (hi : Int) : FnSpec Tryz.prog 63 [.int .i64 x, .int .i64 lo, .int .i64 hi] [] (.bool (inR x lo hi)) [] := by
  refine FnSpec.of 15 Tryz.func63 rfl Tryz.ntmps63 (by simp) (AW.weakK ?_)
  refine AW.r ?_
  refine At.a 1 ?_
  refine At.done rfl ?_
  refine AW.r ?_
  refine At.a 4 ?_
  by_cases h1 : x ≥ lo
  · refine At.sB 10 (decide (x ≥ lo)) true (sayT h1) ?_
    refine At.a 5 ?_
    refine At.done rfl ?_
    refine AW.ret ?_
    refine ⟨_, Sub.refl _ _, ?_⟩
    refine KF.conv (fun w => .bool w) (fun w => []) (show (decide (x ≤ hi)) = (inR x lo hi) from by simp [inR, *]) ?_
    exact KF.m [] [.bool (decide (x ≤ hi))]
  · refine At.sB 10 (decide (x ≥ lo)) false (sayF h1) ?_
    refine At.a 5 ?_
    refine At.done rfl ?_
    refine AW.ret ?_
    refine ⟨_, Sub.refl _ _, ?_⟩
    refine KF.conv (fun w => .bool w) (fun w => []) (show (false) = (inR x lo hi) from by simp [inR, *]) ?_
    exact KF.m [] [.bool false]
set_option maxRecDepth 100000 in
set_option maxHeartbeats 4000000 in
theorem spec_l1Whole_spec  (x : Int) : FnSpec Tryz.prog 148 [.int .i64 x] [] (.bool (inR x 0 1000000000)) [] := by
  refine FnSpec.of 5 Tryz.func148 rfl Tryz.ntmps148 (by simp) (AW.weakK ?_)
  refine AW.r ?_
  refine At.a 1 ?_
  refine At.done rfl ?_
  refine AW.r ?_
  refine At.a 1 ?_
  refine At.c (spec_l1In_spec  x 0 1000000000 ) Tryz.call63 true [] [] [] trivial ?_
  refine At.a 1 ?_
  refine At.done rfl ?_
  refine AW.ret ?_
  refine ⟨_, Sub.refl _ _, ?_⟩
  exact KF.m [] [.bool (inR x 0 1000000000)]
set_option maxRecDepth 100000 in
set_option maxHeartbeats 4000000 in
theorem spec_CmdOk_spec  (c : Cmd) : FnSpec Tryz.prog 104 [.agg [.int .i64 c.kind, .int .i64 c.release, .int .i64 c.node, .int .i64 c.size, .str c.digest]] [] (.bool (cmdOk c)) [] := by
  refine FnSpec.of 60 Tryz.func104 rfl Tryz.ntmps104 (by simp) (AW.weakK ?_)
  refine AW.r ?_
  refine At.a 2 ?_
  refine At.done rfl ?_
  refine AW.r ?_
  refine At.a 5 ?_
  refine At.done rfl ?_
  refine AW.seq ?_
  refine AW.r ?_
  refine At.a 3 ?_
  refine At.done rfl ?_
  refine AW.cE c.kind (1 : Int) (fun h1 => ?_) (fun h1 => ?_)
  · skip
    refine AW.r ?_
    refine At.a 2 ?_
    refine At.eqA (t := 31) (u := 31) (d := 12) (op := .eql) (x := .tmp 10) (y := .tmp 11) (X := [.int .i64 c.kind, .int .i64 c.release, .int .i64 c.node, .int .i64 c.size, .str c.digest]) (Y := [.int .i64 c.kind, .int .i64 0, .int .i64 0, .int .i64 0, .str (⟨#[]⟩ : ByteArray)]) (cmdEq c (⟨c.kind, 0, 0, 0, (⟨#[]⟩ : ByteArray)⟩ : Cmd)) (by kernel_rfl) (by kernel_rfl) (by kernel_rfl) (by kernel_rfl) (by kernel_rfl) (.bool (cmdEq c (⟨c.kind, 0, 0, 0, (⟨#[]⟩ : ByteArray)⟩ : Cmd))) (.inl ⟨rfl, rfl⟩) ?_
    refine At.a 1 ?_
    refine At.done rfl ?_
    refine AW.ret ?_
    refine ⟨_, Sub.refl _ _, ?_⟩
    refine KF.conv (fun w => .bool w) (fun w => []) (show (cmdEq c (⟨c.kind, 0, 0, 0, (⟨#[]⟩ : ByteArray)⟩ : Cmd)) = (cmdOk c) from by (try simp only [inR_iff, inR_not] at *); rw [Bool.eq_iff_iff]; simp only [cmdOk, cmdEq, noBytes]; (repeat' split) <;> (try simp [inR_iff]) <;> grind) ?_
    exact KF.m [] [.bool (cmdEq c (⟨c.kind, 0, 0, 0, (⟨#[]⟩ : ByteArray)⟩ : Cmd))]
  · skip
    refine AW.skip ?_
    refine AW.seq ?_
    refine AW.r ?_
    refine At.a 2 ?_
    refine At.c (spec_l1In_spec  c.kind 2 5 ) Tryz.call63 true [] [] [] trivial ?_
    refine At.a 2 ?_
    by_cases h2 : (inR c.kind 2 5) = true
    · refine At.sB 17 (!(inR c.kind 2 5)) false (sayNF (sayB h2)) ?_
      refine At.a 2 ?_
      refine At.c (spec_l1In_spec  c.release 1 1000 ) Tryz.call63 true [] [] [] trivial ?_
      refine At.a 2 ?_
      refine At.done rfl ?_
      refine AW.cNB (inR c.release 1 1000) (fun h3 => ?_) (fun h3 => ?_)
      · skip
        refine AW.r ?_
        refine At.a 1 ?_
        refine At.done rfl ?_
        refine AW.ret ?_
        refine ⟨_, Sub.refl _ _, ?_⟩
        refine KF.conv (fun w => .bool w) (fun w => []) (show (false) = (cmdOk c) from by (try simp only [inR_iff, inR_not] at *); rw [Bool.eq_iff_iff]; simp only [cmdOk, cmdEq, noBytes]; (repeat' split) <;> (try simp [inR_iff]) <;> grind) ?_
        exact KF.m [] [.bool false]
      · skip
        refine AW.skip ?_
        refine AW.r ?_
        refine At.a 4 ?_
        refine At.done rfl ?_
        refine AW.seq ?_
        refine AW.r ?_
        refine At.a 2 ?_
        refine At.done rfl ?_
        refine AW.block ?_
        refine AW.r ?_
        refine At.a 2 ?_
        refine At.done rfl ?_
        refine AW.cE c.kind (2 : Int) (fun h4 => ?_) (fun h4 => ?_)
        · skip
          refine AW.r ?_
          refine At.a 2 ?_
          refine At.c (spec_l1In_spec  c.size 0 1000 ) Tryz.call63 true [] [] [] trivial ?_
          refine At.a 1 ?_
          by_cases h5 : (inR c.size 0 1000) = true
          · refine At.sB 33 (inR c.size 0 1000) true (sayB h5) ?_
            refine At.a 6 ?_
            by_cases h6 : (c.digest.size : Int) = 32
            · refine At.sB 39 ((c.digest.size : Int) == 32) true (sayET h6) ?_
              refine At.a 5 ?_
              refine At.done rfl ?_
              refine AW.ret ?_
              refine ⟨_, Sub.refl _ _, ?_⟩
              refine KF.conv (fun w => .bool w) (fun w => []) (show (c.node == 0) = (cmdOk c) from by (try simp only [inR_iff, inR_not] at *); rw [Bool.eq_iff_iff]; simp only [cmdOk, cmdEq, noBytes]; (repeat' split) <;> (try simp [inR_iff]) <;> grind) ?_
              exact KF.m [] [.bool (c.node == 0)]
            · refine At.sB 39 ((c.digest.size : Int) == 32) false (sayEF h6) ?_
              refine At.a 5 ?_
              refine At.done rfl ?_
              refine AW.ret ?_
              refine ⟨_, Sub.refl _ _, ?_⟩
              refine KF.conv (fun w => .bool w) (fun w => []) (show (false) = (cmdOk c) from by (try simp only [inR_iff, inR_not] at *); rw [Bool.eq_iff_iff]; simp only [cmdOk, cmdEq, noBytes]; (repeat' split) <;> (try simp [inR_iff]) <;> grind) ?_
              exact KF.m [] [.bool false]
          · refine At.sB 33 (inR c.size 0 1000) false (sayB (Bool.eq_false_iff.2 h5)) ?_
            replace h5 := Bool.eq_false_iff.2 h5
            refine At.a 11 ?_
            refine At.done rfl ?_
            refine AW.ret ?_
            refine ⟨_, Sub.refl _ _, ?_⟩
            refine KF.conv (fun w => .bool w) (fun w => []) (show (false) = (cmdOk c) from by (try simp only [inR_iff, inR_not] at *); rw [Bool.eq_iff_iff]; simp only [cmdOk, cmdEq, noBytes]; (repeat' split) <;> (try simp [inR_iff]) <;> grind) ?_
            exact KF.m [] [.bool false]
        · skip
          refine AW.r ?_
          refine At.a 2 ?_
          refine At.done rfl ?_
          refine AW.cE c.kind (3 : Int) (fun h7 => ?_) (fun h7 => ?_)
          · skip
            refine AW.r ?_
            refine At.a 4 ?_
            refine At.done rfl ?_
            refine AW.r ?_
            refine At.a 2 ?_
            refine At.c (spec_l1In_spec  c.node 0 4 ) Tryz.call63 true [] [] [] trivial ?_
            refine At.a 1 ?_
            by_cases h8 : (inR c.node 0 4) = true
            · refine At.sB 52 (inR c.node 0 4) true (sayB h8) ?_
              refine At.a 2 ?_
              refine At.eqA (t := 31) (u := 31) (d := 55) (op := .eql) (x := .tmp 53) (y := .tmp 54) (X := [.int .i64 c.kind, .int .i64 c.release, .int .i64 c.node, .int .i64 c.size, .str c.digest]) (Y := [.int .i64 c.kind, .int .i64 c.release, .int .i64 c.node, .int .i64 0, .str (⟨#[]⟩ : ByteArray)]) (cmdEq c (⟨c.kind, c.release, c.node, 0, (⟨#[]⟩ : ByteArray)⟩ : Cmd)) (by kernel_rfl) (by kernel_rfl) (by kernel_rfl) (by kernel_rfl) (by kernel_rfl) (.bool (cmdEq c (⟨c.kind, c.release, c.node, 0, (⟨#[]⟩ : ByteArray)⟩ : Cmd))) (.inl ⟨rfl, rfl⟩) ?_
              refine At.a 2 ?_
              refine At.done rfl ?_
              refine AW.ret ?_
              refine ⟨_, Sub.refl _ _, ?_⟩
              refine KF.conv (fun w => .bool w) (fun w => []) (show (cmdEq c (⟨c.kind, c.release, c.node, 0, (⟨#[]⟩ : ByteArray)⟩ : Cmd)) = (cmdOk c) from by (try simp only [inR_iff, inR_not] at *); rw [Bool.eq_iff_iff]; simp only [cmdOk, cmdEq, noBytes]; (repeat' split) <;> (try simp [inR_iff]) <;> grind) ?_
              exact KF.m [] [.bool (cmdEq c (⟨c.kind, c.release, c.node, 0, (⟨#[]⟩ : ByteArray)⟩ : Cmd))]
            · refine At.sB 52 (inR c.node 0 4) false (sayB (Bool.eq_false_iff.2 h8)) ?_
              replace h8 := Bool.eq_false_iff.2 h8
              refine At.a 5 ?_
              refine At.done rfl ?_
              refine AW.ret ?_
              refine ⟨_, Sub.refl _ _, ?_⟩
              refine KF.conv (fun w => .bool w) (fun w => []) (show (false) = (cmdOk c) from by (try simp only [inR_iff, inR_not] at *); rw [Bool.eq_iff_iff]; simp only [cmdOk, cmdEq, noBytes]; (repeat' split) <;> (try simp [inR_iff]) <;> grind) ?_
              exact KF.m [] [.bool false]
          · skip
            refine AW.skip ?_
            refine AW.r ?_
            refine At.a 2 ?_
            refine At.eqA (t := 31) (u := 31) (d := 59) (op := .eql) (x := .tmp 57) (y := .tmp 58) (X := [.int .i64 c.kind, .int .i64 c.release, .int .i64 c.node, .int .i64 c.size, .str c.digest]) (Y := [.int .i64 c.kind, .int .i64 c.release, .int .i64 0, .int .i64 0, .str (⟨#[]⟩ : ByteArray)]) (cmdEq c (⟨c.kind, c.release, 0, 0, (⟨#[]⟩ : ByteArray)⟩ : Cmd)) (by kernel_rfl) (by kernel_rfl) (by kernel_rfl) (by kernel_rfl) (by kernel_rfl) (.bool (cmdEq c (⟨c.kind, c.release, 0, 0, (⟨#[]⟩ : ByteArray)⟩ : Cmd))) (.inl ⟨rfl, rfl⟩) ?_
            refine At.a 1 ?_
            refine At.done rfl ?_
            refine AW.ret ?_
            refine ⟨_, Sub.refl _ _, ?_⟩
            refine KF.conv (fun w => .bool w) (fun w => []) (show (cmdEq c (⟨c.kind, c.release, 0, 0, (⟨#[]⟩ : ByteArray)⟩ : Cmd)) = (cmdOk c) from by (try simp only [inR_iff, inR_not] at *); rw [Bool.eq_iff_iff]; simp only [cmdOk, cmdEq, noBytes]; (repeat' split) <;> (try simp [inR_iff]) <;> grind) ?_
            exact KF.m [] [.bool (cmdEq c (⟨c.kind, c.release, 0, 0, (⟨#[]⟩ : ByteArray)⟩ : Cmd))]
    · refine At.sB 17 (!(inR c.kind 2 5)) true (sayNT (sayB (Bool.eq_false_iff.2 h2))) ?_
      replace h2 := Bool.eq_false_iff.2 h2
      refine At.a 5 ?_
      refine At.done rfl ?_
      refine AW.cond true (by kernel_rfl) (fun _ => ?_) (fun h => by cases h)
      refine AW.r ?_
      refine At.a 1 ?_
      refine At.done rfl ?_
      refine AW.ret ?_
      refine ⟨_, Sub.refl _ _, ?_⟩
      refine KF.conv (fun w => .bool w) (fun w => []) (show (false) = (cmdOk c) from by (try simp only [inR_iff, inR_not] at *); rw [Bool.eq_iff_iff]; simp only [cmdOk, cmdEq, noBytes]; (repeat' split) <;> (try simp [inR_iff]) <;> grind) ?_
      exact KF.m [] [.bool false]
set_option maxRecDepth 100000 in
set_option maxHeartbeats 4000000 in
theorem spec_l6Entry_spec  (e : Ent) : FnSpec Tryz.prog 149 [.agg [.int .i64 e.term, .int .i64 e.cmd.kind, .int .i64 e.cmd.release, .int .i64 e.cmd.node, .int .i64 e.cmd.size, .str e.cmd.digest]] [] (.bool (entOk e)) [] := by
  refine FnSpec.of 11 Tryz.func149 rfl Tryz.ntmps149 (by simp) (AW.weakK ?_)
  refine AW.r ?_
  refine At.a 2 ?_
  refine At.done rfl ?_
  refine AW.r ?_
  refine At.a 2 ?_
  refine At.c (spec_l1In_spec  e.term 1 1000000000 ) Tryz.call63 true [] [] [] trivial ?_
  refine At.a 1 ?_
  by_cases h1 : (inR e.term 1 1000000000) = true
  · refine At.sB 6 (inR e.term 1 1000000000) true (sayB h1) ?_
    have h1i := inR_iff.1 h1
    refine At.a 2 ?_
    refine At.c (spec_CmdOk_spec  e.cmd ) Tryz.call104 true [] [] [] trivial ?_
    refine At.a 2 ?_
    refine At.done rfl ?_
    refine AW.ret ?_
    refine ⟨_, Sub.refl _ _, ?_⟩
    refine KF.conv (fun w => .bool w) (fun w => []) (show (cmdOk e.cmd) = (entOk e) from by (try simp only [inR_iff, inR_not] at *); rw [Bool.eq_iff_iff]; simp only [entOk, noBytes]; (repeat' split) <;> (try simp [inR_iff]) <;> grind) ?_
    exact KF.m [] [.bool (cmdOk e.cmd)]
  · refine At.sB 6 (inR e.term 1 1000000000) false (sayB (Bool.eq_false_iff.2 h1)) ?_
    replace h1 := Bool.eq_false_iff.2 h1
    refine At.a 5 ?_
    refine At.done rfl ?_
    refine AW.ret ?_
    refine ⟨_, Sub.refl _ _, ?_⟩
    refine KF.conv (fun w => .bool w) (fun w => []) (show (false) = (entOk e) from by (try simp only [inR_iff, inR_not] at *); rw [Bool.eq_iff_iff]; simp only [entOk, noBytes]; (repeat' split) <;> (try simp [inR_iff]) <;> grind) ?_
    exact KF.m [] [.bool false]
set_option maxRecDepth 100000 in
set_option maxHeartbeats 4000000 in
theorem spec_HardOk_spec  (h : Hard) (hl : h.log.length ≤ 1048576) : FnSpec Tryz.prog 64 [.agg [.int .i64 h.term, .int .i64 h.vote, .sl false 6 (h.log.map encEnt)]] [] (.bool (hardOk h)) [] := by
  refine FnSpec.of 65 Tryz.func64 rfl Tryz.ntmps64 (by simp) (AW.weakK ?_)
  refine AW.r ?_
  refine At.a 2 ?_
  refine At.done rfl ?_
  refine AW.seq ?_
  refine AW.r ?_
  refine At.a 2 ?_
  refine At.c (spec_l1Whole_spec  h.term ) Tryz.call148 true [] [] [] trivial ?_
  refine At.a 2 ?_
  by_cases h1 : (inR h.term 0 1000000000) = true
  · refine At.sB 8 (!(inR h.term 0 1000000000)) false (sayNF (sayB h1)) ?_
    have h1i := inR_iff.1 h1
    refine At.a 2 ?_
    refine At.c (spec_l1In_spec  h.vote 0 5 ) Tryz.call63 true [] [] [] trivial ?_
    refine At.a 3 ?_
    by_cases h2 : (inR h.vote 0 5) = true
    · refine At.sB 14 (!(inR h.vote 0 5)) false (sayNF (sayB h2)) ?_
      have h2i := inR_iff.1 h2
      refine At.a 3 ?_
      refine At.sL 17 encEnt h.log ?_
      refine At.a 2 ?_
      refine At.done rfl ?_
      refine AW.cD ((h.log.length : Int) > 80) (fun h3 => ?_) (fun h3 => ?_)
      · skip
        refine AW.r ?_
        refine At.a 1 ?_
        refine At.done rfl ?_
        refine AW.ret ?_
        refine ⟨_, Sub.refl _ _, ?_⟩
        refine KF.conv (fun w => .bool w) (fun w => []) (show (false) = (hardOk h) from by have : ¬ h.log.length ≤ 80 := (by omega); simp [hardOk, this]) ?_
        exact KF.m [] [.bool false]
      · skip
        refine AW.skip ?_
        refine AW.seq ?_
        refine AW.r ?_
        refine At.a 1 ?_
        refine At.done rfl ?_
        refine AW.block ?_
        refine AW.loopW (fun (k : Nat) => Go.Sy.mk [.un, .ptr 101 0 0, .un, .int .i64 (k : Int)] [(101, .box 26 [.int .i64 h.term, .int .i64 h.vote, .sl false 6 (h.log.map encEnt)])]) (fun (k : Nat) => k ≤ h.log.length ∧ logOk h.term 0 h.log = logOk h.term (lastT (h.log.take k)) (h.log.drop k)) (fun (k : Nat) => h.log.length - k) 0 ⟨by omega, by simp [lastT]⟩ (Sub.o [(101, 101)] [false, true, false, true]) ?_
        rintro k ⟨hk, hR⟩
        refine AW.seq ?_
        refine AW.r ?_
        refine At.a 4 ?_
        refine At.sL 23 encEnt h.log ?_
        refine At.a 1 ?_
        refine At.done rfl ?_
        refine AW.cD ((k : Int) < (h.log.length : Int)) (fun h4 => ?_) (fun h4 => ?_)
        · skip
          refine AW.skip ?_
          refine AW.seq ?_
          refine AW.block ?_
          refine AW.seq ?_
          refine AW.regionD Tryz_mix (At.start ?_)
          refine At.a 3 ?_
          refine At.iSl 24 30 (.tmp 28) (.tmp 29) false 6 (h.log.map encEnt) .i64 (k : Int) 45 (by omega) (by simp only [List.length_map, List.length_append, List.length_take, List.length_drop, List.length_replicate, List.length_set, List.length_cons, List.length_nil]; omega) ?_
          refine Exists.elim (show ∃ e, h.log[k]? = some e from ⟨_, List.getElem?_eq_getElem (by omega)⟩) fun e1 he1 => ?_
          refine At.lVp 45 31 (.tmp 30) false 6 (h.log.map encEnt) k 0 true 6 (encEnt e1) (.agg [.int .i64 e1.term, .int .i64 e1.cmd.kind, .int .i64 e1.cmd.release, .int .i64 e1.cmd.node, .int .i64 e1.cmd.size, .str e1.cmd.digest]) (mapGet he1) ?_
          refine At.c (spec_l6Entry_spec  e1 ) Tryz.call149 true [] [] [] trivial ?_
          refine At.a 2 ?_
          by_cases h5 : (entOk e1) = true
          · refine At.sB 34 (!(entOk e1)) false (sayNF (sayB h5)) ?_
            have h5n := entOk_nums h5
            refine At.a 3 ?_
            refine At.iSl 24 38 (.tmp 36) (.tmp 37) false 6 (h.log.map encEnt) .i64 (k : Int) 45 (by omega) (by simp only [List.length_map, List.length_append, List.length_take, List.length_drop, List.length_replicate, List.length_set, List.length_cons, List.length_nil]; omega) ?_
            refine At.a 1 ?_
            refine At.lVp 3 40 (.tmp 39) false 6 (h.log.map encEnt) k 0 false 1 (encEnt e1) (.int .i64 e1.term) (mapGet he1) ?_
            refine At.a 5 ?_
            by_cases h6 : e1.term > h.term
            · refine At.sB 45 (decide (e1.term > h.term)) true (sayT h6) ?_
              refine At.a 19 ?_
              refine At.done rfl ⟨by kernel_rfl, ?_⟩
              refine AW.cond true (by kernel_rfl) (fun _ => ?_) (fun h => by cases h)
              refine AW.r ?_
              refine At.a 1 ?_
              refine At.done rfl ?_
              refine AW.ret ?_
              refine ⟨_, Sub.refl _ _, ?_⟩
              refine KF.conv (fun w => .bool w) (fun w => []) (show (false) = (hardOk h) from by refine hardBad (hR.trans ?_); rw [dropCons he1]; first | exact logOk_bad1 (by omega) (by assumption) | exact logOk_bad2 (by first | omega | (rw [lastT_before (by assumption) he2]; omega))) ?_
              exact KF.m [] [.bool false]
            · refine At.sB 45 (decide (e1.term > h.term)) false (sayF h6) ?_
              refine At.a 3 ?_
              by_cases h7 : (k : Int) > 0
              · refine At.sB 48 (decide ((k : Int) > 0)) true (sayT h7) ?_
                refine At.a 3 ?_
                refine At.iSl 24 52 (.tmp 50) (.tmp 51) false 6 (h.log.map encEnt) .i64 (k : Int) 45 (by omega) (by simp only [List.length_map, List.length_append, List.length_take, List.length_drop, List.length_replicate, List.length_set, List.length_cons, List.length_nil]; omega) ?_
                refine At.a 1 ?_
                refine At.lVp 3 54 (.tmp 53) false 6 (h.log.map encEnt) k 0 false 1 (encEnt e1) (.int .i64 e1.term) (mapGet he1) ?_
                refine At.a 4 ?_
                refine At.sI 58 ((k : Int) - 1) (by omega) ?_
                refine At.iSl 24 59 (.tmp 56) (.tmp 58) false 6 (h.log.map encEnt) .i64 ((k : Int) - 1) 45 (by omega) (by simp only [List.length_map, List.length_append, List.length_take, List.length_drop, List.length_replicate, List.length_set, List.length_cons, List.length_nil]; omega) ?_
                refine At.a 1 ?_
                refine Exists.elim (show ∃ e, h.log[((k : Int) - 1).toNat]? = some e from ⟨_, List.getElem?_eq_getElem (by omega)⟩) fun e2 he2 => ?_
                refine At.lVp 3 61 (.tmp 60) false 6 (h.log.map encEnt) (((k : Int) - 1).toNat) 0 false 1 (encEnt e2) (.int .i64 e2.term) (mapGet he2) ?_
                refine At.a 3 ?_
                refine At.done rfl ⟨by kernel_rfl, ?_⟩
                refine AW.cD (e1.term < e2.term) (fun h8 => ?_) (fun h8 => ?_)
                · skip
                  refine AW.r ?_
                  refine At.a 1 ?_
                  refine At.done rfl ?_
                  refine AW.ret ?_
                  refine ⟨_, Sub.refl _ _, ?_⟩
                  refine KF.conv (fun w => .bool w) (fun w => []) (show (false) = (hardOk h) from by refine hardBad (hR.trans ?_); rw [dropCons he1]; first | exact logOk_bad1 (by omega) (by assumption) | exact logOk_bad2 (by first | omega | (rw [lastT_before (by assumption) he2]; omega))) ?_
                  exact KF.m [] [.bool false]
                · skip
                  refine AW.skip ?_
                  refine AW.region (At.start ?_)
                  refine At.a 2 ?_
                  refine At.sI 26 ((k : Int) + 1) (by omega) ?_
                  refine At.a 1 ?_
                  refine At.done rfl ?_
                  exact ⟨k + 1, ⟨by omega, by rw [hR, dropCons he1, lastT_next he1]; exact logOk_step (by omega) (by omega) h5n.2.2 (by rw [lastT_before (by assumption) he2]; omega)⟩, (by omega), Sub.o [(101, 101)] [false, true, false, true]⟩
              · refine At.sB 48 (decide ((k : Int) > 0)) false (sayF h7) ?_
                refine At.a 16 ?_
                refine At.done rfl ⟨by kernel_rfl, ?_⟩
                refine AW.cond false (by kernel_rfl) (fun h => by cases h) (fun _ => ?_)
                refine AW.skip ?_
                refine AW.region (At.start ?_)
                refine At.a 2 ?_
                refine At.sI 26 ((k : Int) + 1) (by omega) ?_
                refine At.a 1 ?_
                refine At.done rfl ?_
                exact ⟨k + 1, ⟨by omega, by rw [hR, dropCons he1, lastT_next he1]; exact logOk_step (by omega) (by omega) h5n.2.2 (by obtain rfl : k = 0 := (by omega); show (0 : Int) ≤ _; omega)⟩, (by omega), Sub.o [(101, 101)] [false, true, false, true]⟩
          · refine At.sB 34 (!(entOk e1)) true (sayNT (sayB (Bool.eq_false_iff.2 h5))) ?_
            replace h5 := Bool.eq_false_iff.2 h5
            refine At.a 30 ?_
            refine At.done rfl ⟨by kernel_rfl, ?_⟩
            refine AW.cond true (by kernel_rfl) (fun _ => ?_) (fun h => by cases h)
            refine AW.r ?_
            refine At.a 1 ?_
            refine At.done rfl ?_
            refine AW.ret ?_
            refine ⟨_, Sub.refl _ _, ?_⟩
            refine KF.conv (fun w => .bool w) (fun w => []) (show (false) = (hardOk h) from by refine hardBad (hR.trans ?_); rw [dropCons he1]; first | exact logOk_bad1 (by omega) (by assumption) | exact logOk_bad2 (by first | omega | (rw [lastT_before (by assumption) he2]; omega))) ?_
            exact KF.m [] [.bool false]
        · skip
          refine AW.exit ?_
          refine AW.r ?_
          refine At.a 1 ?_
          refine At.done rfl ?_
          refine AW.ret ?_
          refine ⟨_, Sub.refl _ _, ?_⟩
          refine KF.conv (fun w => .bool w) (fun w => []) (show (true) = (hardOk h) from by have q : logOk h.term 0 h.log = true := (by rw [hR, List.drop_of_length_le (by omega)]; rfl); have : h.log.length ≤ 80 := (by omega); simp only [hardOk, q, this, h1, h2, decide_true, Bool.and_self]) ?_
          exact KF.m [] [.bool true]
    · refine At.sB 14 (!(inR h.vote 0 5)) true (sayNT (sayB (Bool.eq_false_iff.2 h2))) ?_
      replace h2 := Bool.eq_false_iff.2 h2
      refine At.a 5 ?_
      refine At.done rfl ?_
      refine AW.cond true (by kernel_rfl) (fun _ => ?_) (fun h => by cases h)
      refine AW.r ?_
      refine At.a 1 ?_
      refine At.done rfl ?_
      refine AW.ret ?_
      refine ⟨_, Sub.refl _ _, ?_⟩
      refine KF.conv (fun w => .bool w) (fun w => []) (show (false) = (hardOk h) from by simp [hardOk, *]; done) ?_
      exact KF.m [] [.bool false]
  · refine At.sB 8 (!(inR h.term 0 1000000000)) true (sayNT (sayB (Bool.eq_false_iff.2 h1))) ?_
    replace h1 := Bool.eq_false_iff.2 h1
    refine At.a 11 ?_
    refine At.done rfl ?_
    refine AW.cond true (by kernel_rfl) (fun _ => ?_) (fun h => by cases h)
    refine AW.r ?_
    refine At.a 1 ?_
    refine At.done rfl ?_
    refine AW.ret ?_
    refine ⟨_, Sub.refl _ _, ?_⟩
    refine KF.conv (fun w => .bool w) (fun w => []) (show (false) = (hardOk h) from by simp [hardOk, *]; done) ?_
    exact KF.m [] [.bool false]
set_option maxRecDepth 100000 in
set_option maxHeartbeats 4000000 in
theorem spec_l10End_spec  (r : Raft) : FnSpec Tryz.prog 65 [.agg [.int .i64 r.id, .int .i64 r.of_, .int .i64 r.role, .int .i64 r.commit, .int .i64 r.hard.term, .int .i64 r.hard.vote, .sl false 6 (r.hard.log.map encEnt), .sl false 1 (r.yes.map encI), .sl false 1 (r.next.map encI), .sl false 1 (r.match_.map encI)]] [] (.int .i64 (r.hard.log.length : Int)) [] := by
  refine FnSpec.of 7 Tryz.func65 rfl Tryz.ntmps65 (by simp) (AW.weakK ?_)
  refine AW.r ?_
  refine At.a 2 ?_
  refine At.done rfl ?_
  refine AW.r ?_
  refine At.a 4 ?_
  refine At.sL 6 encEnt r.hard.log ?_
  refine At.a 1 ?_
  refine At.done rfl ?_
  refine AW.ret ?_
  refine ⟨_, Sub.refl _ _, ?_⟩
  exact KF.m [] [.int .i64 (r.hard.log.length : Int)]
set_option maxRecDepth 100000 in
set_option maxHeartbeats 4000000 in
theorem spec_l7Nodes_spec  (list : List Int) (of_ : Int) (hl : list.length ≤ 1048576) (ho : 0 ≤ of_ ∧ of_ ≤ 1000) : FnSpec Tryz.prog 66 [.sl false 1 (list.map encI), .int .i64 of_] [] (.bool (asc (of_ - 1) (-1) list)) [] := by
  refine FnSpec.of 36 Tryz.func66 rfl Tryz.ntmps66 (by simp) (AW.weakK ?_)
  refine AW.r ?_
  refine At.a 1 ?_
  refine At.done rfl ?_
  refine AW.seq ?_
  refine AW.r ?_
  refine At.a 1 ?_
  refine At.done rfl ?_
  refine AW.block ?_
  refine AW.loopW (fun (k : Nat) => Go.Sy.mk [.sl false 1 (list.map encI), .int .i64 of_, .un, .un, .un, .int .i64 (k : Int)] []) (fun (k : Nat) => k ≤ list.length ∧ ∃ p : Int, (k = 0 → p = -1) ∧ (∀ e, 0 < k → list[k - 1]? = some e → e = p) ∧ asc (of_ - 1) (-1) list = asc (of_ - 1) p (list.drop k)) (fun (k : Nat) => list.length - k) 0 ⟨by omega, -1, by omega, by omega, by rw [List.drop_zero]⟩ (Sub.o [] [true, true, false, false, false, true]) ?_
  rintro k ⟨hk, p, hp0, hp1, hR⟩
  refine AW.seq ?_
  refine AW.r ?_
  refine At.a 3 ?_
  refine At.sL 8 encI list ?_
  refine At.a 1 ?_
  refine At.done rfl ?_
  refine AW.cD ((k : Int) < (list.length : Int)) (fun h1 => ?_) (fun h1 => ?_)
  · skip
    refine AW.skip ?_
    refine AW.seq ?_
    refine AW.block ?_
    refine AW.seq ?_
    refine AW.regionD Tryz_mix (At.start ?_)
    refine At.a 2 ?_
    refine At.iSl 27 14 (.tmp 12) (.tmp 13) false 1 (list.map encI) .i64 (k : Int) 3 (by omega) (by simp only [List.length_map, List.length_append, List.length_take, List.length_drop, List.length_replicate, List.length_set, List.length_cons, List.length_nil]; omega) ?_
    refine Exists.elim (show ∃ e, list[k]? = some e from ⟨_, List.getElem?_eq_getElem (by omega)⟩) fun e1 he1 => ?_
    refine At.lVp 3 15 (.tmp 14) false 1 (list.map encI) k 0 false 1 (encI e1) (.int .i64 e1) (mapGet he1) ?_
    refine At.a 2 ?_
    refine At.sI 17 (of_ - 1) (by omega) ?_
    refine At.c (spec_l1In_spec  e1 0 (of_ - 1) ) Tryz.call63 true [] [] [] trivial ?_
    refine At.a 2 ?_
    by_cases h2 : (inR e1 0 (of_ - 1)) = true
    · refine At.sB 20 (!(inR e1 0 (of_ - 1))) false (sayNF (sayB h2)) ?_
      have h2i := inR_iff.1 h2
      refine At.a 3 ?_
      by_cases h3 : (k : Int) > 0
      · refine At.sB 23 (decide ((k : Int) > 0)) true (sayT h3) ?_
        refine At.a 3 ?_
        refine At.sI 26 ((k : Int) - 1) (by omega) ?_
        refine At.iSl 27 27 (.tmp 24) (.tmp 26) false 1 (list.map encI) .i64 ((k : Int) - 1) 3 (by omega) (by simp only [List.length_map, List.length_append, List.length_take, List.length_drop, List.length_replicate, List.length_set, List.length_cons, List.length_nil]; omega) ?_
        refine Exists.elim (show ∃ e, list[((k : Int) - 1).toNat]? = some e from ⟨_, List.getElem?_eq_getElem (by omega)⟩) fun e2 he2 => ?_
        have qe2 := hp1 e2 (by omega) (by rw [show k - 1 = ((k : Int) - 1).toNat from by omega]; exact he2)
        refine At.lVp 3 28 (.tmp 27) false 1 (list.map encI) (((k : Int) - 1).toNat) 0 false 1 (encI e2) (.int .i64 e2) (mapGet he2) ?_
        refine At.a 2 ?_
        refine At.iSl 27 31 (.tmp 29) (.tmp 30) false 1 (list.map encI) .i64 (k : Int) 3 (by omega) (by simp only [List.length_map, List.length_append, List.length_take, List.length_drop, List.length_replicate, List.length_set, List.length_cons, List.length_nil]; omega) ?_
        refine At.lVp 3 32 (.tmp 31) false 1 (list.map encI) k 0 false 1 (encI e1) (.int .i64 e1) (mapGet he1) ?_
        refine At.a 3 ?_
        refine At.done rfl ⟨by kernel_rfl, ?_⟩
        refine AW.cD (e2 ≥ e1) (fun h4 => ?_) (fun h4 => ?_)
        · skip
          refine AW.r ?_
          refine At.a 1 ?_
          refine At.done rfl ?_
          refine AW.ret ?_
          refine ⟨_, Sub.refl _ _, ?_⟩
          refine KF.conv (fun w => .bool w) (fun w => []) (show (false) = (asc (of_ - 1) (-1) list) from by rw [hR, dropCons he1]; first | exact asc_bad1 (by assumption) | exact asc_bad2 (by omega)) ?_
          exact KF.m [] [.bool false]
        · skip
          refine AW.skip ?_
          refine AW.region (At.start ?_)
          refine At.a 2 ?_
          refine At.sI 11 ((k : Int) + 1) (by omega) ?_
          refine At.a 1 ?_
          refine At.done rfl ?_
          exact ⟨k + 1, ⟨by omega, e1, by omega, at_k he1, by have i1 := inR_iff.1 (show inR e1 0 (of_ - 1) = true by simpa using h2); rw [hR, dropCons he1]; exact asc_step (by simpa using h2) (by omega)⟩, (by omega), Sub.o [] [true, true, false, false, false, true]⟩
      · refine At.sB 23 (decide ((k : Int) > 0)) false (sayF h3) ?_
        refine At.a 12 ?_
        refine At.done rfl ⟨by kernel_rfl, ?_⟩
        refine AW.cond false (by kernel_rfl) (fun h => by cases h) (fun _ => ?_)
        refine AW.skip ?_
        refine AW.region (At.start ?_)
        refine At.a 2 ?_
        refine At.sI 11 ((k : Int) + 1) (by omega) ?_
        refine At.a 1 ?_
        refine At.done rfl ?_
        exact ⟨k + 1, ⟨by omega, e1, by omega, at_k he1, by have i1 := inR_iff.1 (show inR e1 0 (of_ - 1) = true by simpa using h2); rw [hR, dropCons he1]; exact asc_step (by simpa using h2) (by omega)⟩, (by omega), Sub.o [] [true, true, false, false, false, true]⟩
    · refine At.sB 20 (!(inR e1 0 (of_ - 1))) true (sayNT (sayB (Bool.eq_false_iff.2 h2))) ?_
      replace h2 := Bool.eq_false_iff.2 h2
      refine At.a 15 ?_
      refine At.done rfl ⟨by kernel_rfl, ?_⟩
      refine AW.cond true (by kernel_rfl) (fun _ => ?_) (fun h => by cases h)
      refine AW.r ?_
      refine At.a 1 ?_
      refine At.done rfl ?_
      refine AW.ret ?_
      refine ⟨_, Sub.refl _ _, ?_⟩
      refine KF.conv (fun w => .bool w) (fun w => []) (show (false) = (asc (of_ - 1) (-1) list) from by rw [hR, dropCons he1]; first | exact asc_bad1 (by assumption) | exact asc_bad2 (by omega)) ?_
      exact KF.m [] [.bool false]
  · skip
    refine AW.exit ?_
    refine AW.r ?_
    refine At.a 1 ?_
    refine At.done rfl ?_
    refine AW.ret ?_
    refine ⟨_, Sub.refl _ _, ?_⟩
    refine KF.conv (fun w => .bool w) (fun w => []) (show (true) = (asc (of_ - 1) (-1) list) from by rw [hR, List.drop_of_length_le (by omega)]; rfl) ?_
    exact KF.m [] [.bool true]
set_option maxRecDepth 100000 in
set_option maxHeartbeats 4000000 in
theorem spec_l7Has_spec  (list : List Int) (x : Int) (hl : list.length ≤ 1048576) : FnSpec Tryz.prog 67 [.sl false 1 (list.map encI), .int .i64 x] [] (.bool (hasI x list)) [] := by
  refine FnSpec.of 18 Tryz.func67 rfl Tryz.ntmps67 (by simp) (AW.weakK ?_)
  refine AW.r ?_
  refine At.a 1 ?_
  refine At.done rfl ?_
  refine AW.seq ?_
  refine AW.r ?_
  refine At.a 1 ?_
  refine At.done rfl ?_
  refine AW.block ?_
  refine AW.loopW (fun (k : Nat) => Go.Sy.mk [.sl false 1 (list.map encI), .int .i64 x, .un, .un, .un, .int .i64 (k : Int)] []) (fun (k : Nat) => k ≤ list.length ∧ hasI x list = hasI x (list.drop k)) (fun (k : Nat) => list.length - k) 0 ⟨by omega, by rw [List.drop_zero]⟩ (Sub.o [] [true, true, false, false, false, true]) ?_
  rintro k ⟨hk, hR⟩
  refine AW.seq ?_
  refine AW.r ?_
  refine At.a 3 ?_
  refine At.sL 8 encI list ?_
  refine At.a 1 ?_
  refine At.done rfl ?_
  refine AW.cD ((k : Int) < (list.length : Int)) (fun h1 => ?_) (fun h1 => ?_)
  · skip
    refine AW.skip ?_
    refine AW.seq ?_
    refine AW.block ?_
    refine AW.r ?_
    refine At.a 2 ?_
    refine At.iSl 27 14 (.tmp 12) (.tmp 13) false 1 (list.map encI) .i64 (k : Int) 3 (by omega) (by simp only [List.length_map, List.length_append, List.length_take, List.length_drop, List.length_replicate, List.length_set, List.length_cons, List.length_nil]; omega) ?_
    refine Exists.elim (show ∃ e, list[k]? = some e from ⟨_, List.getElem?_eq_getElem (by omega)⟩) fun e1 he1 => ?_
    refine At.lVp 3 15 (.tmp 14) false 1 (list.map encI) k 0 false 1 (encI e1) (.int .i64 e1) (mapGet he1) ?_
    refine At.a 2 ?_
    refine At.done rfl ?_
    refine AW.cE e1 x (fun h2 => ?_) (fun h2 => ?_)
    · skip
      refine AW.r ?_
      refine At.a 1 ?_
      refine At.done rfl ?_
      refine AW.ret ?_
      refine ⟨_, Sub.refl _ _, ?_⟩
      refine KF.conv (fun w => .bool w) (fun w => []) (show (true) = (hasI x list) from by rw [hR]; first | (rw [List.drop_of_length_le (by omega)]; rfl) | (rw [dropCons ‹_›]; simp_all [hasI])) ?_
      exact KF.m [] [.bool true]
    · skip
      refine AW.skip ?_
      refine AW.region (At.start ?_)
      refine At.a 2 ?_
      refine At.sI 11 ((k : Int) + 1) (by omega) ?_
      refine At.a 1 ?_
      refine At.done rfl ?_
      exact ⟨k + 1, ⟨by omega, by rw [hR, dropCons ‹_›]; simp_all [hasI]⟩, by omega, Sub.o [] [true, true, false, false, false, true]⟩
  · skip
    refine AW.exit ?_
    refine AW.r ?_
    refine At.a 1 ?_
    refine At.done rfl ?_
    refine AW.ret ?_
    refine ⟨_, Sub.refl _ _, ?_⟩
    refine KF.conv (fun w => .bool w) (fun w => []) (show (false) = (hasI x list) from by rw [hR]; first | (rw [List.drop_of_length_le (by omega)]; rfl) | (rw [dropCons ‹_›]; simp_all [hasI])) ?_
    exact KF.m [] [.bool false]
set_option maxRecDepth 100000 in
set_option maxHeartbeats 4000000 in
theorem spec_RaftOk_spec  (r : Raft) (hz : SmallR r) : FnSpec Tryz.prog 18 [.agg [.int .i64 r.id, .int .i64 r.of_, .int .i64 r.role, .int .i64 r.commit, .int .i64 r.hard.term, .int .i64 r.hard.vote, .sl false 6 (r.hard.log.map encEnt), .sl false 1 (r.yes.map encI), .sl false 1 (r.next.map encI), .sl false 1 (r.match_.map encI)]] [] (.bool (raftOk r)) [] := by
  obtain ⟨z1, z2, z3, z4⟩ := id hz
  refine FnSpec.of 143 Tryz.func18 rfl Tryz.ntmps18 (by simp) (AW.weakK ?_)
  refine AW.r ?_
  refine At.a 2 ?_
  refine At.done rfl ?_
  refine AW.seq ?_
  refine AW.seq ?_
  refine AW.cut [(101, 101)] [false, true] 59 (!(raftOk1 r)) ?_ ?_
  · skip
    refine AW.regionD Tryz_mix (At.start ?_)
    refine At.a 2 ?_
    refine At.c (spec_l7Of_spec  r.of_ ) Tryz.call62 true [] [] [] trivial ?_
    refine At.a 2 ?_
    by_cases h1 : (ofOk r.of_) = true
    · refine At.sB 8 (!(ofOk r.of_)) false (sayNF (sayB h1)) ?_
      have h1o := ofOk_iff.1 h1
      refine At.a 5 ?_
      refine At.sI 13 (r.of_ - 1) (by omega) ?_
      refine At.c (spec_l1In_spec  r.id 0 (r.of_ - 1) ) Tryz.call63 true [] [] [] trivial ?_
      refine At.a 3 ?_
      by_cases h2 : (inR r.id 0 (r.of_ - 1)) = true
      · refine At.sB 17 (!(inR r.id 0 (r.of_ - 1))) false (sayNF (sayB h2)) ?_
        have h2i := inR_iff.1 h2
        refine At.a 2 ?_
        refine At.c (spec_l1In_spec  r.role 1 3 ) Tryz.call63 true [] [] [] trivial ?_
        refine At.a 3 ?_
        by_cases h3 : (inR r.role 1 3) = true
        · refine At.sB 23 (!(inR r.role 1 3)) false (sayNF (sayB h3)) ?_
          have h3i := inR_iff.1 h3
          refine At.a 2 ?_
          refine At.c (spec_HardOk_spec  r.hard (by omega)) Tryz.call64 true [] [] [] trivial ?_
          refine At.a 3 ?_
          by_cases h4 : (hardOk r.hard) = true
          · refine At.sB 29 (!(hardOk r.hard)) false (sayNF (sayB h4)) ?_
            refine At.a 3 ?_
            refine At.c (spec_l10End_spec  r ) Tryz.call65 true [] [] [] trivial ?_
            refine At.c (spec_l1In_spec  r.commit 0 (r.hard.log.length : Int) ) Tryz.call63 true [] [] [] trivial ?_
            refine At.a 3 ?_
            by_cases h5 : (inR r.commit 0 (r.hard.log.length : Int)) = true
            · refine At.sB 37 (!(inR r.commit 0 (r.hard.log.length : Int))) false (sayNF (sayB h5)) ?_
              have h5i := inR_iff.1 h5
              refine At.a 3 ?_
              refine At.sL 40 encI r.yes ?_
              refine At.a 5 ?_
              by_cases h6 : (r.yes.length : Int) > r.of_
              · refine At.sB 45 (decide ((r.yes.length : Int) > r.of_)) true (sayT h6) ?_
                refine At.a 14 ?_
                refine At.sB 59 true (!(raftOk1 r)) (congrArg V.bool (by have q : raftOk1 r = false := Bool.eq_false_iff.2 (fun h => by have := raftOk1_len h; omega); simp [q])) ?_
                refine At.done rfl ⟨by kernel_rfl, rfl, ?_⟩
                exact Sub.cut [(101, 101)] [false, true] 59 _ (by kernel_rfl) (by kernel_rfl) (by kernel_rfl) (by kernel_rfl)
              · refine At.sB 45 (decide ((r.yes.length : Int) > r.of_)) false (sayF h6) ?_
                refine At.a 4 ?_
                refine At.c (spec_l7Nodes_spec  r.yes r.of_ (by omega) (by omega)) Tryz.call66 true [] [] [] trivial ?_
                refine At.a 3 ?_
                by_cases h7 : (asc (r.of_ - 1) (-1) r.yes) = true
                · refine At.sB 53 (!(asc (r.of_ - 1) (-1) r.yes)) false (sayNF (sayB h7)) ?_
                  refine At.a 4 ?_
                  refine At.c (spec_l7Has_spec  r.yes r.id (by omega)) Tryz.call67 true [] [] [] trivial ?_
                  refine At.a 1 ?_
                  refine At.sB 59 (hasI r.id r.yes) (!(raftOk1 r)) (congrArg V.bool (by simp [raftOk1, h1, h2, h3, h4, h5, h6, h7]; done)) ?_
                  refine At.done rfl ⟨by kernel_rfl, rfl, ?_⟩
                  exact Sub.cut [(101, 101)] [false, true] 59 _ (by kernel_rfl) (by kernel_rfl) (by kernel_rfl) (by kernel_rfl)
                · refine At.sB 53 (!(asc (r.of_ - 1) (-1) r.yes)) true (sayNT (sayB (Bool.eq_false_iff.2 h7))) ?_
                  replace h7 := Bool.eq_false_iff.2 h7
                  refine At.a 6 ?_
                  refine At.sB 59 true (!(raftOk1 r)) (congrArg V.bool (by simp [raftOk1, h1, h2, h3, h4, h5, h6, h7]; done)) ?_
                  refine At.done rfl ⟨by kernel_rfl, rfl, ?_⟩
                  exact Sub.cut [(101, 101)] [false, true] 59 _ (by kernel_rfl) (by kernel_rfl) (by kernel_rfl) (by kernel_rfl)
            · refine At.sB 37 (!(inR r.commit 0 (r.hard.log.length : Int))) true (sayNT (sayB (Bool.eq_false_iff.2 h5))) ?_
              replace h5 := Bool.eq_false_iff.2 h5
              refine At.a 22 ?_
              refine At.sB 59 true (!(raftOk1 r)) (congrArg V.bool (by simp [raftOk1, h1, h2, h3, h4, h5]; done)) ?_
              refine At.done rfl ⟨by kernel_rfl, rfl, ?_⟩
              exact Sub.cut [(101, 101)] [false, true] 59 _ (by kernel_rfl) (by kernel_rfl) (by kernel_rfl) (by kernel_rfl)
          · refine At.sB 29 (!(hardOk r.hard)) true (sayNT (sayB (Bool.eq_false_iff.2 h4))) ?_
            replace h4 := Bool.eq_false_iff.2 h4
            refine At.a 30 ?_
            refine At.sB 59 true (!(raftOk1 r)) (congrArg V.bool (by simp [raftOk1, h1, h2, h3, h4]; done)) ?_
            refine At.done rfl ⟨by kernel_rfl, rfl, ?_⟩
            exact Sub.cut [(101, 101)] [false, true] 59 _ (by kernel_rfl) (by kernel_rfl) (by kernel_rfl) (by kernel_rfl)
        · refine At.sB 23 (!(inR r.role 1 3)) true (sayNT (sayB (Bool.eq_false_iff.2 h3))) ?_
          replace h3 := Bool.eq_false_iff.2 h3
          refine At.a 36 ?_
          refine At.sB 59 true (!(raftOk1 r)) (congrArg V.bool (by simp [raftOk1, h1, h2, h3]; done)) ?_
          refine At.done rfl ⟨by kernel_rfl, rfl, ?_⟩
          exact Sub.cut [(101, 101)] [false, true] 59 _ (by kernel_rfl) (by kernel_rfl) (by kernel_rfl) (by kernel_rfl)
      · refine At.sB 17 (!(inR r.id 0 (r.of_ - 1))) true (sayNT (sayB (Bool.eq_false_iff.2 h2))) ?_
        replace h2 := Bool.eq_false_iff.2 h2
        refine At.a 42 ?_
        refine At.sB 59 true (!(raftOk1 r)) (congrArg V.bool (by simp [raftOk1, h1, h2]; done)) ?_
        refine At.done rfl ⟨by kernel_rfl, rfl, ?_⟩
        exact Sub.cut [(101, 101)] [false, true] 59 _ (by kernel_rfl) (by kernel_rfl) (by kernel_rfl) (by kernel_rfl)
    · refine At.sB 8 (!(ofOk r.of_)) true (sayNT (sayB (Bool.eq_false_iff.2 h1))) ?_
      replace h1 := Bool.eq_false_iff.2 h1
      refine At.a 51 ?_
      refine At.sB 59 true (!(raftOk1 r)) (congrArg V.bool (by simp [raftOk1, h1]; done)) ?_
      refine At.done rfl ⟨by kernel_rfl, rfl, ?_⟩
      exact Sub.cut [(101, 101)] [false, true] 59 _ (by kernel_rfl) (by kernel_rfl) (by kernel_rfl) (by kernel_rfl)
  refine AW.cNB (raftOk1 r) (fun h8 => ?_) (fun h8 => ?_)
  · skip
    refine AW.r ?_
    refine At.a 1 ?_
    refine At.done rfl ?_
    refine AW.ret ?_
    refine ⟨_, Sub.refl _ _, ?_⟩
    refine KF.conv (fun w => .bool w) (fun w => []) (show (false) = (raftOk r) from by grind [raftOk, raftOk3]) ?_
    exact KF.m [] [.bool false]
  · skip
    have h8n := raftOk1_nums h8
    refine AW.skip ?_
    refine AW.seq ?_
    refine AW.seq ?_
    refine AW.cut [(101, 101)] [false, true] 88 (!(raftOk2 r)) ?_ ?_
    · skip
      refine AW.region (At.start ?_)
      refine At.a 4 ?_
      by_cases h9 : r.role = 2
      · refine At.sB 63 (r.role != 2) false (sayUF h9) ?_
        refine At.a 10 ?_
        by_cases h10 : r.role = 1
        · refine At.sB 73 (r.role != 1) false (sayUF h10) ?_
          refine At.a 15 ?_
          refine At.sB 88 false (!(raftOk2 r)) (congrArg V.bool (by grind [raftOk2])) ?_
          refine At.done rfl ⟨rfl, ?_⟩
          exact Sub.cut [(101, 101)] [false, true] 88 _ (by kernel_rfl) (by kernel_rfl) (by kernel_rfl) (by kernel_rfl)
        · refine At.sB 73 (r.role != 1) true (sayUT h10) ?_
          refine At.a 5 ?_
          by_cases h11 : r.hard.term < 1
          · refine At.sB 78 (decide (r.hard.term < 1)) true (sayT h11) ?_
            refine At.a 10 ?_
            refine At.sB 88 true (!(raftOk2 r)) (congrArg V.bool (by grind [raftOk2])) ?_
            refine At.done rfl ⟨rfl, ?_⟩
            exact Sub.cut [(101, 101)] [false, true] 88 _ (by kernel_rfl) (by kernel_rfl) (by kernel_rfl) (by kernel_rfl)
          · refine At.sB 78 (decide (r.hard.term < 1)) false (sayF h11) ?_
            refine At.a 6 ?_
            refine At.sI 84 (r.id + 1) (by omega) ?_
            refine At.a 4 ?_
            refine At.sB 88 (r.hard.vote != (r.id + 1)) (!(raftOk2 r)) (congrArg V.bool (by grind [raftOk2])) ?_
            refine At.done rfl ⟨rfl, ?_⟩
            exact Sub.cut [(101, 101)] [false, true] 88 _ (by kernel_rfl) (by kernel_rfl) (by kernel_rfl) (by kernel_rfl)
      · refine At.sB 63 (r.role != 2) true (sayUT h9) ?_
        refine At.a 3 ?_
        refine At.sL 66 encI r.yes ?_
        refine At.a 3 ?_
        by_cases h12 : (r.yes.length : Int) > 0
        · refine At.sB 69 (decide ((r.yes.length : Int) > 0)) true (sayT h12) ?_
          refine At.a 19 ?_
          refine At.sB 88 true (!(raftOk2 r)) (congrArg V.bool (by grind [raftOk2])) ?_
          refine At.done rfl ⟨rfl, ?_⟩
          exact Sub.cut [(101, 101)] [false, true] 88 _ (by kernel_rfl) (by kernel_rfl) (by kernel_rfl) (by kernel_rfl)
        · refine At.sB 69 (decide ((r.yes.length : Int) > 0)) false (sayF h12) ?_
          refine At.a 4 ?_
          by_cases h13 : r.role = 1
          · refine At.sB 73 (r.role != 1) false (sayUF h13) ?_
            refine At.a 15 ?_
            refine At.sB 88 false (!(raftOk2 r)) (congrArg V.bool (by grind [raftOk2])) ?_
            refine At.done rfl ⟨rfl, ?_⟩
            exact Sub.cut [(101, 101)] [false, true] 88 _ (by kernel_rfl) (by kernel_rfl) (by kernel_rfl) (by kernel_rfl)
          · refine At.sB 73 (r.role != 1) true (sayUT h13) ?_
            refine At.a 5 ?_
            by_cases h14 : r.hard.term < 1
            · refine At.sB 78 (decide (r.hard.term < 1)) true (sayT h14) ?_
              refine At.a 10 ?_
              refine At.sB 88 true (!(raftOk2 r)) (congrArg V.bool (by grind [raftOk2])) ?_
              refine At.done rfl ⟨rfl, ?_⟩
              exact Sub.cut [(101, 101)] [false, true] 88 _ (by kernel_rfl) (by kernel_rfl) (by kernel_rfl) (by kernel_rfl)
            · refine At.sB 78 (decide (r.hard.term < 1)) false (sayF h14) ?_
              refine At.a 6 ?_
              refine At.sI 84 (r.id + 1) (by omega) ?_
              refine At.a 4 ?_
              refine At.sB 88 (r.hard.vote != (r.id + 1)) (!(raftOk2 r)) (congrArg V.bool (by grind [raftOk2])) ?_
              refine At.done rfl ⟨rfl, ?_⟩
              exact Sub.cut [(101, 101)] [false, true] 88 _ (by kernel_rfl) (by kernel_rfl) (by kernel_rfl) (by kernel_rfl)
    refine AW.cNB (raftOk2 r) (fun h15 => ?_) (fun h15 => ?_)
    · skip
      refine AW.r ?_
      refine At.a 1 ?_
      refine At.done rfl ?_
      refine AW.ret ?_
      refine ⟨_, Sub.refl _ _, ?_⟩
      refine KF.conv (fun w => .bool w) (fun w => []) (show (false) = (raftOk r) from by grind [raftOk, raftOk3]) ?_
      exact KF.m [] [.bool false]
    · skip
      refine AW.skip ?_
      refine AW.seq ?_
      refine AW.r ?_
      refine At.a 3 ?_
      refine At.done rfl ?_
      refine AW.cU r.role (3 : Int) (fun h16 => ?_) (fun h16 => ?_)
      · skip
        refine AW.r ?_
        refine At.a 3 ?_
        refine At.sL 94 encI r.next ?_
        refine At.a 2 ?_
        by_cases h17 : (r.next.length : Int) = 0
        · refine At.sB 96 ((r.next.length : Int) == 0) true (sayET h17) ?_
          refine At.a 3 ?_
          refine At.sL 99 encI r.match_ ?_
          refine At.a 3 ?_
          refine At.done rfl ?_
          refine AW.ret ?_
          refine ⟨_, Sub.refl _ _, ?_⟩
          refine KF.conv (fun w => .bool w) (fun w => []) (show ((r.match_.length : Int) == 0) = (raftOk r) from by grind [raftOk, raftOk3]) ?_
          exact KF.m [] [.bool ((r.match_.length : Int) == 0)]
        · refine At.sB 96 ((r.next.length : Int) == 0) false (sayEF h17) ?_
          refine At.a 6 ?_
          refine At.done rfl ?_
          refine AW.ret ?_
          refine ⟨_, Sub.refl _ _, ?_⟩
          refine KF.conv (fun w => .bool w) (fun w => []) (show (false) = (raftOk r) from by grind [raftOk, raftOk3]) ?_
          exact KF.m [] [.bool false]
      · skip
        refine AW.skip ?_
        refine AW.seq ?_
        refine AW.r ?_
        refine At.a 3 ?_
        refine At.sL 104 encI r.next ?_
        refine At.a 4 ?_
        by_cases h18 : (r.next.length : Int) = r.of_
        · refine At.sB 108 ((r.next.length : Int) != r.of_) false (sayUF h18) ?_
          refine At.a 3 ?_
          refine At.sL 111 encI r.match_ ?_
          refine At.a 4 ?_
          refine At.done rfl ?_
          refine AW.cU (r.match_.length : Int) r.of_ (fun h19 => ?_) (fun h19 => ?_)
          · skip
            refine AW.r ?_
            refine At.a 1 ?_
            refine At.done rfl ?_
            refine AW.ret ?_
            refine ⟨_, Sub.refl _ _, ?_⟩
            refine KF.conv (fun w => .bool w) (fun w => []) (show (false) = (raftOk r) from by grind [raftOk, raftOk3]) ?_
            exact KF.m [] [.bool false]
          · skip
            refine AW.skip ?_
            refine AW.seq ?_
            refine AW.r ?_
            refine At.a 1 ?_
            refine At.done rfl ?_
            refine AW.block ?_
            refine AW.loopW (fun (k : Nat) => Go.Sy.mk [.un, .ptr 101 0 0, .un, .int .i64 (k : Int)] [(101, .box 29 [.int .i64 r.id, .int .i64 r.of_, .int .i64 r.role, .int .i64 r.commit, .int .i64 r.hard.term, .int .i64 r.hard.vote, .sl false 6 (r.hard.log.map encEnt), .sl false 1 (r.yes.map encI), .sl false 1 (r.next.map encI), .sl false 1 (r.match_.map encI)])]) (fun (k : Nat) => (k : Int) ≤ r.of_ ∧ allIn 1 (r.hard.log.length + 1) r.next = allIn 1 (r.hard.log.length + 1) (r.next.drop k) ∧ allIn 0 r.hard.log.length r.match_ = allIn 0 r.hard.log.length (r.match_.drop k)) (fun (k : Nat) => r.of_.toNat - k) 0 ⟨by omega, by rw [List.drop_zero], by rw [List.drop_zero]⟩ (Sub.o [(101, 101)] [false, true, false, true]) ?_
            rintro k ⟨hk, hR1, hR2⟩
            refine AW.seq ?_
            refine AW.r ?_
            refine At.a 4 ?_
            refine At.done rfl ?_
            refine AW.cD ((k : Int) < r.of_) (fun h20 => ?_) (fun h20 => ?_)
            · skip
              refine AW.skip ?_
              refine AW.seq ?_
              refine AW.block ?_
              refine AW.seq ?_
              refine AW.regionD Tryz_mix (At.start ?_)
              refine At.a 3 ?_
              refine At.iSl 27 125 (.tmp 123) (.tmp 124) false 1 (r.next.map encI) .i64 (k : Int) 3 (by omega) (by simp only [List.length_map, List.length_append, List.length_take, List.length_drop, List.length_replicate, List.length_set, List.length_cons, List.length_nil]; omega) ?_
              refine Exists.elim (show ∃ e, r.next[k]? = some e from ⟨_, List.getElem?_eq_getElem (by omega)⟩) fun e1 he1 => ?_
              refine At.lVp 3 126 (.tmp 125) false 1 (r.next.map encI) k 0 false 1 (encI e1) (.int .i64 e1) (mapGet he1) ?_
              refine At.a 1 ?_
              refine At.c (spec_l10End_spec  r ) Tryz.call65 true [] [] [] trivial ?_
              refine At.a 1 ?_
              refine At.sI 129 ((r.hard.log.length : Int) + 1) (by omega) ?_
              refine At.c (spec_l1In_spec  e1 1 ((r.hard.log.length : Int) + 1) ) Tryz.call63 true [] [] [] trivial ?_
              refine At.a 2 ?_
              by_cases h21 : (inR e1 1 ((r.hard.log.length : Int) + 1)) = true
              · refine At.sB 132 (!(inR e1 1 ((r.hard.log.length : Int) + 1))) false (sayNF (sayB h21)) ?_
                have h21i := inR_iff.1 h21
                refine At.a 3 ?_
                refine At.iSl 27 136 (.tmp 134) (.tmp 135) false 1 (r.match_.map encI) .i64 (k : Int) 3 (by omega) (by simp only [List.length_map, List.length_append, List.length_take, List.length_drop, List.length_replicate, List.length_set, List.length_cons, List.length_nil]; omega) ?_
                refine Exists.elim (show ∃ e, r.match_[k]? = some e from ⟨_, List.getElem?_eq_getElem (by omega)⟩) fun e2 he2 => ?_
                refine At.lVp 3 137 (.tmp 136) false 1 (r.match_.map encI) k 0 false 1 (encI e2) (.int .i64 e2) (mapGet he2) ?_
                refine At.a 1 ?_
                refine At.c (spec_l10End_spec  r ) Tryz.call65 true [] [] [] trivial ?_
                refine At.c (spec_l1In_spec  e2 0 (r.hard.log.length : Int) ) Tryz.call63 true [] [] [] trivial ?_
                refine At.a 2 ?_
                refine At.done rfl ⟨by kernel_rfl, ?_⟩
                refine AW.cNB (inR e2 0 (r.hard.log.length : Int)) (fun h22 => ?_) (fun h22 => ?_)
                · skip
                  refine AW.r ?_
                  refine At.a 1 ?_
                  refine At.done rfl ?_
                  refine AW.ret ?_
                  refine ⟨_, Sub.refl _ _, ?_⟩
                  refine KF.conv (fun w => .bool w) (fun w => []) (show (false) = (raftOk r) from by rw [dropCons he2] at hR2; grind [raftOk, raftOk3, allIn]) ?_
                  exact KF.m [] [.bool false]
                · skip
                  have h22i := inR_iff.1 h22
                  refine AW.skip ?_
                  refine AW.region (At.start ?_)
                  refine At.a 2 ?_
                  refine At.sI 121 ((k : Int) + 1) (by omega) ?_
                  refine At.a 1 ?_
                  refine At.done rfl ?_
                  exact ⟨k + 1, ⟨by omega, by rw [hR1, dropCons he1, allIn]; simp only [*, Bool.true_and], by rw [hR2, dropCons he2, allIn]; simp only [*, Bool.true_and]⟩, (by omega), Sub.o [(101, 101)] [false, true, false, true]⟩
              · refine At.sB 132 (!(inR e1 1 ((r.hard.log.length : Int) + 1))) true (sayNT (sayB (Bool.eq_false_iff.2 h21))) ?_
                replace h21 := Bool.eq_false_iff.2 h21
                refine At.a 10 ?_
                refine At.done rfl ⟨by kernel_rfl, ?_⟩
                refine AW.cond true (by kernel_rfl) (fun _ => ?_) (fun h => by cases h)
                refine AW.r ?_
                refine At.a 1 ?_
                refine At.done rfl ?_
                refine AW.ret ?_
                refine ⟨_, Sub.refl _ _, ?_⟩
                refine KF.conv (fun w => .bool w) (fun w => []) (show (false) = (raftOk r) from by rw [dropCons he1] at hR1; grind [raftOk, raftOk3, allIn]) ?_
                exact KF.m [] [.bool false]
            · skip
              refine AW.exit ?_
              refine AW.r ?_
              refine At.a 1 ?_
              refine At.done rfl ?_
              refine AW.ret ?_
              refine ⟨_, Sub.refl _ _, ?_⟩
              refine KF.conv (fun w => .bool w) (fun w => []) (show (true) = (raftOk r) from by rw [List.drop_of_length_le (by omega)] at hR1 hR2; grind [raftOk, raftOk3, allIn]) ?_
              exact KF.m [] [.bool true]
        · refine At.sB 108 ((r.next.length : Int) != r.of_) true (sayUT h18) ?_
          refine At.a 7 ?_
          refine At.done rfl ?_
          refine AW.cond true (by kernel_rfl) (fun _ => ?_) (fun h => by cases h)
          refine AW.r ?_
          refine At.a 1 ?_
          refine At.done rfl ?_
          refine AW.ret ?_
          refine ⟨_, Sub.refl _ _, ?_⟩
          refine KF.conv (fun w => .bool w) (fun w => []) (show (false) = (raftOk r) from by grind [raftOk, raftOk3]) ?_
          exact KF.m [] [.bool false]
set_option maxRecDepth 100000 in
set_option maxHeartbeats 4000000 in
theorem spec_l6Copy_spec  (h : Hard) (hl : h.log.length ≤ 1048576) : FnSpec Tryz.prog 74 [.agg [.int .i64 h.term, .int .i64 h.vote, .sl false 6 (h.log.map encEnt)]] [] (.agg [.int .i64 h.term, .int .i64 h.vote, .ref 0]) [.arr 45 6 (h.log.map encEnt)] := by
  refine FnSpec.of 12 Tryz.func74 rfl Tryz.ntmps74 (by simp) (AW.weakK ?_)
  refine AW.r ?_
  refine At.a 2 ?_
  refine At.done rfl ?_
  refine AW.seq ?_
  refine AW.weak (Sub.nils [⟨true, 102, some 2, 5001, 45, 6⟩] (by kernel_rfl)) ?_
  refine AW.regionD Tryz_mix (At.start ?_)
  refine At.a 4 ?_
  refine At.lit0 (t := 24) (d := 7) (e := 45) (es := 6) (bytes := 56) 107 (by kernel_rfl) (by kernel_rfl) (by kernel_rfl) (by kernel_rfl) ?_
  refine At.a 2 ?_
  refine At.append (t := 24) (d := 10) (e := 45) (es := 6) (bytes := 56) (s := .tmp 7) (x := .tmp 9) (S := .ref 107) (T := .sl false 6 (h.log.map encEnt)) (xs := []) (ys := (h.log.map encEnt)) 110 [107] [] (h.log.map encEnt) (by kernel_rfl) (by kernel_rfl) (by kernel_rfl) (by kernel_rfl) ⟨by kernel_rfl, rfl⟩ ⟨rfl, rfl, (allP_encEnt _), rfl⟩ (by kernel_rfl) (by kernel_rfl) (by simp) (by simp only [List.length_map, List.length_append, List.length_take, List.length_drop, List.length_replicate, List.length_set, List.length_cons, List.length_nil]; omega) (by simp only [List.length_map, List.length_append, List.length_take, List.length_drop, List.length_replicate, List.length_set, List.length_cons, List.length_nil]; omega) ?_
  refine At.a 2 ?_
  refine At.done rfl ⟨by kernel_rfl, ?_⟩
  refine AW.ret ?_
  refine ⟨_, Sub.refl _ _, ?_⟩
  exact KF.m [(110, 0)] [.agg [.int .i64 h.term, .int .i64 h.vote, .ref 110]]
set_option maxRecDepth 100000 in
set_option maxHeartbeats 4000000 in
theorem spec_l10Copy_spec  (r : Raft) (hz : SmallR r) : FnSpec Tryz.prog 160 [.agg [.int .i64 r.id, .int .i64 r.of_, .int .i64 r.role, .int .i64 r.commit, .int .i64 r.hard.term, .int .i64 r.hard.vote, .sl false 6 (r.hard.log.map encEnt), .sl false 1 (r.yes.map encI), .sl false 1 (r.next.map encI), .sl false 1 (r.match_.map encI)]] [] (.agg [.int .i64 r.id, .int .i64 r.of_, .int .i64 r.role, .int .i64 r.commit, .int .i64 r.hard.term, .int .i64 r.hard.vote, .ref 0, .ref 1, .ref 2, .ref 3]) [.arr 45 6 (r.hard.log.map encEnt), .arr 3 1 (r.yes.map encI), .arr 3 1 (r.next.map encI), .arr 3 1 (r.match_.map encI)] := by
  obtain ⟨z1, z2, z3, z4⟩ := id hz
  refine FnSpec.of 25 Tryz.func160 rfl Tryz.ntmps160 (by simp) (AW.weakK ?_)
  refine AW.r ?_
  refine At.a 2 ?_
  refine At.done rfl ?_
  refine AW.seq ?_
  refine AW.weak (Sub.nils [⟨true, 102, some 6, 5001, 45, 6⟩, ⟨true, 102, some 7, 5002, 3, 1⟩, ⟨true, 102, some 8, 5003, 3, 1⟩, ⟨true, 102, some 9, 5004, 3, 1⟩] (by kernel_rfl)) ?_
  refine AW.region (At.start ?_)
  refine At.a 3 ?_
  refine At.done rfl ?_
  refine AW.r ?_
  refine At.a 2 ?_
  refine At.c (spec_l6Copy_spec  r.hard (by omega)) Tryz.call74 true [] [(1140, 0)] [] trivial ?_
  refine At.a 2 ?_
  refine At.done rfl ?_
  refine AW.r ?_
  refine At.lit0 (t := 27) (d := 9) (e := 3) (es := 1) (bytes := 8) 109 (by kernel_rfl) (by kernel_rfl) (by kernel_rfl) (by kernel_rfl) ?_
  refine At.a 2 ?_
  refine At.append (t := 27) (d := 12) (e := 3) (es := 1) (bytes := 8) (s := .tmp 9) (x := .tmp 11) (S := .ref 109) (T := .sl false 1 (r.yes.map encI)) (xs := []) (ys := (r.yes.map encI)) 112 [109] [] (r.yes.map encI) (by kernel_rfl) (by kernel_rfl) (by kernel_rfl) (by kernel_rfl) ⟨by kernel_rfl, rfl⟩ ⟨rfl, rfl, (allP_encI _), rfl⟩ (by kernel_rfl) (by kernel_rfl) (by simp) (by simp only [List.length_map, List.length_append, List.length_take, List.length_drop, List.length_replicate, List.length_set, List.length_cons, List.length_nil]; omega) (by simp only [List.length_map, List.length_append, List.length_take, List.length_drop, List.length_replicate, List.length_set, List.length_cons, List.length_nil]; omega) ?_
  refine At.a 2 ?_
  refine At.done rfl ?_
  refine AW.r ?_
  refine At.lit0 (t := 27) (d := 14) (e := 3) (es := 1) (bytes := 8) 114 (by kernel_rfl) (by kernel_rfl) (by kernel_rfl) (by kernel_rfl) ?_
  refine At.a 2 ?_
  refine At.append (t := 27) (d := 17) (e := 3) (es := 1) (bytes := 8) (s := .tmp 14) (x := .tmp 16) (S := .ref 114) (T := .sl false 1 (r.next.map encI)) (xs := []) (ys := (r.next.map encI)) 117 [114] [] (r.next.map encI) (by kernel_rfl) (by kernel_rfl) (by kernel_rfl) (by kernel_rfl) ⟨by kernel_rfl, rfl⟩ ⟨rfl, rfl, (allP_encI _), rfl⟩ (by kernel_rfl) (by kernel_rfl) (by simp) (by simp only [List.length_map, List.length_append, List.length_take, List.length_drop, List.length_replicate, List.length_set, List.length_cons, List.length_nil]; omega) (by simp only [List.length_map, List.length_append, List.length_take, List.length_drop, List.length_replicate, List.length_set, List.length_cons, List.length_nil]; omega) ?_
  refine At.a 2 ?_
  refine At.done rfl ?_
  refine AW.r ?_
  refine At.lit0 (t := 27) (d := 19) (e := 3) (es := 1) (bytes := 8) 119 (by kernel_rfl) (by kernel_rfl) (by kernel_rfl) (by kernel_rfl) ?_
  refine At.a 2 ?_
  refine At.append (t := 27) (d := 22) (e := 3) (es := 1) (bytes := 8) (s := .tmp 19) (x := .tmp 21) (S := .ref 119) (T := .sl false 1 (r.match_.map encI)) (xs := []) (ys := (r.match_.map encI)) 122 [119] [] (r.match_.map encI) (by kernel_rfl) (by kernel_rfl) (by kernel_rfl) (by kernel_rfl) ⟨by kernel_rfl, rfl⟩ ⟨rfl, rfl, (allP_encI _), rfl⟩ (by kernel_rfl) (by kernel_rfl) (by simp) (by simp only [List.length_map, List.length_append, List.length_take, List.length_drop, List.length_replicate, List.length_set, List.length_cons, List.length_nil]; omega) (by simp only [List.length_map, List.length_append, List.length_take, List.length_drop, List.length_replicate, List.length_set, List.length_cons, List.length_nil]; omega) ?_
  refine At.a 2 ?_
  refine At.done rfl ?_
  refine AW.r ?_
  refine At.a 2 ?_
  refine At.done rfl ?_
  refine AW.ret ?_
  refine ⟨_, Sub.refl _ _, ?_⟩
  exact KF.m [(1140, 0), (112, 1), (117, 2), (122, 3)] [.agg [.int .i64 r.id, .int .i64 r.of_, .int .i64 r.role, .int .i64 r.commit, .int .i64 r.hard.term, .int .i64 r.hard.vote, .ref 1140, .ref 112, .ref 117, .ref 122]]
set_option maxRecDepth 100000 in
set_option maxHeartbeats 4000000 in
theorem spec_l10Same_spec  (r : Raft) (hz : SmallR r) : FnSpec Tryz.prog 97 [.agg [.int .i64 r.id, .int .i64 r.of_, .int .i64 r.role, .int .i64 r.commit, .int .i64 r.hard.term, .int .i64 r.hard.vote, .sl false 6 (r.hard.log.map encEnt), .sl false 1 (r.yes.map encI), .sl false 1 (r.next.map encI), .sl false 1 (r.match_.map encI)]] [] (.agg [.int .i64 ((same r).id), .int .i64 ((same r).of_), .int .i64 ((same r).role), .int .i64 ((same r).commit), .int .i64 ((same r).hard.term), .int .i64 ((same r).hard.vote), .ref 0, .ref 1, .ref 2, .ref 3]) [.arr 45 6 (((same r).hard.log).map encEnt), .arr 3 1 (((same r).yes).map encI), .arr 3 1 (((same r).next).map encI), .arr 3 1 (((same r).match_).map encI)] := by
  obtain ⟨z1, z2, z3, z4⟩ := id hz
  refine FnSpec.of 9 Tryz.func97 rfl Tryz.ntmps97 (by simp) (AW.weakK ?_)
  refine AW.r ?_
  refine At.a 2 ?_
  refine At.done rfl ?_
  refine AW.seq ?_
  refine AW.seq ?_
  refine AW.weak (Sub.nils [⟨true, 102, some 6, 5001, 45, 6⟩, ⟨true, 102, some 7, 5002, 3, 1⟩, ⟨true, 102, some 8, 5003, 3, 1⟩, ⟨true, 102, some 9, 5004, 3, 1⟩] (by kernel_rfl)) ?_
  refine AW.region (At.start ?_)
  refine At.a 1 ?_
  refine At.c (spec_RaftOk_spec  r hz) Tryz.call18 true [] [] [] trivial ?_
  refine At.a 1 ?_
  refine At.done rfl ?_
  refine AW.cNB (raftOk r) (fun h1 => ?_) (fun h1 => ?_)
  · skip
    refine AW.r ?_
    refine At.a 2 ?_
    refine At.done rfl ?_
    refine AW.ret ?_
    refine ⟨_, Sub.nils [⟨true, 102, some 6, 5005, 45, 6⟩, ⟨true, 102, some 7, 5006, 3, 1⟩, ⟨true, 102, some 8, 5007, 3, 1⟩, ⟨true, 102, some 9, 5008, 3, 1⟩] (by kernel_rfl), ?_⟩
    refine KF.conv (fun w => .agg [.int .i64 w.id, .int .i64 w.of_, .int .i64 w.role, .int .i64 w.commit, .int .i64 w.hard.term, .int .i64 w.hard.vote, .ref 0, .ref 1, .ref 2, .ref 3]) (fun w => [.arr 45 6 (w.hard.log.map encEnt), .arr 3 1 (w.yes.map encI), .arr 3 1 (w.next.map encI), .arr 3 1 (w.match_.map encI)]) (show ((⟨0, 0, 0, 0, ⟨0, 0, []⟩, [], [], []⟩ : Raft)) = (same r) from by simp only [same, h1, if_true] <;> rfl) ?_
    exact KF.m [(5005, 0), (5006, 1), (5007, 2), (5008, 3)] [.agg [.int .i64 0, .int .i64 0, .int .i64 0, .int .i64 0, .int .i64 0, .int .i64 0, .ref 5005, .ref 5006, .ref 5007, .ref 5008]]
  · skip
    have h1n := raftOk1_nums (raftOk_1 h1)
    refine AW.skip ?_
    refine AW.r ?_
    refine At.a 1 ?_
    refine At.c (spec_l10Copy_spec  r hz) Tryz.call160 true [] [(1160, 0), (1161, 1), (1162, 2), (1163, 3)] [] trivial ?_
    refine At.a 1 ?_
    refine At.done rfl ?_
    refine AW.ret ?_
    refine ⟨_, Sub.refl _ _, ?_⟩
    refine KF.conv (fun w => .agg [.int .i64 w.id, .int .i64 w.of_, .int .i64 w.role, .int .i64 w.commit, .int .i64 w.hard.term, .int .i64 w.hard.vote, .ref 0, .ref 1, .ref 2, .ref 3]) (fun w => [.arr 45 6 (w.hard.log.map encEnt), .arr 3 1 (w.yes.map encI), .arr 3 1 (w.next.map encI), .arr 3 1 (w.match_.map encI)]) (show (r) = (same r) from by simp only [same, h1, if_true] <;> rfl) ?_
    exact KF.m [(1160, 0), (1161, 1), (1162, 2), (1163, 3)] [.agg [.int .i64 r.id, .int .i64 r.of_, .int .i64 r.role, .int .i64 r.commit, .int .i64 r.hard.term, .int .i64 r.hard.vote, .ref 1160, .ref 1161, .ref 1162, .ref 1163]]
set_option maxRecDepth 100000 in
set_option maxHeartbeats 4000000 in
theorem spec_l10Same_T_spec  (r : Raft) (hz : SmallR r) (hok : raftOk r = true) : FnSpec Tryz.prog 97 [.agg [.int .i64 r.id, .int .i64 r.of_, .int .i64 r.role, .int .i64 r.commit, .int .i64 r.hard.term, .int .i64 r.hard.vote, .sl false 6 (r.hard.log.map encEnt), .sl false 1 (r.yes.map encI), .sl false 1 (r.next.map encI), .sl false 1 (r.match_.map encI)]] [] (.agg [.int .i64 r.id, .int .i64 r.of_, .int .i64 r.role, .int .i64 r.commit, .int .i64 r.hard.term, .int .i64 r.hard.vote, .ref 0, .ref 1, .ref 2, .ref 3]) [.arr 45 6 (r.hard.log.map encEnt), .arr 3 1 (r.yes.map encI), .arr 3 1 (r.next.map encI), .arr 3 1 (r.match_.map encI)] := by have := spec_l10Same_spec r hz; rw [show same r = r from if_pos hok] at this; exact this
set_option maxRecDepth 100000 in
set_option maxHeartbeats 4000000 in
theorem spec_l10Same_F_spec  (r : Raft) (hz : SmallR r) (hok : ¬ raftOk r = true) : FnSpec Tryz.prog 97 [.agg [.int .i64 r.id, .int .i64 r.of_, .int .i64 r.role, .int .i64 r.commit, .int .i64 r.hard.term, .int .i64 r.hard.vote, .sl false 6 (r.hard.log.map encEnt), .sl false 1 (r.yes.map encI), .sl false 1 (r.next.map encI), .sl false 1 (r.match_.map encI)]] [] (.agg [.int .i64 0, .int .i64 0, .int .i64 0, .int .i64 0, .int .i64 0, .int .i64 0, .ref 0, .ref 1, .ref 2, .ref 3]) [.arr 45 6 [], .arr 3 1 [], .arr 3 1 [], .arr 3 1 []] := by have := spec_l10Same_spec r hz; rw [show same r = zRaft from if_neg hok] at this; exact this
set_option maxRecDepth 100000 in
set_option maxHeartbeats 4000000 in
theorem spec_l8Has_spec  (kind : Int) : FnSpec Tryz.prog 171 [.int .i64 kind] [] (.str (l8F kind)) [] := by
  refine FnSpec.of 10 Tryz.func171 rfl Tryz.ntmps171 (by simp) (AW.weakK ?_)
  refine AW.r ?_
  refine At.a 1 ?_
  refine At.done rfl ?_
  refine AW.seq ?_
  refine AW.r ?_
  refine At.a 1 ?_
  refine At.c (spec_l1In_spec  kind 1 7 ) Tryz.call63 true [] [] [] trivial ?_
  refine At.a 1 ?_
  refine At.done rfl ?_
  refine AW.cNB (inR kind 1 7) (fun h1 => ?_) (fun h1 => ?_)
  · skip
    refine AW.r ?_
    refine At.a 1 ?_
    refine At.done rfl ?_
    refine AW.ret ?_
    refine ⟨_, Sub.refl _ _, ?_⟩
    refine KF.conv (fun w => .str w) (fun w => []) (show ((⟨#[]⟩ : ByteArray)) = (l8F kind) from by simp [l8F, h1]; done) ?_
    exact KF.m [] [.str (⟨#[]⟩ : ByteArray)]
  · skip
    have h1i := inR_iff.1 h1
    refine AW.skip ?_
    refine AW.r ?_
    refine At.litK (t := 183) (d := 6) (e := 9) (es := 1) (bytes := 16) (n := 8) (parts := #[(0, .const (.string ⟨#[]⟩)), (1, .const (.string ⟨#[102, 116, 97, 115]⟩)), (2, .const (.string ⟨#[102, 116, 121]⟩)), (3, .const (.string ⟨#[102, 116, 97, 115, 99, 101]⟩)), (4, .const (.string ⟨#[102, 116, 121, 97]⟩)), (5, .const (.string ⟨#[102, 114, 112]⟩)), (6, .const (.string ⟨#[102, 114, 112, 98]⟩)), (7, .const (.string ⟨#[102, 100]⟩))]) (45, 6) 106 [] [.str (⟨#[]⟩ : ByteArray), .str (⟨#[102, 116, 97, 115]⟩ : ByteArray), .str (⟨#[102, 116, 121]⟩ : ByteArray), .str (⟨#[102, 116, 97, 115, 99, 101]⟩ : ByteArray), .str (⟨#[102, 116, 121, 97]⟩ : ByteArray), .str (⟨#[102, 114, 112]⟩ : ByteArray), .str (⟨#[102, 114, 112, 98]⟩ : ByteArray), .str (⟨#[102, 100]⟩ : ByteArray)] [.str (⟨#[]⟩ : ByteArray), .str (⟨#[102, 116, 97, 115]⟩ : ByteArray), .str (⟨#[102, 116, 121]⟩ : ByteArray), .str (⟨#[102, 116, 97, 115, 99, 101]⟩ : ByteArray), .str (⟨#[102, 116, 121, 97]⟩ : ByteArray), .str (⟨#[102, 114, 112]⟩ : ByteArray), .str (⟨#[102, 114, 112, 98]⟩ : ByteArray), .str (⟨#[102, 100]⟩ : ByteArray)] [.str (⟨#[]⟩ : ByteArray)] [.str (⟨#[]⟩ : ByteArray), .str (⟨#[102, 116, 97, 115]⟩ : ByteArray), .str (⟨#[102, 116, 121]⟩ : ByteArray), .str (⟨#[102, 116, 97, 115, 99, 101]⟩ : ByteArray), .str (⟨#[102, 116, 121, 97]⟩ : ByteArray), .str (⟨#[102, 114, 112]⟩ : ByteArray), .str (⟨#[102, 114, 112, 98]⟩ : ByteArray), .str (⟨#[102, 100]⟩ : ByteArray)] [] (by kernel_rfl) (by kernel_rfl) (by kernel_rfl) (by kernel_rfl) rfl (fun p hp => by cases hp) (by kernel_rfl) ?_
    refine At.a 1 ?_
    refine At.iRf 183 8 (.tmp 6) (.tmp 7) 106 (([(⟨#[]⟩ : ByteArray), (⟨#[102, 116, 97, 115]⟩ : ByteArray), (⟨#[102, 116, 121]⟩ : ByteArray), (⟨#[102, 116, 97, 115, 99, 101]⟩ : ByteArray), (⟨#[102, 116, 121, 97]⟩ : ByteArray), (⟨#[102, 114, 112]⟩ : ByteArray), (⟨#[102, 114, 112, 98]⟩ : ByteArray), (⟨#[102, 100]⟩ : ByteArray)]).map encS) .i64 kind 9 1 (by omega) (by simp only [List.length_map, List.length_append, List.length_take, List.length_drop, List.length_replicate, List.length_set, List.length_cons, List.length_nil]; omega) ?_
    refine Exists.elim (show ∃ e, ([(⟨#[]⟩ : ByteArray), (⟨#[102, 116, 97, 115]⟩ : ByteArray), (⟨#[102, 116, 121]⟩ : ByteArray), (⟨#[102, 116, 97, 115, 99, 101]⟩ : ByteArray), (⟨#[102, 116, 121, 97]⟩ : ByteArray), (⟨#[102, 114, 112]⟩ : ByteArray), (⟨#[102, 114, 112, 98]⟩ : ByteArray), (⟨#[102, 100]⟩ : ByteArray)])[(kind).toNat]? = some e from ⟨_, List.getElem?_eq_getElem (by simp only [List.length_map, List.length_append, List.length_take, List.length_drop, List.length_replicate, List.length_set, List.length_cons, List.length_nil]; omega)⟩) fun e1 he1 => ?_
    refine At.lEl 9 9 (.tmp 8) 106 9 1 (([(⟨#[]⟩ : ByteArray), (⟨#[102, 116, 97, 115]⟩ : ByteArray), (⟨#[102, 116, 121]⟩ : ByteArray), (⟨#[102, 116, 97, 115, 99, 101]⟩ : ByteArray), (⟨#[102, 116, 121, 97]⟩ : ByteArray), (⟨#[102, 114, 112]⟩ : ByteArray), (⟨#[102, 114, 112, 98]⟩ : ByteArray), (⟨#[102, 100]⟩ : ByteArray)]).map encS) ((kind).toNat) 0 false 1 (encS e1) (.str e1) (mapGet he1) ?_
    refine At.a 1 ?_
    refine At.done rfl ?_
    refine AW.ret ?_
    refine ⟨_, Sub.refl _ _, ?_⟩
    refine KF.conv (fun w => .str w) (fun w => []) (show (e1) = (l8F kind) from by rw [l8F, if_pos (by assumption)]; simp only [l8L, he1, Option.getD_some]) ?_
    exact KF.m [] [.str e1]
set_option maxRecDepth 100000 in
set_option maxHeartbeats 4000000 in
theorem spec_l8In_spec  (s : ByteArray) (b : UInt8) (hs : s.size ≤ 1048576) : FnSpec Tryz.prog 179 [.str s, .int .u8 (b.toNat : Int)] [] (.bool (hasU (b.toNat : Int) s.data.toList)) [] := by
  refine FnSpec.of 17 Tryz.func179 rfl Tryz.ntmps179 (by simp) (AW.weakK ?_)
  refine AW.r ?_
  refine At.a 1 ?_
  refine At.done rfl ?_
  refine AW.seq ?_
  refine AW.r ?_
  refine At.a 1 ?_
  refine At.done rfl ?_
  refine AW.block ?_
  refine AW.loopW (fun (k : Nat) => Go.Sy.mk [.str s, .int .u8 (b.toNat : Int), .un, .un, .un, .int .i64 (k : Int)] []) (fun (k : Nat) => k ≤ s.size ∧ hasU (b.toNat : Int) s.data.toList = hasU (b.toNat : Int) (s.data.toList.drop k)) (fun (k : Nat) => s.size - k) 0 ⟨by omega, by rw [List.drop_zero]⟩ (Sub.o [] [true, true, false, false, false, true]) ?_
  rintro k ⟨hk, hR⟩
  refine AW.seq ?_
  refine AW.r ?_
  refine At.a 4 ?_
  refine At.done rfl ?_
  refine AW.cD ((k : Int) < (s.size : Int)) (fun h1 => ?_) (fun h1 => ?_)
  · skip
    refine AW.skip ?_
    refine AW.seq ?_
    refine AW.block ?_
    refine AW.r ?_
    refine At.a 2 ?_
    refine Exists.elim (show ∃ e, s.data[k]? = some e from ⟨_, Array.getElem?_eq_getElem (by show _ < s.size; omega)⟩) fun e1 he1 => ?_
    have hl1 : s.data.toList[k]? = some e1 := by simpa using he1
    refine At.idxStr (t := 9) (d := 14) (x := .tmp 12) (y := .tmp 13) (s := s) (kd := .i64) (i := (k : Int)) e1 (by kernel_rfl) (by kernel_rfl) (by kernel_rfl) (by kernel_rfl) (by omega) he1 ?_
    refine At.a 2 ?_
    refine At.done rfl ?_
    refine AW.cE (e1.toNat : Int) (b.toNat : Int) (fun h2 => ?_) (fun h2 => ?_)
    · skip
      refine AW.r ?_
      refine At.a 1 ?_
      refine At.done rfl ?_
      refine AW.ret ?_
      refine ⟨_, Sub.refl _ _, ?_⟩
      refine KF.conv (fun w => .bool w) (fun w => []) (show (true) = (hasU (b.toNat : Int) s.data.toList) from by rw [hR, dropCons hl1]; simp [hasU, h1, h2]) ?_
      exact KF.m [] [.bool true]
    · skip
      refine AW.skip ?_
      refine AW.region (At.start ?_)
      refine At.a 2 ?_
      refine At.sI 11 ((k : Int) + 1) (by omega) ?_
      refine At.a 1 ?_
      refine At.done rfl ?_
      exact ⟨k + 1, ⟨by omega, by rw [hR, dropCons hl1]; simp [hasU, h1, h2]⟩, (by omega), Sub.o [] [true, true, false, false, false, true]⟩
  · skip
    refine AW.exit ?_
    refine AW.r ?_
    refine At.a 1 ?_
    refine At.done rfl ?_
    refine AW.ret ?_
    refine ⟨_, Sub.refl _ _, ?_⟩
    refine KF.conv (fun w => .bool w) (fun w => []) (show (false) = (hasU (b.toNat : Int) s.data.toList) from by rw [hR, List.drop_of_length_le (by rw [Array.length_toList]; show s.size ≤ _; omega)]; rfl) ?_
    exact KF.m [] [.bool false]
set_option maxRecDepth 100000 in
set_option maxHeartbeats 4000000 in
theorem spec_l8Num_spec  (has : Bool) (x : Int) (lo : Int) (hi : Int) : FnSpec Tryz.prog 178 [.bool has, .int .i64 x, .int .i64 lo, .int .i64 hi] [] (.bool (num8 has x lo hi)) [] := by
  refine FnSpec.of 24 Tryz.func178 rfl Tryz.ntmps178 (by simp) (AW.weakK ?_)
  refine AW.r ?_
  refine At.a 1 ?_
  refine At.done rfl ?_
  refine AW.r ?_
  refine At.a 2 ?_
  by_cases h1 : has = true
  · refine At.sB 10 has true (sayB h1) ?_
    refine At.a 3 ?_
    refine At.c (spec_l1In_spec  x lo hi ) Tryz.call63 true [] [] [] trivial ?_
    refine At.a 2 ?_
    by_cases h2 : (inR x lo hi) = true
    · refine At.sB 16 (inR x lo hi) true (sayB h2) ?_
      have h2i := inR_iff.1 h2
      refine At.a 8 ?_
      refine At.done rfl ?_
      refine AW.ret ?_
      refine ⟨_, Sub.refl _ _, ?_⟩
      refine KF.conv (fun w => .bool w) (fun w => []) (show (true) = (num8 has x lo hi) from by grind [num8]) ?_
      exact KF.m [] [.bool true]
    · refine At.sB 16 (inR x lo hi) false (sayB (Bool.eq_false_iff.2 h2)) ?_
      replace h2 := Bool.eq_false_iff.2 h2
      refine At.a 3 ?_
      refine At.sB 19 (!has) false (sayNF (sayB h1)) ?_
      refine At.a 5 ?_
      refine At.done rfl ?_
      refine AW.ret ?_
      refine ⟨_, Sub.refl _ _, ?_⟩
      refine KF.conv (fun w => .bool w) (fun w => []) (show (false) = (num8 has x lo hi) from by grind [num8]) ?_
      exact KF.m [] [.bool false]
  · refine At.sB 10 has false (sayB (Bool.eq_false_iff.2 h1)) ?_
    replace h1 := Bool.eq_false_iff.2 h1
    refine At.a 9 ?_
    refine At.sB 19 (!has) true (sayNT (sayB h1)) ?_
    refine At.a 5 ?_
    refine At.done rfl ?_
    refine AW.ret ?_
    refine ⟨_, Sub.refl _ _, ?_⟩
    refine KF.conv (fun w => .bool w) (fun w => []) (show (x == 0) = (num8 has x lo hi) from by grind [num8]) ?_
    exact KF.m [] [.bool (x == 0)]
set_option maxRecDepth 100000 in
set_option maxHeartbeats 4000000 in
theorem spec_MsgFits_spec  (m : Msg) (hl : m.entries.length ≤ 1048576) : FnSpec Tryz.prog 163 [.agg [.int .i64 m.kind, .int .i64 m.from_, .int .i64 m.term, .int .i64 m.at_, .int .i64 m.atTerm, .int .i64 m.commit, .bool m.yes, .int .i64 m.release, .int .i64 m.part, .str m.bytes, .int .i64 m.cmd.kind, .int .i64 m.cmd.release, .int .i64 m.cmd.node, .int .i64 m.cmd.size, .str m.cmd.digest, .sl false 6 (m.entries.map encEnt)]] [] (.bool (msgFits m)) [] := by
  refine FnSpec.of 132 Tryz.func163 rfl Tryz.ntmps163 (by simp) (AW.weakK ?_)
  refine AW.r ?_
  refine At.a 2 ?_
  refine At.done rfl ?_
  refine AW.r ?_
  refine At.a 2 ?_
  refine At.c (spec_l8Has_spec  m.kind ) Tryz.call171 true [] [] [] trivial ?_
  refine At.a 1 ?_
  refine At.done rfl ?_
  refine AW.seq ?_
  refine AW.seq ?_
  refine AW.cut [(101, 101)] [false, true, false, true] 50 (!(fits1 m)) ?_ ?_
  · skip
    refine AW.regionD Tryz_mix (At.start ?_)
    refine At.a 3 ?_
    by_cases h1 : (l8F m.kind).toList = (⟨#[]⟩ : ByteArray).toList
    · refine At.sB 11 ((l8F m.kind).toList == (⟨#[]⟩ : ByteArray).toList) true (sayET h1) ?_
      refine At.a 39 ?_
      refine At.sB 50 true (!(fits1 m)) (congrArg V.bool (by simp only [noBytes] at *; grind [fits1, hasF])) ?_
      refine At.done rfl ⟨by kernel_rfl, rfl, ?_⟩
      exact Sub.cut [(101, 101)] [false, true, false, true] 50 _ (by kernel_rfl) (by kernel_rfl) (by kernel_rfl) (by kernel_rfl)
    · refine At.sB 11 ((l8F m.kind).toList == (⟨#[]⟩ : ByteArray).toList) false (sayEF h1) ?_
      refine At.a 1 ?_
      refine At.c (spec_l8In_spec  (l8F m.kind) (102 : UInt8) (l8F_small _)) Tryz.call179 true [] [] [] trivial ?_
      refine At.a 2 ?_
      refine At.c (spec_l8Num_spec  (hasU ((102 : UInt8).toNat : Int) (l8F m.kind).data.toList) m.from_ 0 4 ) Tryz.call178 true [] [] [] trivial ?_
      refine At.a 3 ?_
      by_cases h2 : (num8 (hasU ((102 : UInt8).toNat : Int) (l8F m.kind).data.toList) m.from_ 0 4) = true
      · refine At.sB 19 (!(num8 (hasU ((102 : UInt8).toNat : Int) (l8F m.kind).data.toList) m.from_ 0 4)) false (sayNF (sayB h2)) ?_
        refine At.a 1 ?_
        refine At.c (spec_l8In_spec  (l8F m.kind) (116 : UInt8) (l8F_small _)) Tryz.call179 true [] [] [] trivial ?_
        refine At.a 2 ?_
        refine At.c (spec_l8Num_spec  (hasU ((116 : UInt8).toNat : Int) (l8F m.kind).data.toList) m.term 0 1000000000 ) Tryz.call178 true [] [] [] trivial ?_
        refine At.a 3 ?_
        by_cases h3 : (num8 (hasU ((116 : UInt8).toNat : Int) (l8F m.kind).data.toList) m.term 0 1000000000) = true
        · refine At.sB 27 (!(num8 (hasU ((116 : UInt8).toNat : Int) (l8F m.kind).data.toList) m.term 0 1000000000)) false (sayNF (sayB h3)) ?_
          refine At.a 1 ?_
          refine At.c (spec_l8In_spec  (l8F m.kind) (97 : UInt8) (l8F_small _)) Tryz.call179 true [] [] [] trivial ?_
          refine At.a 2 ?_
          refine At.c (spec_l8Num_spec  (hasU ((97 : UInt8).toNat : Int) (l8F m.kind).data.toList) m.at_ 0 80 ) Tryz.call178 true [] [] [] trivial ?_
          refine At.a 3 ?_
          by_cases h4 : (num8 (hasU ((97 : UInt8).toNat : Int) (l8F m.kind).data.toList) m.at_ 0 80) = true
          · refine At.sB 35 (!(num8 (hasU ((97 : UInt8).toNat : Int) (l8F m.kind).data.toList) m.at_ 0 80)) false (sayNF (sayB h4)) ?_
            refine At.a 1 ?_
            refine At.c (spec_l8In_spec  (l8F m.kind) (115 : UInt8) (l8F_small _)) Tryz.call179 true [] [] [] trivial ?_
            refine At.a 2 ?_
            refine At.c (spec_l8Num_spec  (hasU ((115 : UInt8).toNat : Int) (l8F m.kind).data.toList) m.atTerm 0 1000000000 ) Tryz.call178 true [] [] [] trivial ?_
            refine At.a 3 ?_
            by_cases h5 : (num8 (hasU ((115 : UInt8).toNat : Int) (l8F m.kind).data.toList) m.atTerm 0 1000000000) = true
            · refine At.sB 43 (!(num8 (hasU ((115 : UInt8).toNat : Int) (l8F m.kind).data.toList) m.atTerm 0 1000000000)) false (sayNF (sayB h5)) ?_
              refine At.a 1 ?_
              refine At.c (spec_l8In_spec  (l8F m.kind) (99 : UInt8) (l8F_small _)) Tryz.call179 true [] [] [] trivial ?_
              refine At.a 2 ?_
              refine At.c (spec_l8Num_spec  (hasU ((99 : UInt8).toNat : Int) (l8F m.kind).data.toList) m.commit 0 80 ) Tryz.call178 true [] [] [] trivial ?_
              refine At.a 2 ?_
              refine At.sB 50 (!(num8 (hasU ((99 : UInt8).toNat : Int) (l8F m.kind).data.toList) m.commit 0 80)) (!(fits1 m)) (congrArg V.bool (by simp only [noBytes] at *; grind [fits1, hasF])) ?_
              refine At.done rfl ⟨by kernel_rfl, rfl, ?_⟩
              exact Sub.cut [(101, 101)] [false, true, false, true] 50 _ (by kernel_rfl) (by kernel_rfl) (by kernel_rfl) (by kernel_rfl)
            · refine At.sB 43 (!(num8 (hasU ((115 : UInt8).toNat : Int) (l8F m.kind).data.toList) m.atTerm 0 1000000000)) true (sayNT (sayB (Bool.eq_false_iff.2 h5))) ?_
              replace h5 := Bool.eq_false_iff.2 h5
              refine At.a 7 ?_
              refine At.sB 50 true (!(fits1 m)) (congrArg V.bool (by simp only [noBytes] at *; grind [fits1, hasF])) ?_
              refine At.done rfl ⟨by kernel_rfl, rfl, ?_⟩
              exact Sub.cut [(101, 101)] [false, true, false, true] 50 _ (by kernel_rfl) (by kernel_rfl) (by kernel_rfl) (by kernel_rfl)
          · refine At.sB 35 (!(num8 (hasU ((97 : UInt8).toNat : Int) (l8F m.kind).data.toList) m.at_ 0 80)) true (sayNT (sayB (Bool.eq_false_iff.2 h4))) ?_
            replace h4 := Bool.eq_false_iff.2 h4
            refine At.a 15 ?_
            refine At.sB 50 true (!(fits1 m)) (congrArg V.bool (by simp only [noBytes] at *; grind [fits1, hasF])) ?_
            refine At.done rfl ⟨by kernel_rfl, rfl, ?_⟩
            exact Sub.cut [(101, 101)] [false, true, false, true] 50 _ (by kernel_rfl) (by kernel_rfl) (by kernel_rfl) (by kernel_rfl)
        · refine At.sB 27 (!(num8 (hasU ((116 : UInt8).toNat : Int) (l8F m.kind).data.toList) m.term 0 1000000000)) true (sayNT (sayB (Bool.eq_false_iff.2 h3))) ?_
          replace h3 := Bool.eq_false_iff.2 h3
          refine At.a 23 ?_
          refine At.sB 50 true (!(fits1 m)) (congrArg V.bool (by simp only [noBytes] at *; grind [fits1, hasF])) ?_
          refine At.done rfl ⟨by kernel_rfl, rfl, ?_⟩
          exact Sub.cut [(101, 101)] [false, true, false, true] 50 _ (by kernel_rfl) (by kernel_rfl) (by kernel_rfl) (by kernel_rfl)
      · refine At.sB 19 (!(num8 (hasU ((102 : UInt8).toNat : Int) (l8F m.kind).data.toList) m.from_ 0 4)) true (sayNT (sayB (Bool.eq_false_iff.2 h2))) ?_
        replace h2 := Bool.eq_false_iff.2 h2
        refine At.a 31 ?_
        refine At.sB 50 true (!(fits1 m)) (congrArg V.bool (by simp only [noBytes] at *; grind [fits1, hasF])) ?_
        refine At.done rfl ⟨by kernel_rfl, rfl, ?_⟩
        exact Sub.cut [(101, 101)] [false, true, false, true] 50 _ (by kernel_rfl) (by kernel_rfl) (by kernel_rfl) (by kernel_rfl)
  refine AW.cNB (fits1 m) (fun h6 => ?_) (fun h6 => ?_)
  · skip
    refine AW.r ?_
    refine At.a 1 ?_
    refine At.done rfl ?_
    refine AW.ret ?_
    refine ⟨_, Sub.refl _ _, ?_⟩
    refine KF.conv (fun w => .bool w) (fun w => []) (show (false) = (msgFits m) from by grind [msgFits]) ?_
    exact KF.m [] [.bool false]
  · skip
    refine AW.skip ?_
    refine AW.seq ?_
    refine AW.seq ?_
    refine AW.cut [(101, 101)] [false, true, false, true] 97 (!(fits2 m)) ?_ ?_
    · skip
      refine AW.regionD Tryz_mix (At.start ?_)
      refine At.a 1 ?_
      refine At.c (spec_l8In_spec  (l8F m.kind) (114 : UInt8) (l8F_small _)) Tryz.call179 true [] [] [] trivial ?_
      refine At.a 2 ?_
      refine At.c (spec_l8Num_spec  (hasU ((114 : UInt8).toNat : Int) (l8F m.kind).data.toList) m.release 1 1000 ) Tryz.call178 true [] [] [] trivial ?_
      refine At.a 2 ?_
      by_cases h7 : (num8 (hasU ((114 : UInt8).toNat : Int) (l8F m.kind).data.toList) m.release 1 1000) = true
      · refine At.sB 57 (!(num8 (hasU ((114 : UInt8).toNat : Int) (l8F m.kind).data.toList) m.release 1 1000)) false (sayNF (sayB h7)) ?_
        refine At.a 1 ?_
        refine At.c (spec_l8In_spec  (l8F m.kind) (112 : UInt8) (l8F_small _)) Tryz.call179 true [] [] [] trivial ?_
        refine At.a 2 ?_
        refine At.c (spec_l8Num_spec  (hasU ((112 : UInt8).toNat : Int) (l8F m.kind).data.toList) m.part 0 1000 ) Tryz.call178 true [] [] [] trivial ?_
        refine At.a 3 ?_
        by_cases h8 : (num8 (hasU ((112 : UInt8).toNat : Int) (l8F m.kind).data.toList) m.part 0 1000) = true
        · refine At.sB 65 (!(num8 (hasU ((112 : UInt8).toNat : Int) (l8F m.kind).data.toList) m.part 0 1000)) false (sayNF (sayB h8)) ?_
          refine At.a 3 ?_
          by_cases h9 : m.yes = true
          · refine At.sB 68 m.yes true (sayB h9) ?_
            refine At.a 1 ?_
            refine At.c (spec_l8In_spec  (l8F m.kind) (121 : UInt8) (l8F_small _)) Tryz.call179 true [] [] [] trivial ?_
            refine At.a 4 ?_
            by_cases h10 : (hasU ((121 : UInt8).toNat : Int) (l8F m.kind).data.toList) = true
            · refine At.sB 74 (!(hasU ((121 : UInt8).toNat : Int) (l8F m.kind).data.toList)) false (sayNF (sayB h10)) ?_
              refine At.a 1 ?_
              refine At.c (spec_l8In_spec  (l8F m.kind) (98 : UInt8) (l8F_small _)) Tryz.call179 true [] [] [] trivial ?_
              refine At.a 3 ?_
              refine At.c (spec_l8Num_spec  (hasU ((98 : UInt8).toNat : Int) (l8F m.kind).data.toList) (m.bytes.size : Int) 1 16 ) Tryz.call178 true [] [] [] trivial ?_
              refine At.a 3 ?_
              by_cases h11 : (num8 (hasU ((98 : UInt8).toNat : Int) (l8F m.kind).data.toList) (m.bytes.size : Int) 1 16) = true
              · refine At.sB 83 (!(num8 (hasU ((98 : UInt8).toNat : Int) (l8F m.kind).data.toList) (m.bytes.size : Int) 1 16)) false (sayNF (sayB h11)) ?_
                refine At.a 1 ?_
                refine At.c (spec_l8In_spec  (l8F m.kind) (101 : UInt8) (l8F_small _)) Tryz.call179 true [] [] [] trivial ?_
                refine At.a 1 ?_
                by_cases h12 : (hasU ((101 : UInt8).toNat : Int) (l8F m.kind).data.toList) = true
                · refine At.sB 86 (hasU ((101 : UInt8).toNat : Int) (l8F m.kind).data.toList) true (sayB h12) ?_
                  refine At.a 8 ?_
                  refine At.sL 94 encEnt m.entries ?_
                  refine At.c (spec_l8Num_spec  true (m.entries.length : Int) 0 6 ) Tryz.call178 true [] [] [] trivial ?_
                  refine At.a 2 ?_
                  refine At.sB 97 (!(num8 true (m.entries.length : Int) 0 6)) (!(fits2 m)) (congrArg V.bool (by grind [fits2, hasF])) ?_
                  refine At.done rfl ⟨by kernel_rfl, rfl, ?_⟩
                  exact Sub.cut [(101, 101)] [false, true, false, true] 97 _ (by kernel_rfl) (by kernel_rfl) (by kernel_rfl) (by kernel_rfl)
                · refine At.sB 86 (hasU ((101 : UInt8).toNat : Int) (l8F m.kind).data.toList) false (sayB (Bool.eq_false_iff.2 h12)) ?_
                  replace h12 := Bool.eq_false_iff.2 h12
                  refine At.a 3 ?_
                  refine At.sL 89 encEnt m.entries ?_
                  refine At.a 5 ?_
                  refine At.sL 94 encEnt m.entries ?_
                  refine At.c (spec_l8Num_spec  ((m.entries.length : Int) == 0) (m.entries.length : Int) 0 6 ) Tryz.call178 true [] [] [] trivial ?_
                  refine At.a 2 ?_
                  refine At.sB 97 (!(num8 ((m.entries.length : Int) == 0) (m.entries.length : Int) 0 6)) (!(fits2 m)) (congrArg V.bool (by grind [fits2, hasF])) ?_
                  refine At.done rfl ⟨by kernel_rfl, rfl, ?_⟩
                  exact Sub.cut [(101, 101)] [false, true, false, true] 97 _ (by kernel_rfl) (by kernel_rfl) (by kernel_rfl) (by kernel_rfl)
              · refine At.sB 83 (!(num8 (hasU ((98 : UInt8).toNat : Int) (l8F m.kind).data.toList) (m.bytes.size : Int) 1 16)) true (sayNT (sayB (Bool.eq_false_iff.2 h11))) ?_
                replace h11 := Bool.eq_false_iff.2 h11
                refine At.a 14 ?_
                refine At.sB 97 true (!(fits2 m)) (congrArg V.bool (by grind [fits2, hasF])) ?_
                refine At.done rfl ⟨by kernel_rfl, rfl, ?_⟩
                exact Sub.cut [(101, 101)] [false, true, false, true] 97 _ (by kernel_rfl) (by kernel_rfl) (by kernel_rfl) (by kernel_rfl)
            · refine At.sB 74 (!(hasU ((121 : UInt8).toNat : Int) (l8F m.kind).data.toList)) true (sayNT (sayB (Bool.eq_false_iff.2 h10))) ?_
              replace h10 := Bool.eq_false_iff.2 h10
              refine At.a 23 ?_
              refine At.sB 97 true (!(fits2 m)) (congrArg V.bool (by grind [fits2, hasF])) ?_
              refine At.done rfl ⟨by kernel_rfl, rfl, ?_⟩
              exact Sub.cut [(101, 101)] [false, true, false, true] 97 _ (by kernel_rfl) (by kernel_rfl) (by kernel_rfl) (by kernel_rfl)
          · refine At.sB 68 m.yes false (sayB (Bool.eq_false_iff.2 h9)) ?_
            replace h9 := Bool.eq_false_iff.2 h9
            refine At.a 7 ?_
            refine At.c (spec_l8In_spec  (l8F m.kind) (98 : UInt8) (l8F_small _)) Tryz.call179 true [] [] [] trivial ?_
            refine At.a 3 ?_
            refine At.c (spec_l8Num_spec  (hasU ((98 : UInt8).toNat : Int) (l8F m.kind).data.toList) (m.bytes.size : Int) 1 16 ) Tryz.call178 true [] [] [] trivial ?_
            refine At.a 3 ?_
            by_cases h13 : (num8 (hasU ((98 : UInt8).toNat : Int) (l8F m.kind).data.toList) (m.bytes.size : Int) 1 16) = true
            · refine At.sB 83 (!(num8 (hasU ((98 : UInt8).toNat : Int) (l8F m.kind).data.toList) (m.bytes.size : Int) 1 16)) false (sayNF (sayB h13)) ?_
              refine At.a 1 ?_
              refine At.c (spec_l8In_spec  (l8F m.kind) (101 : UInt8) (l8F_small _)) Tryz.call179 true [] [] [] trivial ?_
              refine At.a 1 ?_
              by_cases h14 : (hasU ((101 : UInt8).toNat : Int) (l8F m.kind).data.toList) = true
              · refine At.sB 86 (hasU ((101 : UInt8).toNat : Int) (l8F m.kind).data.toList) true (sayB h14) ?_
                refine At.a 8 ?_
                refine At.sL 94 encEnt m.entries ?_
                refine At.c (spec_l8Num_spec  true (m.entries.length : Int) 0 6 ) Tryz.call178 true [] [] [] trivial ?_
                refine At.a 2 ?_
                refine At.sB 97 (!(num8 true (m.entries.length : Int) 0 6)) (!(fits2 m)) (congrArg V.bool (by grind [fits2, hasF])) ?_
                refine At.done rfl ⟨by kernel_rfl, rfl, ?_⟩
                exact Sub.cut [(101, 101)] [false, true, false, true] 97 _ (by kernel_rfl) (by kernel_rfl) (by kernel_rfl) (by kernel_rfl)
              · refine At.sB 86 (hasU ((101 : UInt8).toNat : Int) (l8F m.kind).data.toList) false (sayB (Bool.eq_false_iff.2 h14)) ?_
                replace h14 := Bool.eq_false_iff.2 h14
                refine At.a 3 ?_
                refine At.sL 89 encEnt m.entries ?_
                refine At.a 5 ?_
                refine At.sL 94 encEnt m.entries ?_
                refine At.c (spec_l8Num_spec  ((m.entries.length : Int) == 0) (m.entries.length : Int) 0 6 ) Tryz.call178 true [] [] [] trivial ?_
                refine At.a 2 ?_
                refine At.sB 97 (!(num8 ((m.entries.length : Int) == 0) (m.entries.length : Int) 0 6)) (!(fits2 m)) (congrArg V.bool (by grind [fits2, hasF])) ?_
                refine At.done rfl ⟨by kernel_rfl, rfl, ?_⟩
                exact Sub.cut [(101, 101)] [false, true, false, true] 97 _ (by kernel_rfl) (by kernel_rfl) (by kernel_rfl) (by kernel_rfl)
            · refine At.sB 83 (!(num8 (hasU ((98 : UInt8).toNat : Int) (l8F m.kind).data.toList) (m.bytes.size : Int) 1 16)) true (sayNT (sayB (Bool.eq_false_iff.2 h13))) ?_
              replace h13 := Bool.eq_false_iff.2 h13
              refine At.a 14 ?_
              refine At.sB 97 true (!(fits2 m)) (congrArg V.bool (by grind [fits2, hasF])) ?_
              refine At.done rfl ⟨by kernel_rfl, rfl, ?_⟩
              exact Sub.cut [(101, 101)] [false, true, false, true] 97 _ (by kernel_rfl) (by kernel_rfl) (by kernel_rfl) (by kernel_rfl)
        · refine At.sB 65 (!(num8 (hasU ((112 : UInt8).toNat : Int) (l8F m.kind).data.toList) m.part 0 1000)) true (sayNT (sayB (Bool.eq_false_iff.2 h8))) ?_
          replace h8 := Bool.eq_false_iff.2 h8
          refine At.a 32 ?_
          refine At.sB 97 true (!(fits2 m)) (congrArg V.bool (by grind [fits2, hasF])) ?_
          refine At.done rfl ⟨by kernel_rfl, rfl, ?_⟩
          exact Sub.cut [(101, 101)] [false, true, false, true] 97 _ (by kernel_rfl) (by kernel_rfl) (by kernel_rfl) (by kernel_rfl)
      · refine At.sB 57 (!(num8 (hasU ((114 : UInt8).toNat : Int) (l8F m.kind).data.toList) m.release 1 1000)) true (sayNT (sayB (Bool.eq_false_iff.2 h7))) ?_
        replace h7 := Bool.eq_false_iff.2 h7
        refine At.a 40 ?_
        refine At.sB 97 true (!(fits2 m)) (congrArg V.bool (by grind [fits2, hasF])) ?_
        refine At.done rfl ⟨by kernel_rfl, rfl, ?_⟩
        exact Sub.cut [(101, 101)] [false, true, false, true] 97 _ (by kernel_rfl) (by kernel_rfl) (by kernel_rfl) (by kernel_rfl)
    refine AW.cNB (fits2 m) (fun h15 => ?_) (fun h15 => ?_)
    · skip
      refine AW.r ?_
      refine At.a 1 ?_
      refine At.done rfl ?_
      refine AW.ret ?_
      refine ⟨_, Sub.refl _ _, ?_⟩
      refine KF.conv (fun w => .bool w) (fun w => []) (show (false) = (msgFits m) from by grind [msgFits]) ?_
      exact KF.m [] [.bool false]
    · skip
      refine AW.skip ?_
      refine AW.r ?_
      refine At.a 3 ?_
      refine At.done rfl ?_
      refine AW.seq ?_
      refine AW.seq ?_
      refine AW.cut [(101, 101), (104, 104)] [false, true] 117 (!(fits3 m)) ?_ ?_
      · skip
        refine AW.region (At.start ?_)
        refine At.a 1 ?_
        refine At.c (spec_l8In_spec  (l8F m.kind) (100 : UInt8) (l8F_small _)) Tryz.call179 true [] [] [] trivial ?_
        refine At.a 1 ?_
        by_cases h16 : (hasU ((100 : UInt8).toNat : Int) (l8F m.kind).data.toList) = true
        · refine At.sB 101 (hasU ((100 : UInt8).toNat : Int) (l8F m.kind).data.toList) true (sayB h16) ?_
          refine At.a 2 ?_
          refine At.c (spec_CmdOk_spec  m.cmd ) Tryz.call104 true [] [] [] trivial ?_
          refine At.a 3 ?_
          by_cases h17 : (cmdOk m.cmd) = true
          · refine At.sB 107 (!(cmdOk m.cmd)) false (sayNF (sayB h17)) ?_
            refine At.a 1 ?_
            refine At.c (spec_l8In_spec  (l8F m.kind) (100 : UInt8) (l8F_small _)) Tryz.call179 true [] [] [] trivial ?_
            refine At.a 2 ?_
            refine At.sB 111 (!(hasU ((100 : UInt8).toNat : Int) (l8F m.kind).data.toList)) false (sayNF (sayB h16)) ?_
            refine At.a 6 ?_
            refine At.sB 117 false (!(fits3 m)) (congrArg V.bool (by grind [fits3, hasF, zCmd])) ?_
            refine At.done rfl ⟨rfl, ?_⟩
            exact Sub.cut [(101, 101), (104, 104)] [false, true] 117 _ (by kernel_rfl) (by kernel_rfl) (by kernel_rfl) (by kernel_rfl)
          · refine At.sB 107 (!(cmdOk m.cmd)) true (sayNT (sayB (Bool.eq_false_iff.2 h17))) ?_
            replace h17 := Bool.eq_false_iff.2 h17
            refine At.a 10 ?_
            refine At.sB 117 true (!(fits3 m)) (congrArg V.bool (by grind [fits3, hasF, zCmd])) ?_
            refine At.done rfl ⟨rfl, ?_⟩
            exact Sub.cut [(101, 101), (104, 104)] [false, true] 117 _ (by kernel_rfl) (by kernel_rfl) (by kernel_rfl) (by kernel_rfl)
        · refine At.sB 101 (hasU ((100 : UInt8).toNat : Int) (l8F m.kind).data.toList) false (sayB (Bool.eq_false_iff.2 h16)) ?_
          replace h16 := Bool.eq_false_iff.2 h16
          refine At.a 7 ?_
          refine At.c (spec_l8In_spec  (l8F m.kind) (100 : UInt8) (l8F_small _)) Tryz.call179 true [] [] [] trivial ?_
          refine At.a 2 ?_
          refine At.sB 111 (!(hasU ((100 : UInt8).toNat : Int) (l8F m.kind).data.toList)) true (sayNT (sayB h16)) ?_
          refine At.a 3 ?_
          refine At.eqA (t := 31) (u := 31) (d := 115) (op := .neq) (x := .tmp 113) (y := .tmp 114) (X := [.int .i64 m.cmd.kind, .int .i64 m.cmd.release, .int .i64 m.cmd.node, .int .i64 m.cmd.size, .str m.cmd.digest]) (Y := [.int .i64 0, .int .i64 0, .int .i64 0, .int .i64 0, .str (⟨#[]⟩ : ByteArray)]) (cmdEq m.cmd (⟨0, 0, 0, 0, (⟨#[]⟩ : ByteArray)⟩ : Cmd)) (by kernel_rfl) (by kernel_rfl) (by kernel_rfl) (by kernel_rfl) (by kernel_rfl) (.bool (!(cmdEq m.cmd (⟨0, 0, 0, 0, (⟨#[]⟩ : ByteArray)⟩ : Cmd)))) (.inr ⟨rfl, rfl⟩) ?_
          refine At.a 2 ?_
          refine At.sB 117 (!(cmdEq m.cmd (⟨0, 0, 0, 0, (⟨#[]⟩ : ByteArray)⟩ : Cmd))) (!(fits3 m)) (congrArg V.bool (by grind [fits3, hasF, zCmd])) ?_
          refine At.done rfl ⟨rfl, ?_⟩
          exact Sub.cut [(101, 101), (104, 104)] [false, true] 117 _ (by kernel_rfl) (by kernel_rfl) (by kernel_rfl) (by kernel_rfl)
      refine AW.cNB (fits3 m) (fun h20 => ?_) (fun h20 => ?_)
      · skip
        refine AW.r ?_
        refine At.a 1 ?_
        refine At.done rfl ?_
        refine AW.ret ?_
        refine ⟨_, Sub.refl _ _, ?_⟩
        refine KF.conv (fun w => .bool w) (fun w => []) (show (false) = (msgFits m) from by grind [msgFits]) ?_
        exact KF.m [] [.bool false]
      · skip
        refine AW.skip ?_
        refine AW.seq ?_
        refine AW.r ?_
        refine At.a 1 ?_
        refine At.done rfl ?_
        refine AW.block ?_
        refine AW.loopW (fun (k : Nat) => Go.Sy.mk [.un, .ptr 101 0 0, .un, .un, .un, .int .i64 (k : Int)] [(101, .box 33 [.int .i64 m.kind, .int .i64 m.from_, .int .i64 m.term, .int .i64 m.at_, .int .i64 m.atTerm, .int .i64 m.commit, .bool m.yes, .int .i64 m.release, .int .i64 m.part, .str m.bytes, .int .i64 m.cmd.kind, .int .i64 m.cmd.release, .int .i64 m.cmd.node, .int .i64 m.cmd.size, .str m.cmd.digest, .sl false 6 (m.entries.map encEnt)])]) (fun (k : Nat) => k ≤ m.entries.length ∧ entsOk m.entries = entsOk (m.entries.drop k)) (fun (k : Nat) => m.entries.length - k) 0 ⟨by omega, by rw [List.drop_zero]⟩ (Sub.o [(101, 101)] [false, true, false, false, false, true]) ?_
        rintro k ⟨hk, hR⟩
        refine AW.seq ?_
        refine AW.r ?_
        refine At.a 4 ?_
        refine At.sL 121 encEnt m.entries ?_
        refine At.a 1 ?_
        refine At.done rfl ?_
        refine AW.cD ((k : Int) < (m.entries.length : Int)) (fun h21 => ?_) (fun h21 => ?_)
        · skip
          refine AW.skip ?_
          refine AW.seq ?_
          refine AW.block ?_
          refine AW.r ?_
          refine At.a 3 ?_
          refine At.iSl 24 128 (.tmp 126) (.tmp 127) false 6 (m.entries.map encEnt) .i64 (k : Int) 45 (by omega) (by simp only [List.length_map, List.length_append, List.length_take, List.length_drop, List.length_replicate, List.length_set, List.length_cons, List.length_nil]; omega) ?_
          refine Exists.elim (show ∃ e, m.entries[k]? = some e from ⟨_, List.getElem?_eq_getElem (by omega)⟩) fun e1 he1 => ?_
          refine At.lVp 45 129 (.tmp 128) false 6 (m.entries.map encEnt) k 0 true 6 (encEnt e1) (.agg [.int .i64 e1.term, .int .i64 e1.cmd.kind, .int .i64 e1.cmd.release, .int .i64 e1.cmd.node, .int .i64 e1.cmd.size, .str e1.cmd.digest]) (mapGet he1) ?_
          refine At.c (spec_l6Entry_spec  e1 ) Tryz.call149 true [] [] [] trivial ?_
          refine At.a 1 ?_
          refine At.done rfl ?_
          refine AW.cNB (entOk e1) (fun h22 => ?_) (fun h22 => ?_)
          · skip
            refine AW.r ?_
            refine At.a 1 ?_
            refine At.done rfl ?_
            refine AW.ret ?_
            refine ⟨_, Sub.refl _ _, ?_⟩
            refine KF.conv (fun w => .bool w) (fun w => []) (show (false) = (msgFits m) from by rw [dropCons he1] at hR; grind [msgFits, entsOk]) ?_
            exact KF.m [] [.bool false]
          · skip
            have h22n := entOk_nums h22
            refine AW.skip ?_
            refine AW.region (At.start ?_)
            refine At.a 2 ?_
            refine At.sI 124 ((k : Int) + 1) (by omega) ?_
            refine At.a 1 ?_
            refine At.done rfl ?_
            exact ⟨k + 1, ⟨by omega, by rw [hR, dropCons he1, entsOk]; simp only [*, Bool.true_and]⟩, (by omega), Sub.o [(101, 101)] [false, true, false, false, false, true]⟩
        · skip
          refine AW.exit ?_
          refine AW.r ?_
          refine At.a 1 ?_
          refine At.done rfl ?_
          refine AW.ret ?_
          refine ⟨_, Sub.refl _ _, ?_⟩
          refine KF.conv (fun w => .bool w) (fun w => []) (show (true) = (msgFits m) from by rw [List.drop_of_length_le (by omega)] at hR; grind [msgFits, entsOk]) ?_
          exact KF.m [] [.bool true]
set_option maxRecDepth 100000 in
set_option maxHeartbeats 4000000 in
theorem spec_l10Hears_spec  (r : Raft) (m : Msg) (kind : Int) (hz : SmallR r) (hm : m.entries.length ≤ 1048576) : FnSpec Tryz.prog 108 [.agg [.int .i64 r.id, .int .i64 r.of_, .int .i64 r.role, .int .i64 r.commit, .int .i64 r.hard.term, .int .i64 r.hard.vote, .sl false 6 (r.hard.log.map encEnt), .sl false 1 (r.yes.map encI), .sl false 1 (r.next.map encI), .sl false 1 (r.match_.map encI)], .agg [.int .i64 m.kind, .int .i64 m.from_, .int .i64 m.term, .int .i64 m.at_, .int .i64 m.atTerm, .int .i64 m.commit, .bool m.yes, .int .i64 m.release, .int .i64 m.part, .str m.bytes, .int .i64 m.cmd.kind, .int .i64 m.cmd.release, .int .i64 m.cmd.node, .int .i64 m.cmd.size, .str m.cmd.digest, .sl false 6 (m.entries.map encEnt)], .int .i64 kind] [] (.bool (hears r m kind)) [] := by
  obtain ⟨z1, z2, z3, z4⟩ := id hz
  refine FnSpec.of 33 Tryz.func108 rfl Tryz.ntmps108 (by simp) (AW.weakK ?_)
  refine AW.r ?_
  refine At.a 3 ?_
  refine At.done rfl ?_
  refine AW.r ?_
  refine At.a 1 ?_
  refine At.c (spec_RaftOk_spec  r hz) Tryz.call18 true [] [] [] trivial ?_
  refine At.a 1 ?_
  by_cases h1 : (raftOk r) = true
  · refine At.sB 9 (raftOk r) true (sayB h1) ?_
    have h1n := raftOk1_nums (raftOk_1 h1)
    refine At.a 1 ?_
    refine At.c (spec_MsgFits_spec  m hm) Tryz.call163 true [] [] [] trivial ?_
    refine At.a 2 ?_
    by_cases h2 : (msgFits m) = true
    · refine At.sB 13 (msgFits m) true (sayB h2) ?_
      refine At.a 6 ?_
      by_cases h3 : m.kind = kind
      · refine At.sB 19 (m.kind == kind) true (sayET h3) ?_
        refine At.a 7 ?_
        by_cases h4 : m.from_ < r.of_
        · refine At.sB 26 (decide (m.from_ < r.of_)) true (sayT h4) ?_
          refine At.a 7 ?_
          refine At.done rfl ?_
          refine AW.ret ?_
          refine ⟨_, Sub.refl _ _, ?_⟩
          refine KF.conv (fun w => .bool w) (fun w => []) (show (m.from_ != r.id) = (hears r m kind) from by grind [hears]) ?_
          exact KF.m [] [.bool (m.from_ != r.id)]
        · refine At.sB 26 (decide (m.from_ < r.of_)) false (sayF h4) ?_
          refine At.a 7 ?_
          refine At.done rfl ?_
          refine AW.ret ?_
          refine ⟨_, Sub.refl _ _, ?_⟩
          refine KF.conv (fun w => .bool w) (fun w => []) (show (false) = (hears r m kind) from by grind [hears]) ?_
          exact KF.m [] [.bool false]
      · refine At.sB 19 (m.kind == kind) false (sayEF h3) ?_
        refine At.a 14 ?_
        refine At.done rfl ?_
        refine AW.ret ?_
        refine ⟨_, Sub.refl _ _, ?_⟩
        refine KF.conv (fun w => .bool w) (fun w => []) (show (false) = (hears r m kind) from by grind [hears]) ?_
        exact KF.m [] [.bool false]
    · refine At.sB 13 (msgFits m) false (sayB (Bool.eq_false_iff.2 h2)) ?_
      replace h2 := Bool.eq_false_iff.2 h2
      refine At.a 20 ?_
      refine At.done rfl ?_
      refine AW.ret ?_
      refine ⟨_, Sub.refl _ _, ?_⟩
      refine KF.conv (fun w => .bool w) (fun w => []) (show (false) = (hears r m kind) from by grind [hears]) ?_
      exact KF.m [] [.bool false]
  · refine At.sB 9 (raftOk r) false (sayB (Bool.eq_false_iff.2 h1)) ?_
    replace h1 := Bool.eq_false_iff.2 h1
    refine At.a 24 ?_
    refine At.done rfl ?_
    refine AW.ret ?_
    refine ⟨_, Sub.refl _ _, ?_⟩
    refine KF.conv (fun w => .bool w) (fun w => []) (show (false) = (hears r m kind) from by grind [hears]) ?_
    exact KF.m [] [.bool false]
set_option maxRecDepth 100000 in
set_option maxHeartbeats 4000000 in
theorem spec_l10Rest_spec  (r : Raft) : FnSpec Tryz.prog 138 [.agg [.int .i64 r.id, .int .i64 r.of_, .int .i64 r.role, .int .i64 r.commit, .int .i64 r.hard.term, .int .i64 r.hard.vote, .ref 0, .ref 1, .ref 2, .ref 3]] [.arr 45 6 (r.hard.log.map encEnt), .arr 3 1 (r.yes.map encI), .arr 3 1 (r.next.map encI), .arr 3 1 (r.match_.map encI)] (.agg [.int .i64 r.id, .int .i64 r.of_, .int .i64 1, .int .i64 r.commit, .int .i64 r.hard.term, .int .i64 r.hard.vote, .ref 0, .ref 4, .ref 5, .ref 6]) [.arr 45 6 (r.hard.log.map encEnt), .arr 3 1 (r.yes.map encI), .arr 3 1 (r.next.map encI), .arr 3 1 (r.match_.map encI), .arr 3 1 [], .arr 3 1 [], .arr 3 1 []] := by
  refine FnSpec.of 8 Tryz.func138 rfl Tryz.ntmps138 (by simp) (AW.weakK ?_)
  refine AW.r ?_
  refine At.a 2 ?_
  refine At.done rfl ?_
  refine AW.seq ?_
  refine AW.weak (Sub.nils [⟨true, 102, some 6, 5001, 45, 6⟩, ⟨true, 102, some 7, 5002, 3, 1⟩, ⟨true, 102, some 8, 5003, 3, 1⟩, ⟨true, 102, some 9, 5004, 3, 1⟩] (by kernel_rfl)) ?_
  refine AW.region (At.start ?_)
  refine At.a 2 ?_
  refine At.done rfl ?_
  refine AW.r ?_
  refine At.a 2 ?_
  refine At.done rfl ?_
  refine AW.seq ?_
  refine AW.weak (Sub.nils [⟨true, 101, some 7, 5005, 3, 1⟩] (by kernel_rfl)) ?_
  refine AW.region (At.start ?_)
  refine At.a 2 ?_
  refine At.done rfl ?_
  refine AW.seq ?_
  refine AW.weak (Sub.nils [⟨true, 101, some 8, 5006, 3, 1⟩] (by kernel_rfl)) ?_
  refine AW.region (At.start ?_)
  refine At.a 2 ?_
  refine At.done rfl ?_
  refine AW.seq ?_
  refine AW.weak (Sub.nils [⟨true, 101, some 9, 5007, 3, 1⟩] (by kernel_rfl)) ?_
  refine AW.region (At.start ?_)
  refine At.a 2 ?_
  refine At.done rfl ?_
  refine AW.ret ?_
  refine ⟨_, Sub.refl _ _, ?_⟩
  refine KF.conv (fun w => .agg [.int .i64 w.id, .int .i64 w.of_, .int .i64 w.role, .int .i64 w.commit, .int .i64 w.hard.term, .int .i64 w.hard.vote, .ref 0, .ref 4, .ref 5, .ref 6]) (fun w => [.arr 45 6 (r.hard.log.map encEnt), .arr 3 1 (r.yes.map encI), .arr 3 1 (r.next.map encI), .arr 3 1 (r.match_.map encI), .arr 3 1 (w.yes.map encI), .arr 3 1 (w.next.map encI), .arr 3 1 (w.match_.map encI)]) (show ((⟨r.id, r.of_, 1, r.commit, r.hard, [], [], []⟩ : Raft)) = (({ r with role := 1, yes := [], next := [], match_ := [] } : Raft)) from by simp_all) ?_
  exact KF.m [(0, 0), (1, 1), (2, 2), (3, 3), (5005, 4), (5006, 5), (5007, 6)] [.agg [.int .i64 r.id, .int .i64 r.of_, .int .i64 1, .int .i64 r.commit, .int .i64 r.hard.term, .int .i64 r.hard.vote, .ref 0, .ref 5005, .ref 5006, .ref 5007]]
set_option maxRecDepth 100000 in
set_option maxHeartbeats 4000000 in
theorem spec_l10Follow_spec  (r : Raft) (t_ : Int) : FnSpec Tryz.prog 109 [.agg [.int .i64 r.id, .int .i64 r.of_, .int .i64 r.role, .int .i64 r.commit, .int .i64 r.hard.term, .int .i64 r.hard.vote, .ref 0, .ref 1, .ref 2, .ref 3], .int .i64 t_] [.arr 45 6 (r.hard.log.map encEnt), .arr 3 1 (r.yes.map encI), .arr 3 1 (r.next.map encI), .arr 3 1 (r.match_.map encI)] (.agg [.int .i64 r.id, .int .i64 r.of_, .int .i64 1, .int .i64 r.commit, .int .i64 t_, .int .i64 0, .ref 0, .ref 4, .ref 5, .ref 6]) [.arr 45 6 (r.hard.log.map encEnt), .arr 3 1 (r.yes.map encI), .arr 3 1 (r.next.map encI), .arr 3 1 (r.match_.map encI), .arr 3 1 [], .arr 3 1 [], .arr 3 1 []] := by
  refine FnSpec.of 13 Tryz.func109 rfl Tryz.ntmps109 (by simp) (AW.weakK ?_)
  refine AW.r ?_
  refine At.a 2 ?_
  refine At.done rfl ?_
  refine AW.seq ?_
  refine AW.weak (Sub.nils [⟨true, 104, some 6, 5001, 45, 6⟩, ⟨true, 104, some 7, 5002, 3, 1⟩, ⟨true, 104, some 8, 5003, 3, 1⟩, ⟨true, 104, some 9, 5004, 3, 1⟩] (by kernel_rfl)) ?_
  refine AW.region (At.start ?_)
  refine At.a 1 ?_
  refine At.c (spec_l10Rest_spec  r ) Tryz.call138 true [(0, 0), (1, 1), (2, 2), (3, 3)] [(1120, 4), (1121, 5), (1122, 6)] [] trivial ?_
  refine At.a 1 ?_
  refine At.done rfl ?_
  refine AW.r ?_
  refine At.a 4 ?_
  refine At.done rfl ?_
  refine AW.r ?_
  refine At.a 3 ?_
  refine At.done rfl ?_
  refine AW.r ?_
  refine At.a 2 ?_
  refine At.done rfl ?_
  refine AW.ret ?_
  refine ⟨_, Sub.refl _ _, ?_⟩
  refine KF.conv (fun w => .agg [.int .i64 w.id, .int .i64 w.of_, .int .i64 w.role, .int .i64 w.commit, .int .i64 w.hard.term, .int .i64 w.hard.vote, .ref 0, .ref 4, .ref 5, .ref 6]) (fun w => [.arr 45 6 (r.hard.log.map encEnt), .arr 3 1 (r.yes.map encI), .arr 3 1 (r.next.map encI), .arr 3 1 (r.match_.map encI), .arr 3 1 (w.yes.map encI), .arr 3 1 (w.next.map encI), .arr 3 1 (w.match_.map encI)]) (show ((⟨r.id, r.of_, 1, r.commit, ⟨t_, 0, r.hard.log⟩, [], [], []⟩ : Raft)) = (({ r with role := 1, yes := [], next := [], match_ := [], hard := { r.hard with term := t_, vote := 0 } } : Raft)) from by simp_all) ?_
  exact KF.m [(0, 0), (1, 1), (2, 2), (3, 3), (1120, 4), (1121, 5), (1122, 6)] [.agg [.int .i64 r.id, .int .i64 r.of_, .int .i64 1, .int .i64 r.commit, .int .i64 t_, .int .i64 0, .ref 0, .ref 1120, .ref 1121, .ref 1122]]
set_option maxRecDepth 100000 in
set_option maxHeartbeats 4000000 in
theorem spec_l10Vote_spec  (r : Raft) : FnSpec Tryz.prog 98 [.agg [.int .i64 r.id, .int .i64 r.of_, .int .i64 r.role, .int .i64 r.commit, .int .i64 r.hard.term, .int .i64 r.hard.vote, .sl false 6 (r.hard.log.map encEnt), .sl false 1 (r.yes.map encI), .sl false 1 (r.next.map encI), .sl false 1 (r.match_.map encI)]] [] (.agg [.int .i64 1, .int .i64 r.hard.term, .int .i64 r.hard.vote, .int .i64 0, .int .i64 0, .int .i64 0, .int .i64 0, .int .i64 0, .int .i64 0, .str (⟨#[]⟩ : ByteArray)]) [] := by
  refine FnSpec.of 10 Tryz.func98 rfl Tryz.ntmps98 (by simp) (AW.weakK ?_)
  refine AW.r ?_
  refine At.a 2 ?_
  refine At.done rfl ?_
  refine AW.r ?_
  refine At.a 8 ?_
  refine At.done rfl ?_
  refine AW.ret ?_
  refine ⟨_, Sub.refl _ _, ?_⟩
  exact KF.m [] [.agg [.int .i64 1, .int .i64 r.hard.term, .int .i64 r.hard.vote, .int .i64 0, .int .i64 0, .int .i64 0, .int .i64 0, .int .i64 0, .int .i64 0, .str (⟨#[]⟩ : ByteArray)]]
end Go.Proofs.YtlmadhahghiedaaGreat
