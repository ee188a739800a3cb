/- The contracts of the functions that FnExactOnYes reaches (each: what it answers, said over values), printed by a program of this session (wip/sy/g/gen.py). -/
import Derived.Test.YtlmadhahghiedaaGreatFFnExactOnYes6
set_option linter.unusedVariables false
set_option linter.unusedSimpArgs false
namespace Go.Proofs.YtlmadhahghiedaaGreat
open Go Go.Sy Go.Proofs
set_option maxRecDepth 100000 in
set_option maxHeartbeats 4000000 in
theorem laws_FnExactOnYes_spec  (aR : Raft) (aM : Msg) (hb : BigR aR) (hd : BigM aM) : FnSpec Tryz.prog 10 [.agg [.int .i64 aR.id, .int .i64 aR.of_, .int .i64 aR.role, .int .i64 aR.commit, .int .i64 aR.hard.term, .int .i64 aR.hard.vote, .sl false 6 (aR.hard.log.map encEnt), .sl false 1 (aR.yes.map encI), .sl false 1 (aR.next.map encI), .sl false 1 (aR.match_.map encI)], .agg [.int .i64 aM.kind, .int .i64 aM.from_, .int .i64 aM.term, .int .i64 aM.at_, .int .i64 aM.atTerm, .int .i64 aM.commit, .bool aM.yes, .int .i64 aM.release, .int .i64 aM.part, .str aM.bytes, .int .i64 aM.cmd.kind, .int .i64 aM.cmd.release, .int .i64 aM.cmd.node, .int .i64 aM.cmd.size, .str aM.cmd.digest, .sl false 6 (aM.entries.map encEnt)]] [] (.bool true) [] := by
  refine FnSpec.of 172 Tryz.func10 rfl Tryz.ntmps10 (by simp) (AW.weakK ?_)
  refine AW.r ?_
  refine At.a 3 ?_
  refine At.done rfl ?_
  refine AW.r ?_
  refine At.a 1 ?_
  refine At.done rfl ?_
  refine AW.r ?_
  refine At.a 2 ?_
  refine At.c (laws_szRaft_spec  aR 1048576 (by omega) hb) Tryz.call38 true [] [] [] trivial ?_
  refine At.a 1 ?_
  refine At.done rfl ?_
  refine AW.seq ?_
  refine AW.r ?_
  refine At.a 2 ?_
  refine At.done rfl ?_
  refine AW.cD ((szRaft aR 1048576) < 0) (fun h1 => ?_) (fun h1 => ?_)
  · skip
    refine AW.r ?_
    refine At.a 1 ?_
    refine At.done rfl ?_
    refine AW.ret ?_
    refine ⟨_, Sub.refl _ _, ?_⟩
    exact KF.m [] [.bool true]
  · skip
    have hzz := szRaft_small (by omega) h1
    have hz := hzz.1
    have hz2 := hzz.2
    refine AW.skip ?_
    refine AW.r ?_
    refine At.a 2 ?_
    refine At.c (laws_szMsg_spec  aM (szRaft aR 1048576) (by omega) hd) Tryz.call39 true [] [] [] trivial ?_
    refine At.a 1 ?_
    refine At.done rfl ?_
    refine AW.seq ?_
    refine AW.r ?_
    refine At.a 2 ?_
    refine At.done rfl ?_
    refine AW.cD ((szMsg aM (szRaft aR 1048576)) < 0) (fun h2 => ?_) (fun h2 => ?_)
    · skip
      refine AW.r ?_
      refine At.a 1 ?_
      refine At.done rfl ?_
      refine AW.ret ?_
      refine ⟨_, Sub.refl _ _, ?_⟩
      exact KF.m [] [.bool true]
    · skip
      have hzp : SmallR ((yess aR aM).1) := yess_small aM hz
      have hke := raftEnd_eq aR 1
      have hkp := raftEnd_eq ((yess aR aM).1) 1
      obtain ⟨z1, z2, z3, z4⟩ := id hz
      obtain ⟨p1, p2, p3, p4⟩ := id hzp
      have hrl : ((yess aR aM).2.1).length ≤ 10 := yess_len _ _
      have hfew : FewOuts ((yess aR aM).2.2) := yess_few _ _
      have hre := endsR_eq ((yess aR aM).2.1) (raftEnd ((yess aR aM).1) 1)
      have hme := hfew.ends (ends nxR ((yess aR aM).2.1) (raftEnd ((yess aR aM).1) 1))
      have hmf := hfew.marks (ends nxR ((yess aR aM).2.1) (raftEnd ((yess aR aM).1) 1))
      have hm := (szMsg_small (by omega) h2).1
      have hee := endsE_eq aM.entries (raftEnd aR 1)
      refine AW.skip ?_
      refine AW.seq ?_
      refine AW.regionD Tryz_mix (At.start ?_)
      refine At.a 1 ?_
      refine At.c (laws_toRaft_spec  aR hz) Tryz.call40 true [] [(1640, 0), (1641, 1), (1642, 2), (1643, 3)] [] trivial ?_
      refine At.a 1 ?_
      refine At.c (laws_toMsg_spec  aM hm) Tryz.call41 true [] [(1680, 0)] [] trivial ?_
      refine At.c (spec_OnYes_spec  aR aM hz hm) Tryz.call54 false [] [(1700, 0), (1701, 1), (1702, 2), (1703, 3), (1704, 4), (1705, 5)] [(1640, 6, (aR.hard.log.map encEnt)), (1641, 1, (aR.yes.map encI)), (1642, 1, (aR.next.map encI)), (1643, 1, (aR.match_.map encI)), (1680, 6, (aM.entries.map encEnt))] ⟨rfl, ⟨45, (aR.hard.log.map encEnt), by kernel_rfl, FrzIs.same (allP_encEnt _)⟩, rfl, ⟨3, (aR.yes.map encI), by kernel_rfl, FrzIs.same (allP_encI _)⟩, rfl, ⟨3, (aR.next.map encI), by kernel_rfl, FrzIs.same (allP_encI _)⟩, rfl, ⟨3, (aR.match_.map encI), by kernel_rfl, FrzIs.same (allP_encI _)⟩, rfl, ⟨45, (aM.entries.map encEnt), by kernel_rfl, FrzIs.same (allP_encEnt _)⟩, trivial⟩ ?_
      refine At.a 8 ?_
      refine At.done rfl ⟨by kernel_rfl, ?_⟩
      refine AW.r ?_
      refine At.a 1 ?_
      refine At.c (laws_toRaft_spec  aR hz) Tryz.call40 true [] [(1800, 0), (1801, 1), (1802, 2), (1803, 3)] [] trivial ?_
      refine At.a 2 ?_
      refine At.done rfl ?_
      refine AW.r ?_
      refine At.a 1 ?_
      refine At.c (laws_toMsg_spec  aM hm) Tryz.call41 true [] [(1840, 0)] [] trivial ?_
      refine At.a 2 ?_
      refine At.done rfl ?_
      refine AW.r ?_
      refine At.a 2 ?_
      refine At.c (impl_OnYes_spec  aR aM hz hm) Tryz.call55 false [] [(1920, 0), (1921, 1), (1922, 2), (1923, 3), (1924, 4), (1925, 5)] [(1800, 6, (aR.hard.log.map encEnt)), (1801, 1, (aR.yes.map encI)), (1802, 1, (aR.next.map encI)), (1803, 1, (aR.match_.map encI)), (1840, 6, (aM.entries.map encEnt))] ⟨rfl, ⟨45, (aR.hard.log.map encEnt), by kernel_rfl, FrzIs.same (allP_encEnt _)⟩, rfl, ⟨3, (aR.yes.map encI), by kernel_rfl, FrzIs.same (allP_encI _)⟩, rfl, ⟨3, (aR.next.map encI), by kernel_rfl, FrzIs.same (allP_encI _)⟩, rfl, ⟨3, (aR.match_.map encI), by kernel_rfl, FrzIs.same (allP_encI _)⟩, rfl, ⟨45, (aM.entries.map encEnt), by kernel_rfl, FrzIs.same (allP_encEnt _)⟩, trivial⟩ ?_
      refine At.a 8 ?_
      refine At.done rfl ?_
      refine AW.seq ?_
      refine AW.r ?_
      refine At.a 2 ?_
      refine At.c (laws_eqRaft_spec  ((yess aR aM).1) ((yess aR aM).1) (by exact hzp) (by exact hzp)) Tryz.call42 false [] [] [(1920, 6, ((((yess aR aM).1).hard.log).map encEnt)), (1921, 1, ((((yess aR aM).1).yes).map encI)), (1922, 1, ((((yess aR aM).1).next).map encI)), (1923, 1, ((((yess aR aM).1).match_).map encI)), (1700, 6, ((((yess aR aM).1).hard.log).map encEnt)), (1701, 1, ((((yess aR aM).1).yes).map encI)), (1702, 1, ((((yess aR aM).1).next).map encI)), (1703, 1, ((((yess aR aM).1).match_).map encI))] ⟨rfl, ⟨45, ((((yess aR aM).1).hard.log).map encEnt), by kernel_rfl, FrzIs.same (allP_encEnt _)⟩, rfl, ⟨3, ((((yess aR aM).1).yes).map encI), by kernel_rfl, FrzIs.same (allP_encI _)⟩, rfl, ⟨3, ((((yess aR aM).1).next).map encI), by kernel_rfl, FrzIs.same (allP_encI _)⟩, rfl, ⟨3, ((((yess aR aM).1).match_).map encI), by kernel_rfl, FrzIs.same (allP_encI _)⟩, rfl, ⟨45, ((((yess aR aM).1).hard.log).map encEnt), by kernel_rfl, FrzIs.same (allP_encEnt _)⟩, rfl, ⟨3, ((((yess aR aM).1).yes).map encI), by kernel_rfl, FrzIs.same (allP_encI _)⟩, rfl, ⟨3, ((((yess aR aM).1).next).map encI), by kernel_rfl, FrzIs.same (allP_encI _)⟩, rfl, ⟨3, ((((yess aR aM).1).match_).map encI), by kernel_rfl, FrzIs.same (allP_encI _)⟩, trivial⟩ ?_
      refine At.a 2 ?_
      refine At.sB 54 (!(raftEq ((yess aR aM).1) ((yess aR aM).1))) false (sayB (by rw [show (raftEq ((yess aR aM).1) ((yess aR aM).1)) = true from (raftEq_refl _)]; rfl)) ?_
      refine At.a 2 ?_
      refine At.c (laws_eqRecS_spec  ((yess aR aM).2.1) ((yess aR aM).2.1) (by omega) (by omega)) Tryz.call43 false [] [] [(1924, 10, (((yess aR aM).2.1).map encRec)), (1704, 10, (((yess aR aM).2.1).map encRec))] ⟨rfl, ⟨47, (((yess aR aM).2.1).map encRec), by kernel_rfl, FrzIs.same (allP_encRec _)⟩, rfl, ⟨47, (((yess aR aM).2.1).map encRec), by kernel_rfl, FrzIs.same (allP_encRec _)⟩, trivial⟩ ?_
      refine At.a 3 ?_
      refine At.sB 60 (!(listEq recEq ((yess aR aM).2.1) ((yess aR aM).2.1))) false (sayB (by rw [show (listEq recEq ((yess aR aM).2.1) ((yess aR aM).2.1)) = true from (listEq_refl recEq_refl _)]; rfl)) ?_
      refine At.a 2 ?_
      refine At.c (laws_eqOutS_spec  ((yess aR aM).2.2) ((yess aR aM).2.2) (by have := hfew.1; omega) (by have := hfew.1; omega) (fun o ho => by have := hfew.2 o ho; omega) (fun o ho => by have := hfew.2 o ho; omega)) Tryz.call44 false [] [] [(1925, 17, (((yess aR aM).2.2).map encOutV)), (1705, 17, (((yess aR aM).2.2).map encOutV))] ⟨rfl, ⟨51, (((yess aR aM).2.2).map encOut), by kernel_rfl, frzOut _⟩, rfl, ⟨51, (((yess aR aM).2.2).map encOut), by kernel_rfl, frzOut _⟩, trivial⟩ ?_
      refine At.a 2 ?_
      refine At.done rfl ?_
      refine AW.condF (!(listEq outEq ((yess aR aM).2.2) ((yess aR aM).2.2))) (by kernel_rfl) (by rw [show (listEq outEq ((yess aR aM).2.2) ((yess aR aM).2.2)) = true from (listEq_refl outEq_refl _)]; rfl) ?_
      refine AW.skip ?_
      refine AW.seq ?_
      refine AW.seq ?_
      refine AW.regionD Tryz_mix (At.start ?_)
      refine At.a 2 ?_
      refine At.c (laws_toRaft_spec  aR hz) Tryz.call40 true [] [(2360, 0), (2361, 1), (2362, 2), (2363, 3)] [] trivial ?_
      refine At.c (laws_eqRaft_spec  aR aR (by exact hz) (by exact hz)) Tryz.call42 false [] [] [(1800, 6, (aR.hard.log.map encEnt)), (1801, 1, (aR.yes.map encI)), (1802, 1, (aR.next.map encI)), (1803, 1, (aR.match_.map encI)), (2360, 6, (aR.hard.log.map encEnt)), (2361, 1, (aR.yes.map encI)), (2362, 1, (aR.next.map encI)), (2363, 1, (aR.match_.map encI))] ⟨rfl, ⟨45, (aR.hard.log.map encEnt), by kernel_rfl, FrzIs.same (allP_encEnt _)⟩, rfl, ⟨3, (aR.yes.map encI), by kernel_rfl, FrzIs.same (allP_encI _)⟩, rfl, ⟨3, (aR.next.map encI), by kernel_rfl, FrzIs.same (allP_encI _)⟩, rfl, ⟨3, (aR.match_.map encI), by kernel_rfl, FrzIs.same (allP_encI _)⟩, rfl, ⟨45, (aR.hard.log.map encEnt), by kernel_rfl, FrzIs.same (allP_encEnt _)⟩, rfl, ⟨3, (aR.yes.map encI), by kernel_rfl, FrzIs.same (allP_encI _)⟩, rfl, ⟨3, (aR.next.map encI), by kernel_rfl, FrzIs.same (allP_encI _)⟩, rfl, ⟨3, (aR.match_.map encI), by kernel_rfl, FrzIs.same (allP_encI _)⟩, trivial⟩ ?_
      refine At.a 1 ?_
      refine At.done rfl ⟨by kernel_rfl, ?_⟩
      refine AW.condF (!(raftEq aR aR)) (by kernel_rfl) (by rw [show (raftEq aR aR) = true from (raftEq_refl _)]; rfl) ?_
      refine AW.skip ?_
      refine AW.seq ?_
      refine AW.seq ?_
      refine AW.regionD Tryz_mix (At.start ?_)
      refine At.a 2 ?_
      refine At.c (laws_toMsg_spec  aM hm) Tryz.call41 true [] [(2460, 0)] [] trivial ?_
      refine At.c (laws_eqMsg_spec  aM aM hm hm) Tryz.call45 false [] [] [(1840, 6, (aM.entries.map encEnt)), (2460, 6, (aM.entries.map encEnt))] ⟨rfl, ⟨45, (aM.entries.map encEnt), by kernel_rfl, FrzIs.same (allP_encEnt _)⟩, rfl, ⟨45, (aM.entries.map encEnt), by kernel_rfl, FrzIs.same (allP_encEnt _)⟩, trivial⟩ ?_
      refine At.a 1 ?_
      refine At.done rfl ⟨by kernel_rfl, ?_⟩
      refine AW.condF (!(msgEq aM aM)) (by kernel_rfl) (by rw [show (msgEq aM aM) = true from (msgEq_refl _)]; rfl) ?_
      refine AW.skip ?_
      refine AW.r ?_
      refine At.a 1 ?_
      refine At.done rfl ?_
      refine AW.r ?_
      refine At.a 2 ?_
      refine At.c (laws_markRaft_spec  aR 1 (by exact hz) (by omega)) Tryz.call46 true [(1800, 0), (1801, 1), (1802, 2), (1803, 3)] [] [] trivial ?_
      refine At.a 1 ?_
      refine At.done rfl ?_
      refine AW.r ?_
      refine At.a 2 ?_
      refine At.c (laws_markMsg_spec  aM (raftEnd aR 1) (by omega) hm (by omega)) Tryz.call47 true [(1840, 0)] [] [] trivial ?_
      refine At.a 1 ?_
      refine At.done rfl ?_
      refine AW.seq ?_
      refine AW.r ?_
      refine At.a 3 ?_
      refine At.sB 84 (decide ((ends nxE aM.entries (raftEnd aR 1)) < 0)) false (sayB (decide_eq_false (by omega))) ?_
      refine At.a 2 ?_
      refine At.c (laws_eqRaft_spec  ((yess aR aM).1) ((yess aR aM).1) (by exact hzp) (by exact hzp)) Tryz.call42 false [] [] [(1920, 6, ((((yess aR aM).1).hard.log).map encEnt)), (1921, 1, ((((yess aR aM).1).yes).map encI)), (1922, 1, ((((yess aR aM).1).next).map encI)), (1923, 1, ((((yess aR aM).1).match_).map encI)), (1700, 6, ((((yess aR aM).1).hard.log).map encEnt)), (1701, 1, ((((yess aR aM).1).yes).map encI)), (1702, 1, ((((yess aR aM).1).next).map encI)), (1703, 1, ((((yess aR aM).1).match_).map encI))] ⟨rfl, ⟨45, ((((yess aR aM).1).hard.log).map encEnt), by kernel_rfl, FrzIs.same (allP_encEnt _)⟩, rfl, ⟨3, ((((yess aR aM).1).yes).map encI), by kernel_rfl, FrzIs.same (allP_encI _)⟩, rfl, ⟨3, ((((yess aR aM).1).next).map encI), by kernel_rfl, FrzIs.same (allP_encI _)⟩, rfl, ⟨3, ((((yess aR aM).1).match_).map encI), by kernel_rfl, FrzIs.same (allP_encI _)⟩, rfl, ⟨45, ((((yess aR aM).1).hard.log).map encEnt), by kernel_rfl, FrzIs.same (allP_encEnt _)⟩, rfl, ⟨3, ((((yess aR aM).1).yes).map encI), by kernel_rfl, FrzIs.same (allP_encI _)⟩, rfl, ⟨3, ((((yess aR aM).1).next).map encI), by kernel_rfl, FrzIs.same (allP_encI _)⟩, rfl, ⟨3, ((((yess aR aM).1).match_).map encI), by kernel_rfl, FrzIs.same (allP_encI _)⟩, trivial⟩ ?_
      refine At.a 3 ?_
      refine At.sB 90 (!(raftEq ((yess aR aM).1) ((yess aR aM).1))) false (sayB (by rw [show (raftEq ((yess aR aM).1) ((yess aR aM).1)) = true from (raftEq_refl _)]; rfl)) ?_
      refine At.a 2 ?_
      refine At.c (laws_eqRecS_spec  ((yess aR aM).2.1) ((yess aR aM).2.1) (by omega) (by omega)) Tryz.call43 false [] [] [(1924, 10, (((yess aR aM).2.1).map encRec)), (1704, 10, (((yess aR aM).2.1).map encRec))] ⟨rfl, ⟨47, (((yess aR aM).2.1).map encRec), by kernel_rfl, FrzIs.same (allP_encRec _)⟩, rfl, ⟨47, (((yess aR aM).2.1).map encRec), by kernel_rfl, FrzIs.same (allP_encRec _)⟩, trivial⟩ ?_
      refine At.a 3 ?_
      refine At.sB 96 (!(listEq recEq ((yess aR aM).2.1) ((yess aR aM).2.1))) false (sayB (by rw [show (listEq recEq ((yess aR aM).2.1) ((yess aR aM).2.1)) = true from (listEq_refl recEq_refl _)]; rfl)) ?_
      refine At.a 2 ?_
      refine At.c (laws_eqOutS_spec  ((yess aR aM).2.2) ((yess aR aM).2.2) (by have := hfew.1; omega) (by have := hfew.1; omega) (fun o ho => by have := hfew.2 o ho; omega) (fun o ho => by have := hfew.2 o ho; omega)) Tryz.call44 false [] [] [(1925, 17, (((yess aR aM).2.2).map encOutV)), (1705, 17, (((yess aR aM).2.2).map encOutV))] ⟨rfl, ⟨51, (((yess aR aM).2.2).map encOut), by kernel_rfl, frzOut _⟩, rfl, ⟨51, (((yess aR aM).2.2).map encOut), by kernel_rfl, frzOut _⟩, trivial⟩ ?_
      refine At.a 2 ?_
      refine At.done rfl ?_
      refine AW.condF (!(listEq outEq ((yess aR aM).2.2) ((yess aR aM).2.2))) (by kernel_rfl) (by rw [show (listEq outEq ((yess aR aM).2.2) ((yess aR aM).2.2)) = true from (listEq_refl outEq_refl _)]; rfl) ?_
      refine AW.skip ?_
      refine AW.r ?_
      refine At.a 1 ?_
      refine At.done rfl ?_
      refine AW.r ?_
      refine At.a 2 ?_
      refine At.c (laws_markRaft_spec  ((yess aR aM).1) 1 (by exact hzp) (by omega)) Tryz.call46 true [(1920, 0), (1921, 1), (1922, 2), (1923, 3)] [] [] trivial ?_
      refine At.a 1 ?_
      refine At.done rfl ?_
      refine AW.r ?_
      refine At.a 2 ?_
      refine At.c (laws_markRecS_spec  ((yess aR aM).2.1) (raftEnd ((yess aR aM).1) 1) (by omega) (by omega) (by omega)) Tryz.call48 true [(1924, 0)] [] [] trivial ?_
      refine At.a 1 ?_
      refine At.done rfl ?_
      refine AW.r ?_
      refine At.a 2 ?_
      refine At.c (laws_markOutS_spec  ((yess aR aM).2.2) (ends nxR ((yess aR aM).2.1) (raftEnd ((yess aR aM).1) 1)) (by omega) (by have := hfew.1; omega) (by omega) (fun o ho => by have := hfew.2 o ho; omega)) Tryz.call49 true [(1925, 0)] [] [] trivial ?_
      refine At.a 1 ?_
      refine At.done rfl ?_
      refine AW.r ?_
      refine At.a 1 ?_
      refine At.done rfl ?_
      refine AW.r ?_
      refine At.a 2 ?_
      refine At.c (laws_heldRaft_spec  (⟨((yess aR aM).1).id, ((yess aR aM).1).of_, ((yess aR aM).1).role, ((yess aR aM).1).commit, ⟨((yess aR aM).1).hard.term, ((yess aR aM).1).hard.vote, (raftMark ((yess aR aM).1) 1).hard.log⟩, (raftMark ((yess aR aM).1) 1).yes, (raftMark ((yess aR aM).1) 1).next, (raftMark ((yess aR aM).1) 1).match_⟩ : Raft) 1 (raftMark_small hzp 1) (by omega)) Tryz.call50 false [] [] [(1920, 6, (((raftMark ((yess aR aM).1) 1).hard.log).map encEnt)), (1921, 1, (((raftMark ((yess aR aM).1) 1).yes).map encI)), (1922, 1, (((raftMark ((yess aR aM).1) 1).next).map encI)), (1923, 1, (((raftMark ((yess aR aM).1) 1).match_).map encI))] ⟨rfl, ⟨45, (((raftMark ((yess aR aM).1) 1).hard.log).map encEnt), by kernel_rfl, FrzIs.same (allP_encEnt _)⟩, rfl, ⟨3, (((raftMark ((yess aR aM).1) 1).yes).map encI), by kernel_rfl, FrzIs.same (allP_encI _)⟩, rfl, ⟨3, (((raftMark ((yess aR aM).1) 1).next).map encI), by kernel_rfl, FrzIs.same (allP_encI _)⟩, rfl, ⟨3, (((raftMark ((yess aR aM).1) 1).match_).map encI), by kernel_rfl, FrzIs.same (allP_encI _)⟩, trivial⟩ ?_
      refine At.say 113 (.int .i64 (heldRaft (⟨((yess aR aM).1).id, ((yess aR aM).1).of_, ((yess aR aM).1).role, ((yess aR aM).1).commit, ⟨((yess aR aM).1).hard.term, ((yess aR aM).1).hard.vote, (raftMark ((yess aR aM).1) 1).hard.log⟩, (raftMark ((yess aR aM).1) 1).yes, (raftMark ((yess aR aM).1) 1).next, (raftMark ((yess aR aM).1) 1).match_⟩ : Raft) 1)) (.int .i64 (raftEnd ((yess aR aM).1) 1)) (by kernel_rfl) (congrArg (V.int .i64) (held_raft ((yess aR aM).1) 1 (by omega))) ?_
      refine At.a 1 ?_
      refine At.done rfl ?_
      refine AW.seq ?_
      refine AW.r ?_
      refine At.a 2 ?_
      refine At.done rfl ?_
      refine AW.condF (decide ((raftEnd ((yess aR aM).1) 1) < 0)) (by kernel_rfl) (decide_eq_false (by have := hke; omega)) ?_
      refine AW.skip ?_
      refine AW.r ?_
      refine At.a 2 ?_
      refine At.c (laws_heldRecS_spec  (marks markR nxR ((yess aR aM).2.1) (raftEnd ((yess aR aM).1) 1)) (raftEnd ((yess aR aM).1) 1) (by rw [marks_len]; omega) (by rw [marks_len]; omega)) Tryz.call51 false [] [] [(1924, 10, ((marks markR nxR ((yess aR aM).2.1) (raftEnd ((yess aR aM).1) 1)).map encRec))] ⟨rfl, ⟨47, ((marks markR nxR ((yess aR aM).2.1) (raftEnd ((yess aR aM).1) 1)).map encRec), by kernel_rfl, FrzIs.same (allP_encRec _)⟩, trivial⟩ ?_
      refine At.say 118 (.int .i64 (held okR nxR (marks markR nxR ((yess aR aM).2.1) (raftEnd ((yess aR aM).1) 1)) (raftEnd ((yess aR aM).1) 1))) (.int .i64 (ends nxR ((yess aR aM).2.1) (raftEnd ((yess aR aM).1) 1))) (by kernel_rfl) (congrArg (V.int .i64) (held_recs _ _ (by omega))) ?_
      refine At.a 1 ?_
      refine At.done rfl ?_
      refine AW.seq ?_
      refine AW.r ?_
      refine At.a 2 ?_
      refine At.done rfl ?_
      refine AW.condF (decide ((ends nxR ((yess aR aM).2.1) (raftEnd ((yess aR aM).1) 1)) < 0)) (by kernel_rfl) (decide_eq_false (by omega)) ?_
      refine AW.skip ?_
      refine AW.r ?_
      refine At.a 2 ?_
      refine At.c (laws_heldOutS_spec  (marks markO nxO ((yess aR aM).2.2) (ends nxR ((yess aR aM).2.1) (raftEnd ((yess aR aM).1) 1))) (ends nxR ((yess aR aM).2.1) (raftEnd ((yess aR aM).1) 1)) hmf (by omega)) Tryz.call52 false [] [] [(1925, 17, ((marks markO nxO ((yess aR aM).2.2) (ends nxR ((yess aR aM).2.1) (raftEnd ((yess aR aM).1) 1))).map encOutV))] ⟨rfl, ⟨51, ((marks markO nxO ((yess aR aM).2.2) (ends nxR ((yess aR aM).2.1) (raftEnd ((yess aR aM).1) 1))).map encOut), by kernel_rfl, frzOut _⟩, trivial⟩ ?_
      refine At.say 123 (.int .i64 (heldO (marks markO nxO ((yess aR aM).2.2) (ends nxR ((yess aR aM).2.1) (raftEnd ((yess aR aM).1) 1))) (ends nxR ((yess aR aM).2.1) (raftEnd ((yess aR aM).1) 1)))) (.int .i64 (ends nxO ((yess aR aM).2.2) (ends nxR ((yess aR aM).2.1) (raftEnd ((yess aR aM).1) 1)))) (by kernel_rfl) (congrArg (V.int .i64) (held_outs _ _ (by omega))) ?_
      refine At.a 1 ?_
      refine At.done rfl ?_
      refine AW.seq ?_
      refine AW.r ?_
      refine At.a 2 ?_
      refine At.done rfl ?_
      refine AW.condF (decide ((ends nxO ((yess aR aM).2.2) (ends nxR ((yess aR aM).2.1) (raftEnd ((yess aR aM).1) 1))) < 0)) (by kernel_rfl) (decide_eq_false (by omega)) ?_
      refine AW.skip ?_
      refine AW.seq ?_
      refine AW.r ?_
      refine At.a 3 ?_
      refine At.done rfl ?_
      refine AW.condF ((ends nxO ((yess aR aM).2.2) (ends nxR ((yess aR aM).2.1) (raftEnd ((yess aR aM).1) 1))) != (ends nxO ((yess aR aM).2.2) (ends nxR ((yess aR aM).2.1) (raftEnd ((yess aR aM).1) 1)))) (by kernel_rfl) (by simp) ?_
      refine AW.skip ?_
      refine AW.seq ?_
      refine AW.regionD Tryz_mix (At.start ?_)
      refine At.a 1 ?_
      refine At.c (laws_toRaft_spec  aR hz) Tryz.call40 true [] [(3620, 0), (3621, 1), (3622, 2), (3623, 3)] [] trivial ?_
      refine At.a 1 ?_
      refine At.c (laws_toMsg_spec  aM hm) Tryz.call41 true [] [(3660, 0)] [] trivial ?_
      refine At.c (impl_OnYes_spec  aR aM hz hm) Tryz.call55 false [] [(3680, 0), (3681, 1), (3682, 2), (3683, 3), (3684, 4), (3685, 5)] [(3620, 6, (aR.hard.log.map encEnt)), (3621, 1, (aR.yes.map encI)), (3622, 1, (aR.next.map encI)), (3623, 1, (aR.match_.map encI)), (3660, 6, (aM.entries.map encEnt))] ⟨rfl, ⟨45, (aR.hard.log.map encEnt), by kernel_rfl, FrzIs.same (allP_encEnt _)⟩, rfl, ⟨3, (aR.yes.map encI), by kernel_rfl, FrzIs.same (allP_encI _)⟩, rfl, ⟨3, (aR.next.map encI), by kernel_rfl, FrzIs.same (allP_encI _)⟩, rfl, ⟨3, (aR.match_.map encI), by kernel_rfl, FrzIs.same (allP_encI _)⟩, rfl, ⟨45, (aM.entries.map encEnt), by kernel_rfl, FrzIs.same (allP_encEnt _)⟩, trivial⟩ ?_
      refine At.a 8 ?_
      refine At.done rfl ⟨by kernel_rfl, ?_⟩
      refine AW.seq ?_
      refine AW.r ?_
      refine At.a 2 ?_
      refine At.c (laws_eqRaft_spec  ((yess aR aM).1) ((yess aR aM).1) (by exact hzp) (by exact hzp)) Tryz.call42 false [] [] [(3680, 6, ((((yess aR aM).1).hard.log).map encEnt)), (3681, 1, ((((yess aR aM).1).yes).map encI)), (3682, 1, ((((yess aR aM).1).next).map encI)), (3683, 1, ((((yess aR aM).1).match_).map encI)), (1700, 6, ((((yess aR aM).1).hard.log).map encEnt)), (1701, 1, ((((yess aR aM).1).yes).map encI)), (1702, 1, ((((yess aR aM).1).next).map encI)), (1703, 1, ((((yess aR aM).1).match_).map encI))] ⟨rfl, ⟨45, ((((yess aR aM).1).hard.log).map encEnt), by kernel_rfl, FrzIs.same (allP_encEnt _)⟩, rfl, ⟨3, ((((yess aR aM).1).yes).map encI), by kernel_rfl, FrzIs.same (allP_encI _)⟩, rfl, ⟨3, ((((yess aR aM).1).next).map encI), by kernel_rfl, FrzIs.same (allP_encI _)⟩, rfl, ⟨3, ((((yess aR aM).1).match_).map encI), by kernel_rfl, FrzIs.same (allP_encI _)⟩, rfl, ⟨45, ((((yess aR aM).1).hard.log).map encEnt), by kernel_rfl, FrzIs.same (allP_encEnt _)⟩, rfl, ⟨3, ((((yess aR aM).1).yes).map encI), by kernel_rfl, FrzIs.same (allP_encI _)⟩, rfl, ⟨3, ((((yess aR aM).1).next).map encI), by kernel_rfl, FrzIs.same (allP_encI _)⟩, rfl, ⟨3, ((((yess aR aM).1).match_).map encI), by kernel_rfl, FrzIs.same (allP_encI _)⟩, trivial⟩ ?_
      refine At.a 2 ?_
      refine At.sB 142 (!(raftEq ((yess aR aM).1) ((yess aR aM).1))) false (sayB (by rw [show (raftEq ((yess aR aM).1) ((yess aR aM).1)) = true from (raftEq_refl _)]; rfl)) ?_
      refine At.a 2 ?_
      refine At.c (laws_eqRecS_spec  ((yess aR aM).2.1) ((yess aR aM).2.1) (by omega) (by omega)) Tryz.call43 false [] [] [(3684, 10, (((yess aR aM).2.1).map encRec)), (1704, 10, (((yess aR aM).2.1).map encRec))] ⟨rfl, ⟨47, (((yess aR aM).2.1).map encRec), by kernel_rfl, FrzIs.same (allP_encRec _)⟩, rfl, ⟨47, (((yess aR aM).2.1).map encRec), by kernel_rfl, FrzIs.same (allP_encRec _)⟩, trivial⟩ ?_
      refine At.a 3 ?_
      refine At.sB 148 (!(listEq recEq ((yess aR aM).2.1) ((yess aR aM).2.1))) false (sayB (by rw [show (listEq recEq ((yess aR aM).2.1) ((yess aR aM).2.1)) = true from (listEq_refl recEq_refl _)]; rfl)) ?_
      refine At.a 2 ?_
      refine At.c (laws_eqOutS_spec  ((yess aR aM).2.2) ((yess aR aM).2.2) (by have := hfew.1; omega) (by have := hfew.1; omega) (fun o ho => by have := hfew.2 o ho; omega) (fun o ho => by have := hfew.2 o ho; omega)) Tryz.call44 false [] [] [(3685, 17, (((yess aR aM).2.2).map encOutV)), (1705, 17, (((yess aR aM).2.2).map encOutV))] ⟨rfl, ⟨51, (((yess aR aM).2.2).map encOut), by kernel_rfl, frzOut _⟩, rfl, ⟨51, (((yess aR aM).2.2).map encOut), by kernel_rfl, frzOut _⟩, trivial⟩ ?_
      refine At.a 2 ?_
      refine At.done rfl ?_
      refine AW.condF (!(listEq outEq ((yess aR aM).2.2) ((yess aR aM).2.2))) (by kernel_rfl) (by rw [show (listEq outEq ((yess aR aM).2.2) ((yess aR aM).2.2)) = true from (listEq_refl outEq_refl _)]; rfl) ?_
      refine AW.skip ?_
      refine AW.r ?_
      refine At.a 1 ?_
      refine At.done rfl ?_
      refine AW.r ?_
      refine At.a 2 ?_
      refine At.c (laws_heldRaft_spec  (⟨((yess aR aM).1).id, ((yess aR aM).1).of_, ((yess aR aM).1).role, ((yess aR aM).1).commit, ⟨((yess aR aM).1).hard.term, ((yess aR aM).1).hard.vote, (raftMark ((yess aR aM).1) 1).hard.log⟩, (raftMark ((yess aR aM).1) 1).yes, (raftMark ((yess aR aM).1) 1).next, (raftMark ((yess aR aM).1) 1).match_⟩ : Raft) 1 (raftMark_small hzp 1) (by omega)) Tryz.call50 false [] [] [(1920, 6, (((raftMark ((yess aR aM).1) 1).hard.log).map encEnt)), (1921, 1, (((raftMark ((yess aR aM).1) 1).yes).map encI)), (1922, 1, (((raftMark ((yess aR aM).1) 1).next).map encI)), (1923, 1, (((raftMark ((yess aR aM).1) 1).match_).map encI))] ⟨rfl, ⟨45, (((raftMark ((yess aR aM).1) 1).hard.log).map encEnt), by kernel_rfl, FrzIs.same (allP_encEnt _)⟩, rfl, ⟨3, (((raftMark ((yess aR aM).1) 1).yes).map encI), by kernel_rfl, FrzIs.same (allP_encI _)⟩, rfl, ⟨3, (((raftMark ((yess aR aM).1) 1).next).map encI), by kernel_rfl, FrzIs.same (allP_encI _)⟩, rfl, ⟨3, (((raftMark ((yess aR aM).1) 1).match_).map encI), by kernel_rfl, FrzIs.same (allP_encI _)⟩, trivial⟩ ?_
      refine At.say 156 (.int .i64 (heldRaft (⟨((yess aR aM).1).id, ((yess aR aM).1).of_, ((yess aR aM).1).role, ((yess aR aM).1).commit, ⟨((yess aR aM).1).hard.term, ((yess aR aM).1).hard.vote, (raftMark ((yess aR aM).1) 1).hard.log⟩, (raftMark ((yess aR aM).1) 1).yes, (raftMark ((yess aR aM).1) 1).next, (raftMark ((yess aR aM).1) 1).match_⟩ : Raft) 1)) (.int .i64 (raftEnd ((yess aR aM).1) 1)) (by kernel_rfl) (congrArg (V.int .i64) (held_raft ((yess aR aM).1) 1 (by omega))) ?_
      refine At.a 1 ?_
      refine At.done rfl ?_
      refine AW.seq ?_
      refine AW.r ?_
      refine At.a 2 ?_
      refine At.done rfl ?_
      refine AW.condF (decide ((raftEnd ((yess aR aM).1) 1) < 0)) (by kernel_rfl) (decide_eq_false (by have := hke; omega)) ?_
      refine AW.skip ?_
      refine AW.r ?_
      refine At.a 2 ?_
      refine At.c (laws_heldRecS_spec  (marks markR nxR ((yess aR aM).2.1) (raftEnd ((yess aR aM).1) 1)) (raftEnd ((yess aR aM).1) 1) (by rw [marks_len]; omega) (by rw [marks_len]; omega)) Tryz.call51 false [] [] [(1924, 10, ((marks markR nxR ((yess aR aM).2.1) (raftEnd ((yess aR aM).1) 1)).map encRec))] ⟨rfl, ⟨47, ((marks markR nxR ((yess aR aM).2.1) (raftEnd ((yess aR aM).1) 1)).map encRec), by kernel_rfl, FrzIs.same (allP_encRec _)⟩, trivial⟩ ?_
      refine At.say 161 (.int .i64 (held okR nxR (marks markR nxR ((yess aR aM).2.1) (raftEnd ((yess aR aM).1) 1)) (raftEnd ((yess aR aM).1) 1))) (.int .i64 (ends nxR ((yess aR aM).2.1) (raftEnd ((yess aR aM).1) 1))) (by kernel_rfl) (congrArg (V.int .i64) (held_recs _ _ (by omega))) ?_
      refine At.a 1 ?_
      refine At.done rfl ?_
      refine AW.seq ?_
      refine AW.r ?_
      refine At.a 2 ?_
      refine At.done rfl ?_
      refine AW.condF (decide ((ends nxR ((yess aR aM).2.1) (raftEnd ((yess aR aM).1) 1)) < 0)) (by kernel_rfl) (decide_eq_false (by omega)) ?_
      refine AW.skip ?_
      refine AW.r ?_
      refine At.a 2 ?_
      refine At.c (laws_heldOutS_spec  (marks markO nxO ((yess aR aM).2.2) (ends nxR ((yess aR aM).2.1) (raftEnd ((yess aR aM).1) 1))) (ends nxR ((yess aR aM).2.1) (raftEnd ((yess aR aM).1) 1)) hmf (by omega)) Tryz.call52 false [] [] [(1925, 17, ((marks markO nxO ((yess aR aM).2.2) (ends nxR ((yess aR aM).2.1) (raftEnd ((yess aR aM).1) 1))).map encOutV))] ⟨rfl, ⟨51, ((marks markO nxO ((yess aR aM).2.2) (ends nxR ((yess aR aM).2.1) (raftEnd ((yess aR aM).1) 1))).map encOut), by kernel_rfl, frzOut _⟩, trivial⟩ ?_
      refine At.say 166 (.int .i64 (heldO (marks markO nxO ((yess aR aM).2.2) (ends nxR ((yess aR aM).2.1) (raftEnd ((yess aR aM).1) 1))) (ends nxR ((yess aR aM).2.1) (raftEnd ((yess aR aM).1) 1)))) (.int .i64 (ends nxO ((yess aR aM).2.2) (ends nxR ((yess aR aM).2.1) (raftEnd ((yess aR aM).1) 1)))) (by kernel_rfl) (congrArg (V.int .i64) (held_outs _ _ (by omega))) ?_
      refine At.a 1 ?_
      refine At.done rfl ?_
      refine AW.seq ?_
      refine AW.r ?_
      refine At.a 2 ?_
      refine At.done rfl ?_
      refine AW.condF (decide ((ends nxO ((yess aR aM).2.2) (ends nxR ((yess aR aM).2.1) (raftEnd ((yess aR aM).1) 1))) < 0)) (by kernel_rfl) (decide_eq_false (by omega)) ?_
      refine AW.skip ?_
      refine AW.seq ?_
      refine AW.r ?_
      refine At.a 3 ?_
      refine At.done rfl ?_
      refine AW.condF ((ends nxO ((yess aR aM).2.2) (ends nxR ((yess aR aM).2.1) (raftEnd ((yess aR aM).1) 1))) != (ends nxO ((yess aR aM).2.2) (ends nxR ((yess aR aM).2.1) (raftEnd ((yess aR aM).1) 1)))) (by kernel_rfl) (by simp) ?_
      refine AW.skip ?_
      refine AW.r ?_
      refine At.a 1 ?_
      refine At.done rfl ?_
      refine AW.ret ?_
      refine ⟨_, Sub.refl _ _, ?_⟩
      exact KF.m [] [.bool true]
end Go.Proofs.YtlmadhahghiedaaGreat
