/- The contracts of the functions that FnExactOnGot reaches (each: what it answers, said over values), printed by a program of this session (wip/sy/g/gen.py). -/
import Derived.Test.YtlmadhahghiedaaGreatFFnExactOnGot2
set_option linter.unusedVariables false
set_option linter.unusedSimpArgs false
namespace Go.Proofs.YtlmadhahghiedaaGreat
open Go Go.Sy Go.Proofs
set_option maxRecDepth 100000 in
set_option maxHeartbeats 4000000 in
theorem impl_Msg_take_spec  (m : Msg) (field : UInt8) (hl : m.entries.length ≤ 1048576) : FnSpec Tryz.prog 77 [.ptr 0 0 0, .int .u8 (field.toNat : Int)] [.box 33 [.int .i64 m.kind, .int .i64 m.from_, .int .i64 m.term, .int .i64 m.at_, .int .i64 m.atTerm, .int .i64 m.commit, .bool m.yes, .int .i64 m.release, .int .i64 m.part, .str m.bytes, .int .i64 m.cmd.kind, .int .i64 m.cmd.release, .int .i64 m.cmd.node, .int .i64 m.cmd.size, .str m.cmd.digest, .sl false 6 (m.entries.map encEnt)]] (.bool (takeOk m field.toNat)) [.box 33 [.int .i64 ((takeM m field.toNat).kind), .int .i64 ((takeM m field.toNat).from_), .int .i64 ((takeM m field.toNat).term), .int .i64 ((takeM m field.toNat).at_), .int .i64 ((takeM m field.toNat).atTerm), .int .i64 ((takeM m field.toNat).commit), .bool ((takeM m field.toNat).yes), .int .i64 ((takeM m field.toNat).release), .int .i64 ((takeM m field.toNat).part), .str ((takeM m field.toNat).bytes), .int .i64 ((takeM m field.toNat).cmd.kind), .int .i64 ((takeM m field.toNat).cmd.release), .int .i64 ((takeM m field.toNat).cmd.node), .int .i64 ((takeM m field.toNat).cmd.size), .str ((takeM m field.toNat).cmd.digest), .sl false 6 (((takeM m field.toNat).entries).map encEnt)]] := by
  refine FnSpec.of 113 Tryz.func77 rfl Tryz.ntmps77 (by simp) (AW.weakK ?_)
  refine AW.r ?_
  refine At.a 1 ?_
  refine At.done rfl ?_
  refine AW.r ?_
  refine At.a 1 ?_
  refine At.done rfl ?_
  refine AW.seq ?_
  refine AW.r ?_
  refine At.a 1 ?_
  refine At.done rfl ?_
  refine AW.block ?_
  refine AW.r ?_
  refine At.a 2 ?_
  refine At.done rfl ?_
  refine AW.cE (field.toNat : Int) (102 : Int) (fun h1 => ?_) (fun h1 => ?_)
  · skip
    refine AW.region (At.start ?_)
    refine At.a 5 ?_
    refine At.c (impl_isNode_spec  m.from_ ) Tryz.call152 true [] [] [] trivial ?_
    refine At.a 4 ?_
    refine At.done rfl ?_
    refine AW.r ?_
    refine At.a 2 ?_
    refine At.done rfl ?_
    refine AW.ret ?_
    refine ⟨_, Sub.refl _ _, ?_⟩
    refine KF.conv (fun w => .bool w) (fun w => [.box 33 [.int .i64 ((takeM m field.toNat).kind), .int .i64 ((takeM m field.toNat).from_), .int .i64 ((takeM m field.toNat).term), .int .i64 ((takeM m field.toNat).at_), .int .i64 ((takeM m field.toNat).atTerm), .int .i64 ((takeM m field.toNat).commit), .bool ((takeM m field.toNat).yes), .int .i64 ((takeM m field.toNat).release), .int .i64 ((takeM m field.toNat).part), .str ((takeM m field.toNat).bytes), .int .i64 ((takeM m field.toNat).cmd.kind), .int .i64 ((takeM m field.toNat).cmd.release), .int .i64 ((takeM m field.toNat).cmd.node), .int .i64 ((takeM m field.toNat).cmd.size), .str ((takeM m field.toNat).cmd.digest), .sl false 6 (((takeM m field.toNat).entries).map encEnt)]]) (show (inR m.from_ 0 4) = (takeOk m field.toNat) from by simp only [takeOk, takeM, h1, if_true, if_false] <;> rfl) ?_
    refine KF.conv (fun w => .bool (inR m.from_ 0 4)) (fun w => [.box 33 [.int .i64 w.kind, .int .i64 w.from_, .int .i64 w.term, .int .i64 w.at_, .int .i64 w.atTerm, .int .i64 w.commit, .bool w.yes, .int .i64 w.release, .int .i64 w.part, .str w.bytes, .int .i64 w.cmd.kind, .int .i64 w.cmd.release, .int .i64 w.cmd.node, .int .i64 w.cmd.size, .str w.cmd.digest, .sl false 6 (w.entries.map encEnt)]]) (show ((⟨m.kind, 0, m.term, m.at_, m.atTerm, m.commit, m.yes, m.release, m.part, m.bytes, m.cmd, m.entries⟩ : Msg)) = (takeM m field.toNat) from by simp only [takeOk, takeM, h1, if_true, if_false] <;> rfl) ?_
    exact KF.m [(0, 0)] [.bool (inR m.from_ 0 4)]
  · skip
    refine AW.r ?_
    refine At.a 2 ?_
    refine At.done rfl ?_
    refine AW.cE (field.toNat : Int) (116 : Int) (fun h2 => ?_) (fun h2 => ?_)
    · skip
      refine AW.region (At.start ?_)
      refine At.a 5 ?_
      refine At.c (impl_isWhole_spec  m.term ) Tryz.call150 true [] [] [] trivial ?_
      refine At.a 4 ?_
      refine At.done rfl ?_
      refine AW.r ?_
      refine At.a 2 ?_
      refine At.done rfl ?_
      refine AW.ret ?_
      refine ⟨_, Sub.refl _ _, ?_⟩
      refine KF.conv (fun w => .bool w) (fun w => [.box 33 [.int .i64 ((takeM m field.toNat).kind), .int .i64 ((takeM m field.toNat).from_), .int .i64 ((takeM m field.toNat).term), .int .i64 ((takeM m field.toNat).at_), .int .i64 ((takeM m field.toNat).atTerm), .int .i64 ((takeM m field.toNat).commit), .bool ((takeM m field.toNat).yes), .int .i64 ((takeM m field.toNat).release), .int .i64 ((takeM m field.toNat).part), .str ((takeM m field.toNat).bytes), .int .i64 ((takeM m field.toNat).cmd.kind), .int .i64 ((takeM m field.toNat).cmd.release), .int .i64 ((takeM m field.toNat).cmd.node), .int .i64 ((takeM m field.toNat).cmd.size), .str ((takeM m field.toNat).cmd.digest), .sl false 6 (((takeM m field.toNat).entries).map encEnt)]]) (show (inR m.term 0 1000000000) = (takeOk m field.toNat) from by simp only [takeOk, takeM, h1, h2, if_true, if_false] <;> rfl) ?_
      refine KF.conv (fun w => .bool (inR m.term 0 1000000000)) (fun w => [.box 33 [.int .i64 w.kind, .int .i64 w.from_, .int .i64 w.term, .int .i64 w.at_, .int .i64 w.atTerm, .int .i64 w.commit, .bool w.yes, .int .i64 w.release, .int .i64 w.part, .str w.bytes, .int .i64 w.cmd.kind, .int .i64 w.cmd.release, .int .i64 w.cmd.node, .int .i64 w.cmd.size, .str w.cmd.digest, .sl false 6 (w.entries.map encEnt)]]) (show ((⟨m.kind, m.from_, 0, m.at_, m.atTerm, m.commit, m.yes, m.release, m.part, m.bytes, m.cmd, m.entries⟩ : Msg)) = (takeM m field.toNat) from by simp only [takeOk, takeM, h1, h2, if_true, if_false] <;> rfl) ?_
      exact KF.m [(0, 0)] [.bool (inR m.term 0 1000000000)]
    · skip
      refine AW.r ?_
      refine At.a 2 ?_
      refine At.done rfl ?_
      refine AW.cE (field.toNat : Int) (97 : Int) (fun h3 => ?_) (fun h3 => ?_)
      · skip
        refine AW.region (At.start ?_)
        refine At.a 5 ?_
        refine At.c (impl_within_spec  m.at_ 0 80 ) Tryz.call69 true [] [] [] trivial ?_
        refine At.a 4 ?_
        refine At.done rfl ?_
        refine AW.r ?_
        refine At.a 2 ?_
        refine At.done rfl ?_
        refine AW.ret ?_
        refine ⟨_, Sub.refl _ _, ?_⟩
        refine KF.conv (fun w => .bool w) (fun w => [.box 33 [.int .i64 ((takeM m field.toNat).kind), .int .i64 ((takeM m field.toNat).from_), .int .i64 ((takeM m field.toNat).term), .int .i64 ((takeM m field.toNat).at_), .int .i64 ((takeM m field.toNat).atTerm), .int .i64 ((takeM m field.toNat).commit), .bool ((takeM m field.toNat).yes), .int .i64 ((takeM m field.toNat).release), .int .i64 ((takeM m field.toNat).part), .str ((takeM m field.toNat).bytes), .int .i64 ((takeM m field.toNat).cmd.kind), .int .i64 ((takeM m field.toNat).cmd.release), .int .i64 ((takeM m field.toNat).cmd.node), .int .i64 ((takeM m field.toNat).cmd.size), .str ((takeM m field.toNat).cmd.digest), .sl false 6 (((takeM m field.toNat).entries).map encEnt)]]) (show (inR m.at_ 0 80) = (takeOk m field.toNat) from by simp only [takeOk, takeM, h1, h2, h3, if_true, if_false] <;> rfl) ?_
        refine KF.conv (fun w => .bool (inR m.at_ 0 80)) (fun w => [.box 33 [.int .i64 w.kind, .int .i64 w.from_, .int .i64 w.term, .int .i64 w.at_, .int .i64 w.atTerm, .int .i64 w.commit, .bool w.yes, .int .i64 w.release, .int .i64 w.part, .str w.bytes, .int .i64 w.cmd.kind, .int .i64 w.cmd.release, .int .i64 w.cmd.node, .int .i64 w.cmd.size, .str w.cmd.digest, .sl false 6 (w.entries.map encEnt)]]) (show ((⟨m.kind, m.from_, m.term, 0, m.atTerm, m.commit, m.yes, m.release, m.part, m.bytes, m.cmd, m.entries⟩ : Msg)) = (takeM m field.toNat) from by simp only [takeOk, takeM, h1, h2, h3, if_true, if_false] <;> rfl) ?_
        exact KF.m [(0, 0)] [.bool (inR m.at_ 0 80)]
      · skip
        refine AW.r ?_
        refine At.a 2 ?_
        refine At.done rfl ?_
        refine AW.cE (field.toNat : Int) (120 : Int) (fun h4 => ?_) (fun h4 => ?_)
        · skip
          refine AW.region (At.start ?_)
          refine At.a 5 ?_
          refine At.c (impl_isWhole_spec  m.atTerm ) Tryz.call150 true [] [] [] trivial ?_
          refine At.a 4 ?_
          refine At.done rfl ?_
          refine AW.r ?_
          refine At.a 2 ?_
          refine At.done rfl ?_
          refine AW.ret ?_
          refine ⟨_, Sub.refl _ _, ?_⟩
          refine KF.conv (fun w => .bool w) (fun w => [.box 33 [.int .i64 ((takeM m field.toNat).kind), .int .i64 ((takeM m field.toNat).from_), .int .i64 ((takeM m field.toNat).term), .int .i64 ((takeM m field.toNat).at_), .int .i64 ((takeM m field.toNat).atTerm), .int .i64 ((takeM m field.toNat).commit), .bool ((takeM m field.toNat).yes), .int .i64 ((takeM m field.toNat).release), .int .i64 ((takeM m field.toNat).part), .str ((takeM m field.toNat).bytes), .int .i64 ((takeM m field.toNat).cmd.kind), .int .i64 ((takeM m field.toNat).cmd.release), .int .i64 ((takeM m field.toNat).cmd.node), .int .i64 ((takeM m field.toNat).cmd.size), .str ((takeM m field.toNat).cmd.digest), .sl false 6 (((takeM m field.toNat).entries).map encEnt)]]) (show (inR m.atTerm 0 1000000000) = (takeOk m field.toNat) from by simp only [takeOk, takeM, h1, h2, h3, h4, if_true, if_false] <;> rfl) ?_
          refine KF.conv (fun w => .bool (inR m.atTerm 0 1000000000)) (fun w => [.box 33 [.int .i64 w.kind, .int .i64 w.from_, .int .i64 w.term, .int .i64 w.at_, .int .i64 w.atTerm, .int .i64 w.commit, .bool w.yes, .int .i64 w.release, .int .i64 w.part, .str w.bytes, .int .i64 w.cmd.kind, .int .i64 w.cmd.release, .int .i64 w.cmd.node, .int .i64 w.cmd.size, .str w.cmd.digest, .sl false 6 (w.entries.map encEnt)]]) (show ((⟨m.kind, m.from_, m.term, m.at_, 0, m.commit, m.yes, m.release, m.part, m.bytes, m.cmd, m.entries⟩ : Msg)) = (takeM m field.toNat) from by simp only [takeOk, takeM, h1, h2, h3, h4, if_true, if_false] <;> rfl) ?_
          exact KF.m [(0, 0)] [.bool (inR m.atTerm 0 1000000000)]
        · skip
          refine AW.r ?_
          refine At.a 2 ?_
          refine At.done rfl ?_
          refine AW.cE (field.toNat : Int) (99 : Int) (fun h5 => ?_) (fun h5 => ?_)
          · skip
            refine AW.region (At.start ?_)
            refine At.a 5 ?_
            refine At.c (impl_within_spec  m.commit 0 80 ) Tryz.call69 true [] [] [] trivial ?_
            refine At.a 4 ?_
            refine At.done rfl ?_
            refine AW.r ?_
            refine At.a 2 ?_
            refine At.done rfl ?_
            refine AW.ret ?_
            refine ⟨_, Sub.refl _ _, ?_⟩
            refine KF.conv (fun w => .bool w) (fun w => [.box 33 [.int .i64 ((takeM m field.toNat).kind), .int .i64 ((takeM m field.toNat).from_), .int .i64 ((takeM m field.toNat).term), .int .i64 ((takeM m field.toNat).at_), .int .i64 ((takeM m field.toNat).atTerm), .int .i64 ((takeM m field.toNat).commit), .bool ((takeM m field.toNat).yes), .int .i64 ((takeM m field.toNat).release), .int .i64 ((takeM m field.toNat).part), .str ((takeM m field.toNat).bytes), .int .i64 ((takeM m field.toNat).cmd.kind), .int .i64 ((takeM m field.toNat).cmd.release), .int .i64 ((takeM m field.toNat).cmd.node), .int .i64 ((takeM m field.toNat).cmd.size), .str ((takeM m field.toNat).cmd.digest), .sl false 6 (((takeM m field.toNat).entries).map encEnt)]]) (show (inR m.commit 0 80) = (takeOk m field.toNat) from by simp only [takeOk, takeM, h1, h2, h3, h4, h5, if_true, if_false] <;> rfl) ?_
            refine KF.conv (fun w => .bool (inR m.commit 0 80)) (fun w => [.box 33 [.int .i64 w.kind, .int .i64 w.from_, .int .i64 w.term, .int .i64 w.at_, .int .i64 w.atTerm, .int .i64 w.commit, .bool w.yes, .int .i64 w.release, .int .i64 w.part, .str w.bytes, .int .i64 w.cmd.kind, .int .i64 w.cmd.release, .int .i64 w.cmd.node, .int .i64 w.cmd.size, .str w.cmd.digest, .sl false 6 (w.entries.map encEnt)]]) (show ((⟨m.kind, m.from_, m.term, m.at_, m.atTerm, 0, m.yes, m.release, m.part, m.bytes, m.cmd, m.entries⟩ : Msg)) = (takeM m field.toNat) from by simp only [takeOk, takeM, h1, h2, h3, h4, h5, if_true, if_false] <;> rfl) ?_
            exact KF.m [(0, 0)] [.bool (inR m.commit 0 80)]
          · skip
            refine AW.r ?_
            refine At.a 2 ?_
            refine At.done rfl ?_
            refine AW.cE (field.toNat : Int) (121 : Int) (fun h6 => ?_) (fun h6 => ?_)
            · skip
              refine AW.region (At.start ?_)
              refine At.a 4 ?_
              refine At.done rfl ?_
              refine AW.r ?_
              refine At.a 2 ?_
              refine At.done rfl ?_
              refine AW.ret ?_
              refine ⟨_, Sub.refl _ _, ?_⟩
              refine KF.conv (fun w => .bool w) (fun w => [.box 33 [.int .i64 ((takeM m field.toNat).kind), .int .i64 ((takeM m field.toNat).from_), .int .i64 ((takeM m field.toNat).term), .int .i64 ((takeM m field.toNat).at_), .int .i64 ((takeM m field.toNat).atTerm), .int .i64 ((takeM m field.toNat).commit), .bool ((takeM m field.toNat).yes), .int .i64 ((takeM m field.toNat).release), .int .i64 ((takeM m field.toNat).part), .str ((takeM m field.toNat).bytes), .int .i64 ((takeM m field.toNat).cmd.kind), .int .i64 ((takeM m field.toNat).cmd.release), .int .i64 ((takeM m field.toNat).cmd.node), .int .i64 ((takeM m field.toNat).cmd.size), .str ((takeM m field.toNat).cmd.digest), .sl false 6 (((takeM m field.toNat).entries).map encEnt)]]) (show (true) = (takeOk m field.toNat) from by simp only [takeOk, takeM, h1, h2, h3, h4, h5, h6, if_true, if_false] <;> rfl) ?_
              refine KF.conv (fun w => .bool true) (fun w => [.box 33 [.int .i64 w.kind, .int .i64 w.from_, .int .i64 w.term, .int .i64 w.at_, .int .i64 w.atTerm, .int .i64 w.commit, .bool w.yes, .int .i64 w.release, .int .i64 w.part, .str w.bytes, .int .i64 w.cmd.kind, .int .i64 w.cmd.release, .int .i64 w.cmd.node, .int .i64 w.cmd.size, .str w.cmd.digest, .sl false 6 (w.entries.map encEnt)]]) (show ((⟨m.kind, m.from_, m.term, m.at_, m.atTerm, m.commit, false, m.release, m.part, m.bytes, m.cmd, m.entries⟩ : Msg)) = (takeM m field.toNat) from by simp only [takeOk, takeM, h1, h2, h3, h4, h5, h6, if_true, if_false] <;> rfl) ?_
              exact KF.m [(0, 0)] [.bool true]
            · skip
              refine AW.r ?_
              refine At.a 2 ?_
              refine At.done rfl ?_
              refine AW.cE (field.toNat : Int) (114 : Int) (fun h7 => ?_) (fun h7 => ?_)
              · skip
                refine AW.region (At.start ?_)
                refine At.a 5 ?_
                refine At.c (impl_isRelease_spec  m.release ) Tryz.call153 true [] [] [] trivial ?_
                refine At.a 4 ?_
                refine At.done rfl ?_
                refine AW.r ?_
                refine At.a 2 ?_
                refine At.done rfl ?_
                refine AW.ret ?_
                refine ⟨_, Sub.refl _ _, ?_⟩
                refine KF.conv (fun w => .bool w) (fun w => [.box 33 [.int .i64 ((takeM m field.toNat).kind), .int .i64 ((takeM m field.toNat).from_), .int .i64 ((takeM m field.toNat).term), .int .i64 ((takeM m field.toNat).at_), .int .i64 ((takeM m field.toNat).atTerm), .int .i64 ((takeM m field.toNat).commit), .bool ((takeM m field.toNat).yes), .int .i64 ((takeM m field.toNat).release), .int .i64 ((takeM m field.toNat).part), .str ((takeM m field.toNat).bytes), .int .i64 ((takeM m field.toNat).cmd.kind), .int .i64 ((takeM m field.toNat).cmd.release), .int .i64 ((takeM m field.toNat).cmd.node), .int .i64 ((takeM m field.toNat).cmd.size), .str ((takeM m field.toNat).cmd.digest), .sl false 6 (((takeM m field.toNat).entries).map encEnt)]]) (show (inR m.release 1 1000) = (takeOk m field.toNat) from by simp only [takeOk, takeM, h1, h2, h3, h4, h5, h6, h7, if_true, if_false] <;> rfl) ?_
                refine KF.conv (fun w => .bool (inR m.release 1 1000)) (fun w => [.box 33 [.int .i64 w.kind, .int .i64 w.from_, .int .i64 w.term, .int .i64 w.at_, .int .i64 w.atTerm, .int .i64 w.commit, .bool w.yes, .int .i64 w.release, .int .i64 w.part, .str w.bytes, .int .i64 w.cmd.kind, .int .i64 w.cmd.release, .int .i64 w.cmd.node, .int .i64 w.cmd.size, .str w.cmd.digest, .sl false 6 (w.entries.map encEnt)]]) (show ((⟨m.kind, m.from_, m.term, m.at_, m.atTerm, m.commit, m.yes, 0, m.part, m.bytes, m.cmd, m.entries⟩ : Msg)) = (takeM m field.toNat) from by simp only [takeOk, takeM, h1, h2, h3, h4, h5, h6, h7, if_true, if_false] <;> rfl) ?_
                exact KF.m [(0, 0)] [.bool (inR m.release 1 1000)]
              · skip
                refine AW.r ?_
                refine At.a 2 ?_
                refine At.done rfl ?_
                refine AW.cE (field.toNat : Int) (112 : Int) (fun h8 => ?_) (fun h8 => ?_)
                · skip
                  refine AW.region (At.start ?_)
                  refine At.a 5 ?_
                  refine At.c (impl_isSize_spec  m.part ) Tryz.call154 true [] [] [] trivial ?_
                  refine At.a 4 ?_
                  refine At.done rfl ?_
                  refine AW.r ?_
                  refine At.a 2 ?_
                  refine At.done rfl ?_
                  refine AW.ret ?_
                  refine ⟨_, Sub.refl _ _, ?_⟩
                  refine KF.conv (fun w => .bool w) (fun w => [.box 33 [.int .i64 ((takeM m field.toNat).kind), .int .i64 ((takeM m field.toNat).from_), .int .i64 ((takeM m field.toNat).term), .int .i64 ((takeM m field.toNat).at_), .int .i64 ((takeM m field.toNat).atTerm), .int .i64 ((takeM m field.toNat).commit), .bool ((takeM m field.toNat).yes), .int .i64 ((takeM m field.toNat).release), .int .i64 ((takeM m field.toNat).part), .str ((takeM m field.toNat).bytes), .int .i64 ((takeM m field.toNat).cmd.kind), .int .i64 ((takeM m field.toNat).cmd.release), .int .i64 ((takeM m field.toNat).cmd.node), .int .i64 ((takeM m field.toNat).cmd.size), .str ((takeM m field.toNat).cmd.digest), .sl false 6 (((takeM m field.toNat).entries).map encEnt)]]) (show (inR m.part 0 1000) = (takeOk m field.toNat) from by simp only [takeOk, takeM, h1, h2, h3, h4, h5, h6, h7, h8, if_true, if_false] <;> rfl) ?_
                  refine KF.conv (fun w => .bool (inR m.part 0 1000)) (fun w => [.box 33 [.int .i64 w.kind, .int .i64 w.from_, .int .i64 w.term, .int .i64 w.at_, .int .i64 w.atTerm, .int .i64 w.commit, .bool w.yes, .int .i64 w.release, .int .i64 w.part, .str w.bytes, .int .i64 w.cmd.kind, .int .i64 w.cmd.release, .int .i64 w.cmd.node, .int .i64 w.cmd.size, .str w.cmd.digest, .sl false 6 (w.entries.map encEnt)]]) (show ((⟨m.kind, m.from_, m.term, m.at_, m.atTerm, m.commit, m.yes, m.release, 0, m.bytes, m.cmd, m.entries⟩ : Msg)) = (takeM m field.toNat) from by simp only [takeOk, takeM, h1, h2, h3, h4, h5, h6, h7, h8, if_true, if_false] <;> rfl) ?_
                  exact KF.m [(0, 0)] [.bool (inR m.part 0 1000)]
                · skip
                  refine AW.r ?_
                  refine At.a 2 ?_
                  refine At.done rfl ?_
                  refine AW.cE (field.toNat : Int) (98 : Int) (fun h9 => ?_) (fun h9 => ?_)
                  · skip
                    refine AW.region (At.start ?_)
                    refine At.a 6 ?_
                    refine At.c (impl_within_spec  (m.bytes.size : Int) 1 16 ) Tryz.call69 true [] [] [] trivial ?_
                    refine At.a 4 ?_
                    refine At.done rfl ?_
                    refine AW.r ?_
                    refine At.a 2 ?_
                    refine At.done rfl ?_
                    refine AW.ret ?_
                    refine ⟨_, Sub.refl _ _, ?_⟩
                    refine KF.conv (fun w => .bool w) (fun w => [.box 33 [.int .i64 ((takeM m field.toNat).kind), .int .i64 ((takeM m field.toNat).from_), .int .i64 ((takeM m field.toNat).term), .int .i64 ((takeM m field.toNat).at_), .int .i64 ((takeM m field.toNat).atTerm), .int .i64 ((takeM m field.toNat).commit), .bool ((takeM m field.toNat).yes), .int .i64 ((takeM m field.toNat).release), .int .i64 ((takeM m field.toNat).part), .str ((takeM m field.toNat).bytes), .int .i64 ((takeM m field.toNat).cmd.kind), .int .i64 ((takeM m field.toNat).cmd.release), .int .i64 ((takeM m field.toNat).cmd.node), .int .i64 ((takeM m field.toNat).cmd.size), .str ((takeM m field.toNat).cmd.digest), .sl false 6 (((takeM m field.toNat).entries).map encEnt)]]) (show (inR (m.bytes.size : Int) 1 16) = (takeOk m field.toNat) from by simp only [takeOk, takeM, h1, h2, h3, h4, h5, h6, h7, h8, h9, if_true, if_false] <;> rfl) ?_
                    refine KF.conv (fun w => .bool (inR (m.bytes.size : Int) 1 16)) (fun w => [.box 33 [.int .i64 w.kind, .int .i64 w.from_, .int .i64 w.term, .int .i64 w.at_, .int .i64 w.atTerm, .int .i64 w.commit, .bool w.yes, .int .i64 w.release, .int .i64 w.part, .str w.bytes, .int .i64 w.cmd.kind, .int .i64 w.cmd.release, .int .i64 w.cmd.node, .int .i64 w.cmd.size, .str w.cmd.digest, .sl false 6 (w.entries.map encEnt)]]) (show ((⟨m.kind, m.from_, m.term, m.at_, m.atTerm, m.commit, m.yes, m.release, m.part, (⟨#[]⟩ : ByteArray), m.cmd, m.entries⟩ : Msg)) = (takeM m field.toNat) from by simp only [takeOk, takeM, h1, h2, h3, h4, h5, h6, h7, h8, h9, if_true, if_false] <;> rfl) ?_
                    exact KF.m [(0, 0)] [.bool (inR (m.bytes.size : Int) 1 16)]
                  · skip
                    refine AW.r ?_
                    refine At.a 2 ?_
                    refine At.done rfl ?_
                    refine AW.cE (field.toNat : Int) (100 : Int) (fun h10 => ?_) (fun h10 => ?_)
                    · skip
                      refine AW.region (At.start ?_)
                      refine At.a 5 ?_
                      refine At.c (impl_CmdOk_spec  m.cmd ) Tryz.call101 true [] [] [] trivial ?_
                      refine At.a 5 ?_
                      refine At.done rfl ?_
                      refine AW.r ?_
                      refine At.a 2 ?_
                      refine At.done rfl ?_
                      refine AW.ret ?_
                      refine ⟨_, Sub.refl _ _, ?_⟩
                      refine KF.conv (fun w => .bool w) (fun w => [.box 33 [.int .i64 ((takeM m field.toNat).kind), .int .i64 ((takeM m field.toNat).from_), .int .i64 ((takeM m field.toNat).term), .int .i64 ((takeM m field.toNat).at_), .int .i64 ((takeM m field.toNat).atTerm), .int .i64 ((takeM m field.toNat).commit), .bool ((takeM m field.toNat).yes), .int .i64 ((takeM m field.toNat).release), .int .i64 ((takeM m field.toNat).part), .str ((takeM m field.toNat).bytes), .int .i64 ((takeM m field.toNat).cmd.kind), .int .i64 ((takeM m field.toNat).cmd.release), .int .i64 ((takeM m field.toNat).cmd.node), .int .i64 ((takeM m field.toNat).cmd.size), .str ((takeM m field.toNat).cmd.digest), .sl false 6 (((takeM m field.toNat).entries).map encEnt)]]) (show (cmdOk m.cmd) = (takeOk m field.toNat) from by simp only [takeOk, takeM, h1, h2, h3, h4, h5, h6, h7, h8, h9, h10, if_true, if_false] <;> rfl) ?_
                      refine KF.conv (fun w => .bool (cmdOk m.cmd)) (fun w => [.box 33 [.int .i64 w.kind, .int .i64 w.from_, .int .i64 w.term, .int .i64 w.at_, .int .i64 w.atTerm, .int .i64 w.commit, .bool w.yes, .int .i64 w.release, .int .i64 w.part, .str w.bytes, .int .i64 w.cmd.kind, .int .i64 w.cmd.release, .int .i64 w.cmd.node, .int .i64 w.cmd.size, .str w.cmd.digest, .sl false 6 (w.entries.map encEnt)]]) (show ((⟨m.kind, m.from_, m.term, m.at_, m.atTerm, m.commit, m.yes, m.release, m.part, m.bytes, ⟨0, 0, 0, 0, (⟨#[]⟩ : ByteArray)⟩, m.entries⟩ : Msg)) = (takeM m field.toNat) from by simp only [takeOk, takeM, h1, h2, h3, h4, h5, h6, h7, h8, h9, h10, if_true, if_false] <;> rfl) ?_
                      exact KF.m [(0, 0)] [.bool (cmdOk m.cmd)]
                    · skip
                      refine AW.region (At.start ?_)
                      refine At.a 5 ?_
                      refine At.c (impl_entriesOk_spec  m.entries (by omega)) Tryz.call155 true [] [] [] trivial ?_
                      refine At.a 4 ?_
                      refine At.done rfl ?_
                      refine AW.seq ?_
                      refine AW.weak (Sub.nsl 0 15 33 6 [.int .i64 m.kind, .int .i64 m.from_, .int .i64 m.term, .int .i64 m.at_, .int .i64 m.atTerm, .int .i64 m.commit, .bool m.yes, .int .i64 m.release, .int .i64 m.part, .str m.bytes, .int .i64 m.cmd.kind, .int .i64 m.cmd.release, .int .i64 m.cmd.node, .int .i64 m.cmd.size, .str m.cmd.digest, .nil] (by kernel_rfl)) ?_
                      refine AW.region (At.start ?_)
                      refine At.a 2 ?_
                      refine At.done rfl ?_
                      refine AW.ret ?_
                      refine ⟨_, Sub.refl _ _, ?_⟩
                      refine KF.conv (fun w => .bool w) (fun w => [.box 33 [.int .i64 ((takeM m field.toNat).kind), .int .i64 ((takeM m field.toNat).from_), .int .i64 ((takeM m field.toNat).term), .int .i64 ((takeM m field.toNat).at_), .int .i64 ((takeM m field.toNat).atTerm), .int .i64 ((takeM m field.toNat).commit), .bool ((takeM m field.toNat).yes), .int .i64 ((takeM m field.toNat).release), .int .i64 ((takeM m field.toNat).part), .str ((takeM m field.toNat).bytes), .int .i64 ((takeM m field.toNat).cmd.kind), .int .i64 ((takeM m field.toNat).cmd.release), .int .i64 ((takeM m field.toNat).cmd.node), .int .i64 ((takeM m field.toNat).cmd.size), .str ((takeM m field.toNat).cmd.digest), .sl false 6 (((takeM m field.toNat).entries).map encEnt)]]) (show (entsFit m.entries) = (takeOk m field.toNat) from by simp only [takeOk, takeM, h1, h2, h3, h4, h5, h6, h7, h8, h9, h10, if_true, if_false] <;> rfl) ?_
                      refine KF.conv (fun w => .bool (entsFit m.entries)) (fun w => [.box 33 [.int .i64 w.kind, .int .i64 w.from_, .int .i64 w.term, .int .i64 w.at_, .int .i64 w.atTerm, .int .i64 w.commit, .bool w.yes, .int .i64 w.release, .int .i64 w.part, .str w.bytes, .int .i64 w.cmd.kind, .int .i64 w.cmd.release, .int .i64 w.cmd.node, .int .i64 w.cmd.size, .str w.cmd.digest, .sl false 6 (w.entries.map encEnt)]]) (show ((⟨m.kind, m.from_, m.term, m.at_, m.atTerm, m.commit, m.yes, m.release, m.part, m.bytes, m.cmd, []⟩ : Msg)) = (takeM m field.toNat) from by simp only [takeOk, takeM, h1, h2, h3, h4, h5, h6, h7, h8, h9, h10, if_true, if_false] <;> rfl) ?_
                      exact KF.m [(0, 0)] [.bool (entsFit m.entries)]
set_option maxRecDepth 100000 in
set_option maxHeartbeats 4000000 in
theorem slices_Equal_spec  (s1 : List Ent) (s2 : List Ent) (ha : s1.length ≤ 1048576) (hb : s2.length ≤ 1048576) : FnSpec Tryz.prog 156 [.sl false 6 (s1.map encEnt), .sl false 6 (s2.map encEnt)] [] (.bool (listEq entEq s1 s2)) [] := by
  refine FnSpec.of 26 Tryz.func156 rfl Tryz.ntmps156 (by simp) (AW.weakK ?_)
  refine AW.r ?_
  refine At.a 1 ?_
  refine At.done rfl ?_
  refine AW.seq ?_
  refine AW.r ?_
  refine At.a 2 ?_
  refine At.sL 7 encEnt s1 ?_
  refine At.a 2 ?_
  refine At.sL 9 encEnt s2 ?_
  refine At.a 1 ?_
  refine At.done rfl ?_
  refine AW.cU (s1.length : Int) (s2.length : Int) (fun h1 => ?_) (fun h1 => ?_)
  · skip
    refine AW.r ?_
    refine At.a 1 ?_
    refine At.done rfl ?_
    refine AW.ret ?_
    refine ⟨_, Sub.refl _ _, ?_⟩
    refine KF.conv (fun w => .bool w) (fun w => []) (show (false) = (listEq entEq s1 s2) from by rw [listEq_len (by omega)]) ?_
    exact KF.m [] [.bool false]
  · skip
    refine AW.skip ?_
    refine AW.seq ?_
    refine AW.r ?_
    refine At.a 2 ?_
    refine At.sL 12 encEnt s1 ?_
    refine At.a 1 ?_
    refine At.done rfl ?_
    refine AW.block ?_
    refine AW.loopW (fun (k : Nat) => Go.Sy.mk [.sl false 6 (s1.map encEnt), .sl false 6 (s2.map encEnt), .un, .un, .un, .un, .un, .un, .un, .un, .un, .un, .int .i64 (s1.length : Int), .int .i64 (k : Int)] []) (fun (k : Nat) => k ≤ s1.length ∧ listEq entEq s1 s2 = listEq entEq (s1.drop k) (s2.drop k)) (fun (k : Nat) => s1.length - k) 0 ⟨by omega, by rw [List.drop_zero, List.drop_zero]⟩ (Sub.o [] [true, true, false, false, false, false, false, false, false, false, false, false, true, true]) ?_
    rintro k ⟨hk, hR⟩
    refine AW.r ?_
    refine At.a 1 ?_
    refine At.done rfl ?_
    refine AW.seq ?_
    refine AW.cD ((k : Int) < (s1.length : Int)) (fun h2 => ?_) (fun h2 => ?_)
    · skip
      refine AW.skip ?_
      refine AW.seq ?_
      refine AW.block ?_
      refine AW.r ?_
      refine At.a 2 ?_
      refine At.done rfl ?_
      refine AW.seq ?_
      refine AW.regionD Tryz_mix (At.start ?_)
      refine At.a 2 ?_
      refine At.iSl 24 18 (.tmp 16) (.tmp 17) false 6 (s1.map encEnt) .i64 (k : Int) 45 (by omega) (by simp only [List.length_map, List.length_append, List.length_take, List.length_drop, List.length_replicate, List.length_set, List.length_cons, List.length_nil]; omega) ?_
      refine Exists.elim (show ∃ e, s1[k]? = some e from ⟨_, List.getElem?_eq_getElem (by omega)⟩) fun e1 he1 => ?_
      refine At.lVp 45 19 (.tmp 18) false 6 (s1.map encEnt) k 0 true 6 (encEnt e1) (.agg [.int .i64 e1.term, .int .i64 e1.cmd.kind, .int .i64 e1.cmd.release, .int .i64 e1.cmd.node, .int .i64 e1.cmd.size, .str e1.cmd.digest]) (mapGet he1) ?_
      refine At.a 2 ?_
      refine At.iSl 24 22 (.tmp 20) (.tmp 21) false 6 (s2.map encEnt) .i64 (k : Int) 45 (by omega) (by simp only [List.length_map, List.length_append, List.length_take, List.length_drop, List.length_replicate, List.length_set, List.length_cons, List.length_nil]; omega) ?_
      refine Exists.elim (show ∃ e, s2[k]? = some e from ⟨_, List.getElem?_eq_getElem (by omega)⟩) fun e2 he2 => ?_
      refine At.lVp 45 23 (.tmp 22) false 6 (s2.map encEnt) k 0 true 6 (encEnt e2) (.agg [.int .i64 e2.term, .int .i64 e2.cmd.kind, .int .i64 e2.cmd.release, .int .i64 e2.cmd.node, .int .i64 e2.cmd.size, .str e2.cmd.digest]) (mapGet he2) ?_
      refine At.eqA (t := 45) (u := 45) (d := 24) (op := .neq) (x := .tmp 19) (y := .tmp 23) (X := [.int .i64 e1.term, .int .i64 e1.cmd.kind, .int .i64 e1.cmd.release, .int .i64 e1.cmd.node, .int .i64 e1.cmd.size, .str e1.cmd.digest]) (Y := [.int .i64 e2.term, .int .i64 e2.cmd.kind, .int .i64 e2.cmd.release, .int .i64 e2.cmd.node, .int .i64 e2.cmd.size, .str e2.cmd.digest]) (entEq e1 e2) (by kernel_rfl) (by kernel_rfl) (by kernel_rfl) (by kernel_rfl) (by kernel_rfl) (.bool (!(entEq e1 e2))) (.inr ⟨rfl, rfl⟩) ?_
      refine At.done rfl ⟨by kernel_rfl, ?_⟩
      refine AW.cNB (entEq e1 e2) (fun h3 => ?_) (fun h3 => ?_)
      · skip
        refine AW.r ?_
        refine At.a 1 ?_
        refine At.done rfl ?_
        refine AW.ret ?_
        refine ⟨_, Sub.refl _ _, ?_⟩
        refine KF.conv (fun w => .bool w) (fun w => []) (show (false) = (listEq entEq s1 s2) from by rw [hR, dropCons he1, dropCons he2, listEq]; simp [*]) ?_
        exact KF.m [] [.bool false]
      · skip
        refine AW.skip ?_
        refine AW.region (At.start ?_)
        refine At.a 1 ?_
        refine At.sI 25 ((k : Int) + 1) (by omega) ?_
        refine At.a 1 ?_
        refine At.done rfl ?_
        exact ⟨k + 1, ⟨by omega, by rw [hR, dropCons he1, dropCons he2, listEq]; simp [*]⟩, (by omega), Sub.o [] [true, true, false, false, false, false, false, false, false, false, false, false, true, true]⟩
    · skip
      refine AW.exit ?_
      refine AW.r ?_
      refine At.a 1 ?_
      refine At.done rfl ?_
      refine AW.ret ?_
      refine ⟨_, Sub.refl _ _, ?_⟩
      refine KF.conv (fun w => .bool w) (fun w => []) (show (true) = (listEq entEq s1 s2) from by rw [hR, List.drop_of_length_le (by omega), List.drop_of_length_le (by omega)]; rfl) ?_
      exact KF.m [] [.bool true]
set_option maxRecDepth 100000 in
set_option maxHeartbeats 4000000 in
theorem impl_MsgSame_spec  (a : Msg) (b : Msg) (ha : a.entries.length ≤ 1048576) (hb : b.entries.length ≤ 1048576) : FnSpec Tryz.prog 78 [.agg [.int .i64 a.kind, .int .i64 a.from_, .int .i64 a.term, .int .i64 a.at_, .int .i64 a.atTerm, .int .i64 a.commit, .bool a.yes, .int .i64 a.release, .int .i64 a.part, .str a.bytes, .int .i64 a.cmd.kind, .int .i64 a.cmd.release, .int .i64 a.cmd.node, .int .i64 a.cmd.size, .str a.cmd.digest, .sl false 6 (a.entries.map encEnt)], .agg [.int .i64 b.kind, .int .i64 b.from_, .int .i64 b.term, .int .i64 b.at_, .int .i64 b.atTerm, .int .i64 b.commit, .bool b.yes, .int .i64 b.release, .int .i64 b.part, .str b.bytes, .int .i64 b.cmd.kind, .int .i64 b.cmd.release, .int .i64 b.cmd.node, .int .i64 b.cmd.size, .str b.cmd.digest, .sl false 6 (b.entries.map encEnt)]] [] (.bool (msgEq a b)) [] := by
  refine FnSpec.of 91 Tryz.func78 rfl Tryz.ntmps78 (by simp) (AW.weakK ?_)
  refine AW.r ?_
  refine At.a 3 ?_
  refine At.done rfl ?_
  refine AW.r ?_
  refine At.a 6 ?_
  by_cases h1 : a.kind = b.kind
  · refine At.sB 12 (a.kind == b.kind) true (sayET h1) ?_
    refine At.a 7 ?_
    by_cases h2 : a.from_ = b.from_
    · refine At.sB 19 (a.from_ == b.from_) true (sayET h2) ?_
      refine At.a 7 ?_
      by_cases h3 : a.term = b.term
      · refine At.sB 26 (a.term == b.term) true (sayET h3) ?_
        refine At.a 7 ?_
        by_cases h4 : a.at_ = b.at_
        · refine At.sB 33 (a.at_ == b.at_) true (sayET h4) ?_
          refine At.a 7 ?_
          by_cases h5 : a.atTerm = b.atTerm
          · refine At.sB 40 (a.atTerm == b.atTerm) true (sayET h5) ?_
            refine At.a 7 ?_
            refine At.done rfl ?_
            refine AW.r ?_
            refine At.a 4 ?_
            refine At.eqB (t := 4) (u := 4) (d := 51) (op := .eql) (x := .tmp 48) (y := .tmp 50) (a := a.yes) (b := b.yes) (by kernel_rfl) (by kernel_rfl) (by kernel_rfl) (by kernel_rfl) (by kernel_rfl) (.bool (a.yes == b.yes)) (.inl ⟨rfl, rfl⟩) ?_
            refine At.a 1 ?_
            by_cases h6 : (a.yes == b.yes) = true
            · refine At.sB 52 (a.yes == b.yes) true (sayB h6) ?_
              refine At.a 7 ?_
              by_cases h7 : a.release = b.release
              · refine At.sB 59 (a.release == b.release) true (sayET h7) ?_
                refine At.a 7 ?_
                by_cases h8 : a.part = b.part
                · refine At.sB 66 (a.part == b.part) true (sayET h8) ?_
                  refine At.a 7 ?_
                  by_cases h9 : a.bytes.toList = b.bytes.toList
                  · refine At.sB 73 (a.bytes.toList == b.bytes.toList) true (sayET h9) ?_
                    refine At.a 4 ?_
                    refine At.eqA (t := 31) (u := 31) (d := 78) (op := .eql) (x := .tmp 75) (y := .tmp 77) (X := [.int .i64 a.cmd.kind, .int .i64 a.cmd.release, .int .i64 a.cmd.node, .int .i64 a.cmd.size, .str a.cmd.digest]) (Y := [.int .i64 b.cmd.kind, .int .i64 b.cmd.release, .int .i64 b.cmd.node, .int .i64 b.cmd.size, .str b.cmd.digest]) (cmdEq a.cmd b.cmd) (by kernel_rfl) (by kernel_rfl) (by kernel_rfl) (by kernel_rfl) (by kernel_rfl) (.bool (cmdEq a.cmd b.cmd)) (.inl ⟨rfl, rfl⟩) ?_
                    refine At.a 2 ?_
                    refine At.done rfl ?_
                    refine AW.r ?_
                    refine At.a 2 ?_
                    by_cases h10 : a.commit = b.commit
                    · refine At.sB 81 (a.commit == b.commit) true (sayET h10) ?_
                      refine At.a 3 ?_
                      by_cases h11 : (cmdEq a.cmd b.cmd) = true
                      · refine At.sB 84 (cmdEq a.cmd b.cmd) true (sayB h11) ?_
                        refine At.a 4 ?_
                        refine At.c (slices_Equal_spec  a.entries b.entries (by omega) (by omega)) Tryz.call156 true [] [] [] trivial ?_
                        refine At.a 2 ?_
                        refine At.done rfl ?_
                        refine AW.ret ?_
                        refine ⟨_, Sub.refl _ _, ?_⟩
                        refine KF.conv (fun w => .bool w) (fun w => []) (show (listEq entEq a.entries b.entries) = (msgEq a b) from by grind [msgEq]) ?_
                        exact KF.m [] [.bool (listEq entEq a.entries b.entries)]
                      · refine At.sB 84 (cmdEq a.cmd b.cmd) false (sayB (Bool.eq_false_iff.2 h11)) ?_
                        replace h11 := Bool.eq_false_iff.2 h11
                        refine At.a 7 ?_
                        refine At.done rfl ?_
                        refine AW.ret ?_
                        refine ⟨_, Sub.refl _ _, ?_⟩
                        refine KF.conv (fun w => .bool w) (fun w => []) (show (false) = (msgEq a b) from by grind [msgEq]) ?_
                        exact KF.m [] [.bool false]
                    · refine At.sB 81 (a.commit == b.commit) false (sayEF h10) ?_
                      refine At.a 10 ?_
                      refine At.done rfl ?_
                      refine AW.ret ?_
                      refine ⟨_, Sub.refl _ _, ?_⟩
                      refine KF.conv (fun w => .bool w) (fun w => []) (show (false) = (msgEq a b) from by grind [msgEq]) ?_
                      exact KF.m [] [.bool false]
                  · refine At.sB 73 (a.bytes.toList == b.bytes.toList) false (sayEF h9) ?_
                    refine At.a 7 ?_
                    refine At.done rfl ?_
                    refine AW.r ?_
                    refine At.a 2 ?_
                    by_cases h12 : a.commit = b.commit
                    · refine At.sB 81 (a.commit == b.commit) true (sayET h12) ?_
                      refine At.a 10 ?_
                      refine At.done rfl ?_
                      refine AW.ret ?_
                      refine ⟨_, Sub.refl _ _, ?_⟩
                      refine KF.conv (fun w => .bool w) (fun w => []) (show (false) = (msgEq a b) from by grind [msgEq]) ?_
                      exact KF.m [] [.bool false]
                    · refine At.sB 81 (a.commit == b.commit) false (sayEF h12) ?_
                      refine At.a 10 ?_
                      refine At.done rfl ?_
                      refine AW.ret ?_
                      refine ⟨_, Sub.refl _ _, ?_⟩
                      refine KF.conv (fun w => .bool w) (fun w => []) (show (false) = (msgEq a b) from by grind [msgEq]) ?_
                      exact KF.m [] [.bool false]
                · refine At.sB 66 (a.part == b.part) false (sayEF h8) ?_
                  refine At.a 14 ?_
                  refine At.done rfl ?_
                  refine AW.r ?_
                  refine At.a 2 ?_
                  by_cases h13 : a.commit = b.commit
                  · refine At.sB 81 (a.commit == b.commit) true (sayET h13) ?_
                    refine At.a 10 ?_
                    refine At.done rfl ?_
                    refine AW.ret ?_
                    refine ⟨_, Sub.refl _ _, ?_⟩
                    refine KF.conv (fun w => .bool w) (fun w => []) (show (false) = (msgEq a b) from by grind [msgEq]) ?_
                    exact KF.m [] [.bool false]
                  · refine At.sB 81 (a.commit == b.commit) false (sayEF h13) ?_
                    refine At.a 10 ?_
                    refine At.done rfl ?_
                    refine AW.ret ?_
                    refine ⟨_, Sub.refl _ _, ?_⟩
                    refine KF.conv (fun w => .bool w) (fun w => []) (show (false) = (msgEq a b) from by grind [msgEq]) ?_
                    exact KF.m [] [.bool false]
              · refine At.sB 59 (a.release == b.release) false (sayEF h7) ?_
                refine At.a 21 ?_
                refine At.done rfl ?_
                refine AW.r ?_
                refine At.a 2 ?_
                by_cases h14 : a.commit = b.commit
                · refine At.sB 81 (a.commit == b.commit) true (sayET h14) ?_
                  refine At.a 10 ?_
                  refine At.done rfl ?_
                  refine AW.ret ?_
                  refine ⟨_, Sub.refl _ _, ?_⟩
                  refine KF.conv (fun w => .bool w) (fun w => []) (show (false) = (msgEq a b) from by grind [msgEq]) ?_
                  exact KF.m [] [.bool false]
                · refine At.sB 81 (a.commit == b.commit) false (sayEF h14) ?_
                  refine At.a 10 ?_
                  refine At.done rfl ?_
                  refine AW.ret ?_
                  refine ⟨_, Sub.refl _ _, ?_⟩
                  refine KF.conv (fun w => .bool w) (fun w => []) (show (false) = (msgEq a b) from by grind [msgEq]) ?_
                  exact KF.m [] [.bool false]
            · refine At.sB 52 (a.yes == b.yes) false (sayB (Bool.eq_false_iff.2 h6)) ?_
              replace h6 := Bool.eq_false_iff.2 h6
              refine At.a 28 ?_
              refine At.done rfl ?_
              refine AW.r ?_
              refine At.a 2 ?_
              by_cases h15 : a.commit = b.commit
              · refine At.sB 81 (a.commit == b.commit) true (sayET h15) ?_
                refine At.a 10 ?_
                refine At.done rfl ?_
                refine AW.ret ?_
                refine ⟨_, Sub.refl _ _, ?_⟩
                refine KF.conv (fun w => .bool w) (fun w => []) (show (false) = (msgEq a b) from by grind [msgEq]) ?_
                exact KF.m [] [.bool false]
              · refine At.sB 81 (a.commit == b.commit) false (sayEF h15) ?_
                refine At.a 10 ?_
                refine At.done rfl ?_
                refine AW.ret ?_
                refine ⟨_, Sub.refl _ _, ?_⟩
                refine KF.conv (fun w => .bool w) (fun w => []) (show (false) = (msgEq a b) from by grind [msgEq]) ?_
                exact KF.m [] [.bool false]
          · refine At.sB 40 (a.atTerm == b.atTerm) false (sayEF h5) ?_
            refine At.a 7 ?_
            refine At.done rfl ?_
            refine AW.r ?_
            refine At.a 4 ?_
            refine At.eqB (t := 4) (u := 4) (d := 51) (op := .eql) (x := .tmp 48) (y := .tmp 50) (a := a.yes) (b := b.yes) (by kernel_rfl) (by kernel_rfl) (by kernel_rfl) (by kernel_rfl) (by kernel_rfl) (.bool (a.yes == b.yes)) (.inl ⟨rfl, rfl⟩) ?_
            refine At.a 1 ?_
            by_cases h16 : (a.yes == b.yes) = true
            · refine At.sB 52 (a.yes == b.yes) true (sayB h16) ?_
              refine At.a 7 ?_
              by_cases h17 : a.release = b.release
              · refine At.sB 59 (a.release == b.release) true (sayET h17) ?_
                refine At.a 7 ?_
                by_cases h18 : a.part = b.part
                · refine At.sB 66 (a.part == b.part) true (sayET h18) ?_
                  refine At.a 7 ?_
                  by_cases h19 : a.bytes.toList = b.bytes.toList
                  · refine At.sB 73 (a.bytes.toList == b.bytes.toList) true (sayET h19) ?_
                    refine At.a 4 ?_
                    refine At.eqA (t := 31) (u := 31) (d := 78) (op := .eql) (x := .tmp 75) (y := .tmp 77) (X := [.int .i64 a.cmd.kind, .int .i64 a.cmd.release, .int .i64 a.cmd.node, .int .i64 a.cmd.size, .str a.cmd.digest]) (Y := [.int .i64 b.cmd.kind, .int .i64 b.cmd.release, .int .i64 b.cmd.node, .int .i64 b.cmd.size, .str b.cmd.digest]) (cmdEq a.cmd b.cmd) (by kernel_rfl) (by kernel_rfl) (by kernel_rfl) (by kernel_rfl) (by kernel_rfl) (.bool (cmdEq a.cmd b.cmd)) (.inl ⟨rfl, rfl⟩) ?_
                    refine At.a 2 ?_
                    refine At.done rfl ?_
                    refine AW.r ?_
                    refine At.a 12 ?_
                    refine At.done rfl ?_
                    refine AW.ret ?_
                    refine ⟨_, Sub.refl _ _, ?_⟩
                    refine KF.conv (fun w => .bool w) (fun w => []) (show (false) = (msgEq a b) from by grind [msgEq]) ?_
                    exact KF.m [] [.bool false]
                  · refine At.sB 73 (a.bytes.toList == b.bytes.toList) false (sayEF h19) ?_
                    refine At.a 7 ?_
                    refine At.done rfl ?_
                    refine AW.r ?_
                    refine At.a 12 ?_
                    refine At.done rfl ?_
                    refine AW.ret ?_
                    refine ⟨_, Sub.refl _ _, ?_⟩
                    refine KF.conv (fun w => .bool w) (fun w => []) (show (false) = (msgEq a b) from by grind [msgEq]) ?_
                    exact KF.m [] [.bool false]
                · refine At.sB 66 (a.part == b.part) false (sayEF h18) ?_
                  refine At.a 14 ?_
                  refine At.done rfl ?_
                  refine AW.r ?_
                  refine At.a 12 ?_
                  refine At.done rfl ?_
                  refine AW.ret ?_
                  refine ⟨_, Sub.refl _ _, ?_⟩
                  refine KF.conv (fun w => .bool w) (fun w => []) (show (false) = (msgEq a b) from by grind [msgEq]) ?_
                  exact KF.m [] [.bool false]
              · refine At.sB 59 (a.release == b.release) false (sayEF h17) ?_
                refine At.a 21 ?_
                refine At.done rfl ?_
                refine AW.r ?_
                refine At.a 12 ?_
                refine At.done rfl ?_
                refine AW.ret ?_
                refine ⟨_, Sub.refl _ _, ?_⟩
                refine KF.conv (fun w => .bool w) (fun w => []) (show (false) = (msgEq a b) from by grind [msgEq]) ?_
                exact KF.m [] [.bool false]
            · refine At.sB 52 (a.yes == b.yes) false (sayB (Bool.eq_false_iff.2 h16)) ?_
              replace h16 := Bool.eq_false_iff.2 h16
              refine At.a 28 ?_
              refine At.done rfl ?_
              refine AW.r ?_
              refine At.a 12 ?_
              refine At.done rfl ?_
              refine AW.ret ?_
              refine ⟨_, Sub.refl _ _, ?_⟩
              refine KF.conv (fun w => .bool w) (fun w => []) (show (false) = (msgEq a b) from by grind [msgEq]) ?_
              exact KF.m [] [.bool false]
        · refine At.sB 33 (a.at_ == b.at_) false (sayEF h4) ?_
          refine At.a 14 ?_
          refine At.done rfl ?_
          refine AW.r ?_
          refine At.a 4 ?_
          refine At.eqB (t := 4) (u := 4) (d := 51) (op := .eql) (x := .tmp 48) (y := .tmp 50) (a := a.yes) (b := b.yes) (by kernel_rfl) (by kernel_rfl) (by kernel_rfl) (by kernel_rfl) (by kernel_rfl) (.bool (a.yes == b.yes)) (.inl ⟨rfl, rfl⟩) ?_
          refine At.a 1 ?_
          by_cases h20 : (a.yes == b.yes) = true
          · refine At.sB 52 (a.yes == b.yes) true (sayB h20) ?_
            refine At.a 7 ?_
            by_cases h21 : a.release = b.release
            · refine At.sB 59 (a.release == b.release) true (sayET h21) ?_
              refine At.a 7 ?_
              by_cases h22 : a.part = b.part
              · refine At.sB 66 (a.part == b.part) true (sayET h22) ?_
                refine At.a 7 ?_
                by_cases h23 : a.bytes.toList = b.bytes.toList
                · refine At.sB 73 (a.bytes.toList == b.bytes.toList) true (sayET h23) ?_
                  refine At.a 4 ?_
                  refine At.eqA (t := 31) (u := 31) (d := 78) (op := .eql) (x := .tmp 75) (y := .tmp 77) (X := [.int .i64 a.cmd.kind, .int .i64 a.cmd.release, .int .i64 a.cmd.node, .int .i64 a.cmd.size, .str a.cmd.digest]) (Y := [.int .i64 b.cmd.kind, .int .i64 b.cmd.release, .int .i64 b.cmd.node, .int .i64 b.cmd.size, .str b.cmd.digest]) (cmdEq a.cmd b.cmd) (by kernel_rfl) (by kernel_rfl) (by kernel_rfl) (by kernel_rfl) (by kernel_rfl) (.bool (cmdEq a.cmd b.cmd)) (.inl ⟨rfl, rfl⟩) ?_
                  refine At.a 2 ?_
                  refine At.done rfl ?_
                  refine AW.r ?_
                  refine At.a 12 ?_
                  refine At.done rfl ?_
                  refine AW.ret ?_
                  refine ⟨_, Sub.refl _ _, ?_⟩
                  refine KF.conv (fun w => .bool w) (fun w => []) (show (false) = (msgEq a b) from by grind [msgEq]) ?_
                  exact KF.m [] [.bool false]
                · refine At.sB 73 (a.bytes.toList == b.bytes.toList) false (sayEF h23) ?_
                  refine At.a 7 ?_
                  refine At.done rfl ?_
                  refine AW.r ?_
                  refine At.a 12 ?_
                  refine At.done rfl ?_
                  refine AW.ret ?_
                  refine ⟨_, Sub.refl _ _, ?_⟩
                  refine KF.conv (fun w => .bool w) (fun w => []) (show (false) = (msgEq a b) from by grind [msgEq]) ?_
                  exact KF.m [] [.bool false]
              · refine At.sB 66 (a.part == b.part) false (sayEF h22) ?_
                refine At.a 14 ?_
                refine At.done rfl ?_
                refine AW.r ?_
                refine At.a 12 ?_
                refine At.done rfl ?_
                refine AW.ret ?_
                refine ⟨_, Sub.refl _ _, ?_⟩
                refine KF.conv (fun w => .bool w) (fun w => []) (show (false) = (msgEq a b) from by grind [msgEq]) ?_
                exact KF.m [] [.bool false]
            · refine At.sB 59 (a.release == b.release) false (sayEF h21) ?_
              refine At.a 21 ?_
              refine At.done rfl ?_
              refine AW.r ?_
              refine At.a 12 ?_
              refine At.done rfl ?_
              refine AW.ret ?_
              refine ⟨_, Sub.refl _ _, ?_⟩
              refine KF.conv (fun w => .bool w) (fun w => []) (show (false) = (msgEq a b) from by grind [msgEq]) ?_
              exact KF.m [] [.bool false]
          · refine At.sB 52 (a.yes == b.yes) false (sayB (Bool.eq_false_iff.2 h20)) ?_
            replace h20 := Bool.eq_false_iff.2 h20
            refine At.a 28 ?_
            refine At.done rfl ?_
            refine AW.r ?_
            refine At.a 12 ?_
            refine At.done rfl ?_
            refine AW.ret ?_
            refine ⟨_, Sub.refl _ _, ?_⟩
            refine KF.conv (fun w => .bool w) (fun w => []) (show (false) = (msgEq a b) from by grind [msgEq]) ?_
            exact KF.m [] [.bool false]
      · refine At.sB 26 (a.term == b.term) false (sayEF h3) ?_
        refine At.a 21 ?_
        refine At.done rfl ?_
        refine AW.r ?_
        refine At.a 4 ?_
        refine At.eqB (t := 4) (u := 4) (d := 51) (op := .eql) (x := .tmp 48) (y := .tmp 50) (a := a.yes) (b := b.yes) (by kernel_rfl) (by kernel_rfl) (by kernel_rfl) (by kernel_rfl) (by kernel_rfl) (.bool (a.yes == b.yes)) (.inl ⟨rfl, rfl⟩) ?_
        refine At.a 1 ?_
        by_cases h24 : (a.yes == b.yes) = true
        · refine At.sB 52 (a.yes == b.yes) true (sayB h24) ?_
          refine At.a 7 ?_
          by_cases h25 : a.release = b.release
          · refine At.sB 59 (a.release == b.release) true (sayET h25) ?_
            refine At.a 7 ?_
            by_cases h26 : a.part = b.part
            · refine At.sB 66 (a.part == b.part) true (sayET h26) ?_
              refine At.a 7 ?_
              by_cases h27 : a.bytes.toList = b.bytes.toList
              · refine At.sB 73 (a.bytes.toList == b.bytes.toList) true (sayET h27) ?_
                refine At.a 4 ?_
                refine At.eqA (t := 31) (u := 31) (d := 78) (op := .eql) (x := .tmp 75) (y := .tmp 77) (X := [.int .i64 a.cmd.kind, .int .i64 a.cmd.release, .int .i64 a.cmd.node, .int .i64 a.cmd.size, .str a.cmd.digest]) (Y := [.int .i64 b.cmd.kind, .int .i64 b.cmd.release, .int .i64 b.cmd.node, .int .i64 b.cmd.size, .str b.cmd.digest]) (cmdEq a.cmd b.cmd) (by kernel_rfl) (by kernel_rfl) (by kernel_rfl) (by kernel_rfl) (by kernel_rfl) (.bool (cmdEq a.cmd b.cmd)) (.inl ⟨rfl, rfl⟩) ?_
                refine At.a 2 ?_
                refine At.done rfl ?_
                refine AW.r ?_
                refine At.a 12 ?_
                refine At.done rfl ?_
                refine AW.ret ?_
                refine ⟨_, Sub.refl _ _, ?_⟩
                refine KF.conv (fun w => .bool w) (fun w => []) (show (false) = (msgEq a b) from by grind [msgEq]) ?_
                exact KF.m [] [.bool false]
              · refine At.sB 73 (a.bytes.toList == b.bytes.toList) false (sayEF h27) ?_
                refine At.a 7 ?_
                refine At.done rfl ?_
                refine AW.r ?_
                refine At.a 12 ?_
                refine At.done rfl ?_
                refine AW.ret ?_
                refine ⟨_, Sub.refl _ _, ?_⟩
                refine KF.conv (fun w => .bool w) (fun w => []) (show (false) = (msgEq a b) from by grind [msgEq]) ?_
                exact KF.m [] [.bool false]
            · refine At.sB 66 (a.part == b.part) false (sayEF h26) ?_
              refine At.a 14 ?_
              refine At.done rfl ?_
              refine AW.r ?_
              refine At.a 12 ?_
              refine At.done rfl ?_
              refine AW.ret ?_
              refine ⟨_, Sub.refl _ _, ?_⟩
              refine KF.conv (fun w => .bool w) (fun w => []) (show (false) = (msgEq a b) from by grind [msgEq]) ?_
              exact KF.m [] [.bool false]
          · refine At.sB 59 (a.release == b.release) false (sayEF h25) ?_
            refine At.a 21 ?_
            refine At.done rfl ?_
            refine AW.r ?_
            refine At.a 12 ?_
            refine At.done rfl ?_
            refine AW.ret ?_
            refine ⟨_, Sub.refl _ _, ?_⟩
            refine KF.conv (fun w => .bool w) (fun w => []) (show (false) = (msgEq a b) from by grind [msgEq]) ?_
            exact KF.m [] [.bool false]
        · refine At.sB 52 (a.yes == b.yes) false (sayB (Bool.eq_false_iff.2 h24)) ?_
          replace h24 := Bool.eq_false_iff.2 h24
          refine At.a 28 ?_
          refine At.done rfl ?_
          refine AW.r ?_
          refine At.a 12 ?_
          refine At.done rfl ?_
          refine AW.ret ?_
          refine ⟨_, Sub.refl _ _, ?_⟩
          refine KF.conv (fun w => .bool w) (fun w => []) (show (false) = (msgEq a b) from by grind [msgEq]) ?_
          exact KF.m [] [.bool false]
    · refine At.sB 19 (a.from_ == b.from_) false (sayEF h2) ?_
      refine At.a 28 ?_
      refine At.done rfl ?_
      refine AW.r ?_
      refine At.a 4 ?_
      refine At.eqB (t := 4) (u := 4) (d := 51) (op := .eql) (x := .tmp 48) (y := .tmp 50) (a := a.yes) (b := b.yes) (by kernel_rfl) (by kernel_rfl) (by kernel_rfl) (by kernel_rfl) (by kernel_rfl) (.bool (a.yes == b.yes)) (.inl ⟨rfl, rfl⟩) ?_
      refine At.a 1 ?_
      by_cases h28 : (a.yes == b.yes) = true
      · refine At.sB 52 (a.yes == b.yes) true (sayB h28) ?_
        refine At.a 7 ?_
        by_cases h29 : a.release = b.release
        · refine At.sB 59 (a.release == b.release) true (sayET h29) ?_
          refine At.a 7 ?_
          by_cases h30 : a.part = b.part
          · refine At.sB 66 (a.part == b.part) true (sayET h30) ?_
            refine At.a 7 ?_
            by_cases h31 : a.bytes.toList = b.bytes.toList
            · refine At.sB 73 (a.bytes.toList == b.bytes.toList) true (sayET h31) ?_
              refine At.a 4 ?_
              refine At.eqA (t := 31) (u := 31) (d := 78) (op := .eql) (x := .tmp 75) (y := .tmp 77) (X := [.int .i64 a.cmd.kind, .int .i64 a.cmd.release, .int .i64 a.cmd.node, .int .i64 a.cmd.size, .str a.cmd.digest]) (Y := [.int .i64 b.cmd.kind, .int .i64 b.cmd.release, .int .i64 b.cmd.node, .int .i64 b.cmd.size, .str b.cmd.digest]) (cmdEq a.cmd b.cmd) (by kernel_rfl) (by kernel_rfl) (by kernel_rfl) (by kernel_rfl) (by kernel_rfl) (.bool (cmdEq a.cmd b.cmd)) (.inl ⟨rfl, rfl⟩) ?_
              refine At.a 2 ?_
              refine At.done rfl ?_
              refine AW.r ?_
              refine At.a 12 ?_
              refine At.done rfl ?_
              refine AW.ret ?_
              refine ⟨_, Sub.refl _ _, ?_⟩
              refine KF.conv (fun w => .bool w) (fun w => []) (show (false) = (msgEq a b) from by grind [msgEq]) ?_
              exact KF.m [] [.bool false]
            · refine At.sB 73 (a.bytes.toList == b.bytes.toList) false (sayEF h31) ?_
              refine At.a 7 ?_
              refine At.done rfl ?_
              refine AW.r ?_
              refine At.a 12 ?_
              refine At.done rfl ?_
              refine AW.ret ?_
              refine ⟨_, Sub.refl _ _, ?_⟩
              refine KF.conv (fun w => .bool w) (fun w => []) (show (false) = (msgEq a b) from by grind [msgEq]) ?_
              exact KF.m [] [.bool false]
          · refine At.sB 66 (a.part == b.part) false (sayEF h30) ?_
            refine At.a 14 ?_
            refine At.done rfl ?_
            refine AW.r ?_
            refine At.a 12 ?_
            refine At.done rfl ?_
            refine AW.ret ?_
            refine ⟨_, Sub.refl _ _, ?_⟩
            refine KF.conv (fun w => .bool w) (fun w => []) (show (false) = (msgEq a b) from by grind [msgEq]) ?_
            exact KF.m [] [.bool false]
        · refine At.sB 59 (a.release == b.release) false (sayEF h29) ?_
          refine At.a 21 ?_
          refine At.done rfl ?_
          refine AW.r ?_
          refine At.a 12 ?_
          refine At.done rfl ?_
          refine AW.ret ?_
          refine ⟨_, Sub.refl _ _, ?_⟩
          refine KF.conv (fun w => .bool w) (fun w => []) (show (false) = (msgEq a b) from by grind [msgEq]) ?_
          exact KF.m [] [.bool false]
      · refine At.sB 52 (a.yes == b.yes) false (sayB (Bool.eq_false_iff.2 h28)) ?_
        replace h28 := Bool.eq_false_iff.2 h28
        refine At.a 28 ?_
        refine At.done rfl ?_
        refine AW.r ?_
        refine At.a 12 ?_
        refine At.done rfl ?_
        refine AW.ret ?_
        refine ⟨_, Sub.refl _ _, ?_⟩
        refine KF.conv (fun w => .bool w) (fun w => []) (show (false) = (msgEq a b) from by grind [msgEq]) ?_
        exact KF.m [] [.bool false]
  · refine At.sB 12 (a.kind == b.kind) false (sayEF h1) ?_
    refine At.a 35 ?_
    refine At.done rfl ?_
    refine AW.r ?_
    refine At.a 4 ?_
    refine At.eqB (t := 4) (u := 4) (d := 51) (op := .eql) (x := .tmp 48) (y := .tmp 50) (a := a.yes) (b := b.yes) (by kernel_rfl) (by kernel_rfl) (by kernel_rfl) (by kernel_rfl) (by kernel_rfl) (.bool (a.yes == b.yes)) (.inl ⟨rfl, rfl⟩) ?_
    refine At.a 1 ?_
    by_cases h32 : (a.yes == b.yes) = true
    · refine At.sB 52 (a.yes == b.yes) true (sayB h32) ?_
      refine At.a 7 ?_
      by_cases h33 : a.release = b.release
      · refine At.sB 59 (a.release == b.release) true (sayET h33) ?_
        refine At.a 7 ?_
        by_cases h34 : a.part = b.part
        · refine At.sB 66 (a.part == b.part) true (sayET h34) ?_
          refine At.a 7 ?_
          by_cases h35 : a.bytes.toList = b.bytes.toList
          · refine At.sB 73 (a.bytes.toList == b.bytes.toList) true (sayET h35) ?_
            refine At.a 4 ?_
            refine At.eqA (t := 31) (u := 31) (d := 78) (op := .eql) (x := .tmp 75) (y := .tmp 77) (X := [.int .i64 a.cmd.kind, .int .i64 a.cmd.release, .int .i64 a.cmd.node, .int .i64 a.cmd.size, .str a.cmd.digest]) (Y := [.int .i64 b.cmd.kind, .int .i64 b.cmd.release, .int .i64 b.cmd.node, .int .i64 b.cmd.size, .str b.cmd.digest]) (cmdEq a.cmd b.cmd) (by kernel_rfl) (by kernel_rfl) (by kernel_rfl) (by kernel_rfl) (by kernel_rfl) (.bool (cmdEq a.cmd b.cmd)) (.inl ⟨rfl, rfl⟩) ?_
            refine At.a 2 ?_
            refine At.done rfl ?_
            refine AW.r ?_
            refine At.a 12 ?_
            refine At.done rfl ?_
            refine AW.ret ?_
            refine ⟨_, Sub.refl _ _, ?_⟩
            refine KF.conv (fun w => .bool w) (fun w => []) (show (false) = (msgEq a b) from by grind [msgEq]) ?_
            exact KF.m [] [.bool false]
          · refine At.sB 73 (a.bytes.toList == b.bytes.toList) false (sayEF h35) ?_
            refine At.a 7 ?_
            refine At.done rfl ?_
            refine AW.r ?_
            refine At.a 12 ?_
            refine At.done rfl ?_
            refine AW.ret ?_
            refine ⟨_, Sub.refl _ _, ?_⟩
            refine KF.conv (fun w => .bool w) (fun w => []) (show (false) = (msgEq a b) from by grind [msgEq]) ?_
            exact KF.m [] [.bool false]
        · refine At.sB 66 (a.part == b.part) false (sayEF h34) ?_
          refine At.a 14 ?_
          refine At.done rfl ?_
          refine AW.r ?_
          refine At.a 12 ?_
          refine At.done rfl ?_
          refine AW.ret ?_
          refine ⟨_, Sub.refl _ _, ?_⟩
          refine KF.conv (fun w => .bool w) (fun w => []) (show (false) = (msgEq a b) from by grind [msgEq]) ?_
          exact KF.m [] [.bool false]
      · refine At.sB 59 (a.release == b.release) false (sayEF h33) ?_
        refine At.a 21 ?_
        refine At.done rfl ?_
        refine AW.r ?_
        refine At.a 12 ?_
        refine At.done rfl ?_
        refine AW.ret ?_
        refine ⟨_, Sub.refl _ _, ?_⟩
        refine KF.conv (fun w => .bool w) (fun w => []) (show (false) = (msgEq a b) from by grind [msgEq]) ?_
        exact KF.m [] [.bool false]
    · refine At.sB 52 (a.yes == b.yes) false (sayB (Bool.eq_false_iff.2 h32)) ?_
      replace h32 := Bool.eq_false_iff.2 h32
      refine At.a 28 ?_
      refine At.done rfl ?_
      refine AW.r ?_
      refine At.a 12 ?_
      refine At.done rfl ?_
      refine AW.ret ?_
      refine ⟨_, Sub.refl _ _, ?_⟩
      refine KF.conv (fun w => .bool w) (fun w => []) (show (false) = (msgEq a b) from by grind [msgEq]) ?_
      exact KF.m [] [.bool false]
set_option maxRecDepth 100000 in
set_option maxHeartbeats 4000000 in
theorem impl_MsgFits_spec  (m : Msg) (hl : m.entries.length ≤ 1048576) : FnSpec Tryz.prog 22 [.agg [.int .i64 m.kind, .int .i64 m.from_, .int .i64 m.term, .int .i64 m.at_, .int .i64 m.atTerm, .int .i64 m.commit, .bool m.yes, .int .i64 m.release, .int .i64 m.part, .str m.bytes, .int .i64 m.cmd.kind, .int .i64 m.cmd.release, .int .i64 m.cmd.node, .int .i64 m.cmd.size, .str m.cmd.digest, .sl false 6 (m.entries.map encEnt)]] [] (.bool (msgFits m)) [] := by
  have hfs := fieldsL_small m.kind
  refine FnSpec.of 30 Tryz.func22 rfl Tryz.ntmps22 (by simp) (AW.weakK ?_)
  refine AW.r ?_
  refine At.a 2 ?_
  refine At.done rfl ?_
  refine AW.r ?_
  refine At.a 2 ?_
  refine At.c (impl_fieldsOf_spec  m.kind ) Tryz.call76 true [] [] [] trivial ?_
  refine At.a 1 ?_
  refine At.done rfl ?_
  refine AW.r ?_
  refine At.a 3 ?_
  refine At.done rfl ?_
  refine AW.seq ?_
  refine AW.r ?_
  refine At.a 3 ?_
  refine At.done rfl ?_
  refine AW.block ?_
  refine AW.loopW (fun (x : Nat × Msg) => match x with | (k, q) => Go.Sy.mk [.un, .ptr 101 0 0, .un, .str (fieldsL m.kind), .ptr 104 0 0, .un, .un, .un, .un, .un, .un, .int .i64 ((fieldsL m.kind).size : Int), .int .i64 (k : Int)] [(101, .box 33 [.int .i64 m.kind, .int .i64 m.from_, .int .i64 m.term, .int .i64 m.at_, .int .i64 m.atTerm, .int .i64 m.commit, .bool m.yes, .int .i64 m.release, .int .i64 m.part, .str m.bytes, .int .i64 m.cmd.kind, .int .i64 m.cmd.release, .int .i64 m.cmd.node, .int .i64 m.cmd.size, .str m.cmd.digest, .sl false 6 (m.entries.map encEnt)]), (104, .box 33 [.int .i64 q.kind, .int .i64 q.from_, .int .i64 q.term, .int .i64 q.at_, .int .i64 q.atTerm, .int .i64 q.commit, .bool q.yes, .int .i64 q.release, .int .i64 q.part, .str q.bytes, .int .i64 q.cmd.kind, .int .i64 q.cmd.release, .int .i64 q.cmd.node, .int .i64 q.cmd.size, .str q.cmd.digest, .sl false 6 (q.entries.map encEnt)])]) (fun (x : Nat × Msg) => match x with | (k, q) => k ≤ (fieldsL m.kind).size ∧ q.entries.length ≤ 1048576 ∧ runTake m.kind (fieldsL m.kind).data.toList m = runTake m.kind ((fieldsL m.kind).data.toList.drop k) q) (fun (x : Nat × Msg) => match x with | (k, q) => (fieldsL m.kind).size - k) (0, m) ⟨by omega, hl, by rw [List.drop_zero]⟩ (Sub.o [(101, 101), (104, 104)] [false, true, false, true, true, false, false, false, false, false, false, true, true]) ?_
  rintro ⟨k, q⟩ ⟨hk, hq, hR⟩
  refine AW.r ?_
  refine At.a 1 ?_
  refine At.done rfl ?_
  refine AW.seq ?_
  refine AW.cD ((k : Int) < ((fieldsL m.kind).size : Int)) (fun h1 => ?_) (fun h1 => ?_)
  · skip
    refine AW.skip ?_
    refine AW.seq ?_
    refine AW.block ?_
    refine AW.r ?_
    refine At.a 2 ?_
    refine At.done rfl ?_
    refine AW.r ?_
    refine At.a 2 ?_
    refine Exists.elim (show ∃ e, (fieldsL m.kind).data[k]? = some e from ⟨_, Array.getElem?_eq_getElem (by show _ < (fieldsL m.kind).size; omega)⟩) fun e1 he1 => ?_
    have hl1 : (fieldsL m.kind).data.toList[k]? = some e1 := by simpa using he1
    refine At.idxStr (t := 9) (d := 17) (x := .tmp 15) (y := .tmp 16) (s := fieldsL m.kind) (kd := .i64) (i := (k : Int)) e1 (by kernel_rfl) (by kernel_rfl) (by kernel_rfl) (by kernel_rfl) (by omega) he1 ?_
    refine At.c (impl_Msg_take_spec  q e1 (by omega)) Tryz.call77 true [(104, 0)] [] [] trivial ?_
    refine At.a 1 ?_
    refine At.done rfl ?_
    refine AW.cNB (takeOk q e1.toNat) (fun h2 => ?_) (fun h2 => ?_)
    · skip
      refine AW.r ?_
      refine At.a 1 ?_
      refine At.done rfl ?_
      refine AW.ret ?_
      refine ⟨_, Sub.refl _ _, ?_⟩
      refine KF.conv (fun w => .bool w) (fun w => []) (show (false) = (msgFits m) from by rw [fits_run, hR, dropCons hl1, runTake]; simp [h1, h2]) ?_
      exact KF.m [] [.bool false]
    · skip
      refine AW.skip ?_
      refine AW.region (At.start ?_)
      refine At.a 1 ?_
      refine At.sI 20 ((k : Int) + 1) (by omega) ?_
      refine At.a 1 ?_
      refine At.done rfl ?_
      exact ⟨(k + 1, (takeM q e1.toNat)), ⟨by omega, takeM_small hq _, by rw [hR, dropCons hl1, runTake]; simp only [*, Bool.true_and]⟩, (by simp only; omega), Sub.o [(101, 101), (104, 104)] [false, true, false, true, true, false, false, false, false, false, false, true, true]⟩
  · skip
    refine AW.exit ?_
    refine AW.r ?_
    refine At.a 3 ?_
    by_cases h3 : (fieldsL m.kind).toList = (⟨#[]⟩ : ByteArray).toList
    · refine At.sB 23 (!((fieldsL m.kind).toList == (⟨#[]⟩ : ByteArray).toList)) false (sayNF (sayET h3)) ?_
      refine At.a 7 ?_
      refine At.done rfl ?_
      refine AW.ret ?_
      refine ⟨_, Sub.refl _ _, ?_⟩
      refine KF.conv (fun w => .bool w) (fun w => []) (show (false) = (msgFits m) from by rw [fits_run, show ((fieldsL m.kind).toList == []) = true from beq_iff_eq.2 (by rw [← noBytes]; assumption)]; rfl) ?_
      exact KF.m [] [.bool false]
    · refine At.sB 23 (!((fieldsL m.kind).toList == (⟨#[]⟩ : ByteArray).toList)) true (sayNT (sayEF h3)) ?_
      refine At.a 4 ?_
      refine At.c (FnSpec.nz (As := [.agg [.int .i64 q.kind, .int .i64 q.from_, .int .i64 q.term, .int .i64 q.at_, .int .i64 q.atTerm, .int .i64 q.commit, .bool q.yes, .int .i64 q.release, .int .i64 q.part, .str q.bytes, .int .i64 q.cmd.kind, .int .i64 q.cmd.release, .int .i64 q.cmd.node, .int .i64 q.cmd.size, .str q.cmd.digest, .sl false 6 (q.entries.map encEnt)], .agg [.int .i64 m.kind, .int .i64 0, .int .i64 0, .int .i64 0, .int .i64 0, .int .i64 0, .bool false, .int .i64 0, .int .i64 0, .str (⟨#[]⟩ : ByteArray), .int .i64 0, .int .i64 0, .int .i64 0, .int .i64 0, .str (⟨#[]⟩ : ByteArray), .nil]]) 6 (impl_MsgSame_spec  q (⟨m.kind, 0, 0, 0, 0, 0, false, 0, 0, (⟨#[]⟩ : ByteArray), ⟨0, 0, 0, 0, (⟨#[]⟩ : ByteArray)⟩, []⟩ : Msg) (by omega) (by simp only [List.length_map, List.length_append, List.length_take, List.length_drop, List.length_replicate, List.length_set, List.length_cons, List.length_nil]; omega))) Tryz.call78 true [] [] [] trivial ?_
      refine At.a 2 ?_
      refine At.done rfl ?_
      refine AW.ret ?_
      refine ⟨_, Sub.refl _ _, ?_⟩
      refine KF.conv (fun w => .bool w) (fun w => []) (show (msgEq q (⟨m.kind, 0, 0, 0, 0, 0, false, 0, 0, (⟨#[]⟩ : ByteArray), ⟨0, 0, 0, 0, (⟨#[]⟩ : ByteArray)⟩, []⟩ : Msg)) = (msgFits m) from by rw [fits_run, hR, List.drop_of_length_le (by rw [Array.length_toList]; show (fieldsL m.kind).size ≤ _; omega), runTake, beq_eq_false_iff_ne.2 (by rw [← noBytes]; assumption)]; rfl) ?_
      exact KF.m [] [.bool (msgEq q (⟨m.kind, 0, 0, 0, 0, 0, false, 0, 0, (⟨#[]⟩ : ByteArray), ⟨0, 0, 0, 0, (⟨#[]⟩ : ByteArray)⟩, []⟩ : Msg))]
set_option maxRecDepth 100000 in
set_option maxHeartbeats 4000000 in
theorem impl_stepper_mayHear_spec  (s : Stepper) (m : Msg) (kind : Int) (hz : SmallR s.was) (hm : m.entries.length ≤ 1048576) : FnSpec Tryz.prog 85 [.ptr 0 0 0, .agg [.int .i64 m.kind, .int .i64 m.from_, .int .i64 m.term, .int .i64 m.at_, .int .i64 m.atTerm, .int .i64 m.commit, .bool m.yes, .int .i64 m.release, .int .i64 m.part, .str m.bytes, .int .i64 m.cmd.kind, .int .i64 m.cmd.release, .int .i64 m.cmd.node, .int .i64 m.cmd.size, .str m.cmd.digest, .sl false 6 (m.entries.map encEnt)], .int .i64 kind] [.box 102 [.int .i64 s.r.id, .int .i64 s.r.of_, .int .i64 s.r.role, .int .i64 s.r.commit, .int .i64 s.r.hard.term, .int .i64 s.r.hard.vote, .ref 1, .ref 2, .ref 3, .ref 4, .int .i64 s.was.id, .int .i64 s.was.of_, .int .i64 s.was.role, .int .i64 s.was.commit, .int .i64 s.was.hard.term, .int .i64 s.was.hard.vote, .sl false 6 (s.was.hard.log.map encEnt), .sl false 1 (s.was.yes.map encI), .sl false 1 (s.was.next.map encI), .sl false 1 (s.was.match_.map encI), .ref 5, .ref 6], .arr 45 6 (s.r.hard.log.map encEnt), .arr 3 1 (s.r.yes.map encI), .arr 3 1 (s.r.next.map encI), .arr 3 1 (s.r.match_.map encI), .arr 47 10 (s.recs.map encRec), .arr 51 17 (s.outs.map encOut)] (.bool (hears s.was m kind)) [.box 102 [.int .i64 s.r.id, .int .i64 s.r.of_, .int .i64 s.r.role, .int .i64 s.r.commit, .int .i64 s.r.hard.term, .int .i64 s.r.hard.vote, .ref 1, .ref 2, .ref 3, .ref 4, .int .i64 s.was.id, .int .i64 s.was.of_, .int .i64 s.was.role, .int .i64 s.was.commit, .int .i64 s.was.hard.term, .int .i64 s.was.hard.vote, .sl false 6 (s.was.hard.log.map encEnt), .sl false 1 (s.was.yes.map encI), .sl false 1 (s.was.next.map encI), .sl false 1 (s.was.match_.map encI), .ref 5, .ref 6], .arr 45 6 (s.r.hard.log.map encEnt), .arr 3 1 (s.r.yes.map encI), .arr 3 1 (s.r.next.map encI), .arr 3 1 (s.r.match_.map encI), .arr 47 10 (s.recs.map encRec), .arr 51 17 (s.outs.map encOut)] := by
  refine FnSpec.of 42 Tryz.func85 rfl Tryz.ntmps85 (by simp) (AW.weakK ?_)
  refine AW.r ?_
  refine At.a 2 ?_
  refine At.done rfl ?_
  refine AW.seq ?_
  refine AW.regionD Tryz_mix (At.start ?_)
  refine At.a 4 ?_
  refine At.c (impl_RaftOk_spec  s.was hz) Tryz.call19 true [] [] [] trivial ?_
  refine At.a 1 ?_
  by_cases h1 : (raftOk s.was) = true
  · refine At.sB 12 (raftOk s.was) true (sayB h1) ?_
    have h1n := raftOk1_nums (raftOk_1 h1)
    refine At.a 1 ?_
    refine At.c (impl_MsgFits_spec  m hm) Tryz.call22 true [] [] [] trivial ?_
    refine At.a 2 ?_
    by_cases h2 : (msgFits m) = true
    · refine At.sB 16 (msgFits m) true (sayB h2) ?_
      refine At.a 6 ?_
      by_cases h3 : m.kind = kind
      · refine At.sB 22 (m.kind == kind) true (sayET h3) ?_
        refine At.a 10 ?_
        by_cases h4 : m.from_ < s.was.of_
        · refine At.sB 32 (decide (m.from_ < s.was.of_)) true (sayT h4) ?_
          refine At.a 10 ?_
          refine At.done rfl ⟨by kernel_rfl, ?_⟩
          refine AW.ret ?_
          refine ⟨_, Sub.refl _ _, ?_⟩
          refine KF.conv (fun w => .bool w) (fun w => [.box 102 [.int .i64 s.r.id, .int .i64 s.r.of_, .int .i64 s.r.role, .int .i64 s.r.commit, .int .i64 s.r.hard.term, .int .i64 s.r.hard.vote, .ref 1, .ref 2, .ref 3, .ref 4, .int .i64 s.was.id, .int .i64 s.was.of_, .int .i64 s.was.role, .int .i64 s.was.commit, .int .i64 s.was.hard.term, .int .i64 s.was.hard.vote, .sl false 6 (s.was.hard.log.map encEnt), .sl false 1 (s.was.yes.map encI), .sl false 1 (s.was.next.map encI), .sl false 1 (s.was.match_.map encI), .ref 5, .ref 6], .arr 45 6 (s.r.hard.log.map encEnt), .arr 3 1 (s.r.yes.map encI), .arr 3 1 (s.r.next.map encI), .arr 3 1 (s.r.match_.map encI), .arr 47 10 (s.recs.map encRec), .arr 51 17 (s.outs.map encOut)]) (show (m.from_ != s.was.id) = (hears s.was m kind) from by grind [hears]) ?_
          exact KF.m [(0, 0), (1, 1), (2, 2), (3, 3), (4, 4), (5, 5), (6, 6)] [.bool (m.from_ != s.was.id)]
        · refine At.sB 32 (decide (m.from_ < s.was.of_)) false (sayF h4) ?_
          refine At.a 10 ?_
          refine At.done rfl ⟨by kernel_rfl, ?_⟩
          refine AW.ret ?_
          refine ⟨_, Sub.refl _ _, ?_⟩
          refine KF.conv (fun w => .bool w) (fun w => [.box 102 [.int .i64 s.r.id, .int .i64 s.r.of_, .int .i64 s.r.role, .int .i64 s.r.commit, .int .i64 s.r.hard.term, .int .i64 s.r.hard.vote, .ref 1, .ref 2, .ref 3, .ref 4, .int .i64 s.was.id, .int .i64 s.was.of_, .int .i64 s.was.role, .int .i64 s.was.commit, .int .i64 s.was.hard.term, .int .i64 s.was.hard.vote, .sl false 6 (s.was.hard.log.map encEnt), .sl false 1 (s.was.yes.map encI), .sl false 1 (s.was.next.map encI), .sl false 1 (s.was.match_.map encI), .ref 5, .ref 6], .arr 45 6 (s.r.hard.log.map encEnt), .arr 3 1 (s.r.yes.map encI), .arr 3 1 (s.r.next.map encI), .arr 3 1 (s.r.match_.map encI), .arr 47 10 (s.recs.map encRec), .arr 51 17 (s.outs.map encOut)]) (show (false) = (hears s.was m kind) from by grind [hears]) ?_
          exact KF.m [(0, 0), (1, 1), (2, 2), (3, 3), (4, 4), (5, 5), (6, 6)] [.bool false]
      · refine At.sB 22 (m.kind == kind) false (sayEF h3) ?_
        refine At.a 20 ?_
        refine At.done rfl ⟨by kernel_rfl, ?_⟩
        refine AW.ret ?_
        refine ⟨_, Sub.refl _ _, ?_⟩
        refine KF.conv (fun w => .bool w) (fun w => [.box 102 [.int .i64 s.r.id, .int .i64 s.r.of_, .int .i64 s.r.role, .int .i64 s.r.commit, .int .i64 s.r.hard.term, .int .i64 s.r.hard.vote, .ref 1, .ref 2, .ref 3, .ref 4, .int .i64 s.was.id, .int .i64 s.was.of_, .int .i64 s.was.role, .int .i64 s.was.commit, .int .i64 s.was.hard.term, .int .i64 s.was.hard.vote, .sl false 6 (s.was.hard.log.map encEnt), .sl false 1 (s.was.yes.map encI), .sl false 1 (s.was.next.map encI), .sl false 1 (s.was.match_.map encI), .ref 5, .ref 6], .arr 45 6 (s.r.hard.log.map encEnt), .arr 3 1 (s.r.yes.map encI), .arr 3 1 (s.r.next.map encI), .arr 3 1 (s.r.match_.map encI), .arr 47 10 (s.recs.map encRec), .arr 51 17 (s.outs.map encOut)]) (show (false) = (hears s.was m kind) from by grind [hears]) ?_
        exact KF.m [(0, 0), (1, 1), (2, 2), (3, 3), (4, 4), (5, 5), (6, 6)] [.bool false]
    · refine At.sB 16 (msgFits m) false (sayB (Bool.eq_false_iff.2 h2)) ?_
      replace h2 := Bool.eq_false_iff.2 h2
      refine At.a 26 ?_
      refine At.done rfl ⟨by kernel_rfl, ?_⟩
      refine AW.ret ?_
      refine ⟨_, Sub.refl _ _, ?_⟩
      refine KF.conv (fun w => .bool w) (fun w => [.box 102 [.int .i64 s.r.id, .int .i64 s.r.of_, .int .i64 s.r.role, .int .i64 s.r.commit, .int .i64 s.r.hard.term, .int .i64 s.r.hard.vote, .ref 1, .ref 2, .ref 3, .ref 4, .int .i64 s.was.id, .int .i64 s.was.of_, .int .i64 s.was.role, .int .i64 s.was.commit, .int .i64 s.was.hard.term, .int .i64 s.was.hard.vote, .sl false 6 (s.was.hard.log.map encEnt), .sl false 1 (s.was.yes.map encI), .sl false 1 (s.was.next.map encI), .sl false 1 (s.was.match_.map encI), .ref 5, .ref 6], .arr 45 6 (s.r.hard.log.map encEnt), .arr 3 1 (s.r.yes.map encI), .arr 3 1 (s.r.next.map encI), .arr 3 1 (s.r.match_.map encI), .arr 47 10 (s.recs.map encRec), .arr 51 17 (s.outs.map encOut)]) (show (false) = (hears s.was m kind) from by grind [hears]) ?_
      exact KF.m [(0, 0), (1, 1), (2, 2), (3, 3), (4, 4), (5, 5), (6, 6)] [.bool false]
  · refine At.sB 12 (raftOk s.was) false (sayB (Bool.eq_false_iff.2 h1)) ?_
    replace h1 := Bool.eq_false_iff.2 h1
    refine At.a 30 ?_
    refine At.done rfl ⟨by kernel_rfl, ?_⟩
    refine AW.ret ?_
    refine ⟨_, Sub.refl _ _, ?_⟩
    refine KF.conv (fun w => .bool w) (fun w => [.box 102 [.int .i64 s.r.id, .int .i64 s.r.of_, .int .i64 s.r.role, .int .i64 s.r.commit, .int .i64 s.r.hard.term, .int .i64 s.r.hard.vote, .ref 1, .ref 2, .ref 3, .ref 4, .int .i64 s.was.id, .int .i64 s.was.of_, .int .i64 s.was.role, .int .i64 s.was.commit, .int .i64 s.was.hard.term, .int .i64 s.was.hard.vote, .sl false 6 (s.was.hard.log.map encEnt), .sl false 1 (s.was.yes.map encI), .sl false 1 (s.was.next.map encI), .sl false 1 (s.was.match_.map encI), .ref 5, .ref 6], .arr 45 6 (s.r.hard.log.map encEnt), .arr 3 1 (s.r.yes.map encI), .arr 3 1 (s.r.next.map encI), .arr 3 1 (s.r.match_.map encI), .arr 47 10 (s.recs.map encRec), .arr 51 17 (s.outs.map encOut)]) (show (false) = (hears s.was m kind) from by grind [hears]) ?_
    exact KF.m [(0, 0), (1, 1), (2, 2), (3, 3), (4, 4), (5, 5), (6, 6)] [.bool false]
set_option maxRecDepth 100000 in
set_option maxHeartbeats 4000000 in
theorem impl_stepper_none_spec  (s : Stepper) (hz : SmallR s.was) : FnSpec Tryz.prog 88 [.ptr 0 0 0] [.box 102 [.int .i64 s.r.id, .int .i64 s.r.of_, .int .i64 s.r.role, .int .i64 s.r.commit, .int .i64 s.r.hard.term, .int .i64 s.r.hard.vote, .ref 1, .ref 2, .ref 3, .ref 4, .int .i64 s.was.id, .int .i64 s.was.of_, .int .i64 s.was.role, .int .i64 s.was.commit, .int .i64 s.was.hard.term, .int .i64 s.was.hard.vote, .sl false 6 (s.was.hard.log.map encEnt), .sl false 1 (s.was.yes.map encI), .sl false 1 (s.was.next.map encI), .sl false 1 (s.was.match_.map encI), .ref 5, .ref 6], .arr 45 6 (s.r.hard.log.map encEnt), .arr 3 1 (s.r.yes.map encI), .arr 3 1 (s.r.next.map encI), .arr 3 1 (s.r.match_.map encI), .arr 47 10 (s.recs.map encRec), .arr 51 17 (s.outs.map encOut)] (.tup [.agg [.int .i64 ((same s.was).id), .int .i64 ((same s.was).of_), .int .i64 ((same s.was).role), .int .i64 ((same s.was).commit), .int .i64 ((same s.was).hard.term), .int .i64 ((same s.was).hard.vote), .ref 7, .ref 8, .ref 9, .ref 10], .ref 11, .ref 12]) [.box 102 [.int .i64 s.r.id, .int .i64 s.r.of_, .int .i64 s.r.role, .int .i64 s.r.commit, .int .i64 s.r.hard.term, .int .i64 s.r.hard.vote, .ref 1, .ref 2, .ref 3, .ref 4, .int .i64 s.was.id, .int .i64 s.was.of_, .int .i64 s.was.role, .int .i64 s.was.commit, .int .i64 s.was.hard.term, .int .i64 s.was.hard.vote, .sl false 6 (s.was.hard.log.map encEnt), .sl false 1 (s.was.yes.map encI), .sl false 1 (s.was.next.map encI), .sl false 1 (s.was.match_.map encI), .ref 5, .ref 6], .arr 45 6 (s.r.hard.log.map encEnt), .arr 3 1 (s.r.yes.map encI), .arr 3 1 (s.r.next.map encI), .arr 3 1 (s.r.match_.map encI), .arr 47 10 (s.recs.map encRec), .arr 51 17 (s.outs.map encOut), .arr 45 6 (((same s.was).hard.log).map encEnt), .arr 3 1 (((same s.was).yes).map encI), .arr 3 1 (((same s.was).next).map encI), .arr 3 1 (((same s.was).match_).map encI), .arr 47 10 [], .arr 51 17 []] := by
  obtain ⟨z1, z2, z3, z4⟩ := id hz
  refine FnSpec.of 17 Tryz.func88 rfl Tryz.ntmps88 (by simp) (AW.weakK ?_)
  refine AW.r ?_
  refine At.a 3 ?_
  refine At.done rfl ?_
  refine AW.seq ?_
  refine AW.seq ?_
  refine AW.weak (Sub.nils [⟨true, 102, some 6, 5001, 45, 6⟩, ⟨true, 102, some 7, 5002, 3, 1⟩, ⟨true, 102, some 8, 5003, 3, 1⟩, ⟨true, 102, some 9, 5004, 3, 1⟩] (by kernel_rfl)) ?_
  refine AW.region (At.start ?_)
  refine At.a 4 ?_
  refine At.c (impl_RaftOk_spec  s.was hz) Tryz.call19 true [] [] [] trivial ?_
  refine At.a 1 ?_
  refine At.done rfl ?_
  refine AW.cNB (raftOk s.was) (fun h1 => ?_) (fun h1 => ?_)
  · skip
    refine AW.r ?_
    refine At.a 4 ?_
    refine At.done rfl ?_
    refine AW.ret ?_
    refine ⟨_, Sub.nils [⟨true, 102, some 6, 5005, 45, 6⟩, ⟨true, 102, some 7, 5006, 3, 1⟩, ⟨true, 102, some 8, 5007, 3, 1⟩, ⟨true, 102, some 9, 5008, 3, 1⟩, ⟨false, 3, none, 5009, 47, 10⟩, ⟨false, 4, none, 5010, 51, 17⟩] (by kernel_rfl), ?_⟩
    refine KF.conv (fun w => .tup [.agg [.int .i64 w.id, .int .i64 w.of_, .int .i64 w.role, .int .i64 w.commit, .int .i64 w.hard.term, .int .i64 w.hard.vote, .ref 7, .ref 8, .ref 9, .ref 10], .ref 11, .ref 12]) (fun w => [.box 102 [.int .i64 s.r.id, .int .i64 s.r.of_, .int .i64 s.r.role, .int .i64 s.r.commit, .int .i64 s.r.hard.term, .int .i64 s.r.hard.vote, .ref 1, .ref 2, .ref 3, .ref 4, .int .i64 s.was.id, .int .i64 s.was.of_, .int .i64 s.was.role, .int .i64 s.was.commit, .int .i64 s.was.hard.term, .int .i64 s.was.hard.vote, .sl false 6 (s.was.hard.log.map encEnt), .sl false 1 (s.was.yes.map encI), .sl false 1 (s.was.next.map encI), .sl false 1 (s.was.match_.map encI), .ref 5, .ref 6], .arr 45 6 (s.r.hard.log.map encEnt), .arr 3 1 (s.r.yes.map encI), .arr 3 1 (s.r.next.map encI), .arr 3 1 (s.r.match_.map encI), .arr 47 10 (s.recs.map encRec), .arr 51 17 (s.outs.map encOut), .arr 45 6 (w.hard.log.map encEnt), .arr 3 1 (w.yes.map encI), .arr 3 1 (w.next.map encI), .arr 3 1 (w.match_.map encI), .arr 47 10 [], .arr 51 17 []]) (show ((⟨0, 0, 0, 0, ⟨0, 0, []⟩, [], [], []⟩ : Raft)) = (same s.was) from by simp only [same, h1, if_true] <;> rfl) ?_
    exact KF.m [(0, 0), (1, 1), (2, 2), (3, 3), (4, 4), (5, 5), (6, 6), (5005, 7), (5006, 8), (5007, 9), (5008, 10), (5009, 11), (5010, 12)] [.agg [.int .i64 0, .int .i64 0, .int .i64 0, .int .i64 0, .int .i64 0, .int .i64 0, .ref 5005, .ref 5006, .ref 5007, .ref 5008], .ref 5009, .ref 5010]
  · skip
    have h1n := raftOk1_nums (raftOk_1 h1)
    refine AW.skip ?_
    refine AW.r ?_
    refine At.a 4 ?_
    refine At.c (impl_copyRaft_spec  s.was hz) Tryz.call157 true [] [(1320, 0), (1321, 1), (1322, 2), (1323, 3)] [] trivial ?_
    refine At.a 3 ?_
    refine At.done rfl ?_
    refine AW.ret ?_
    refine ⟨_, Sub.nils [⟨false, 3, none, 5011, 47, 10⟩, ⟨false, 4, none, 5012, 51, 17⟩] (by kernel_rfl), ?_⟩
    refine KF.conv (fun w => .tup [.agg [.int .i64 w.id, .int .i64 w.of_, .int .i64 w.role, .int .i64 w.commit, .int .i64 w.hard.term, .int .i64 w.hard.vote, .ref 7, .ref 8, .ref 9, .ref 10], .ref 11, .ref 12]) (fun w => [.box 102 [.int .i64 s.r.id, .int .i64 s.r.of_, .int .i64 s.r.role, .int .i64 s.r.commit, .int .i64 s.r.hard.term, .int .i64 s.r.hard.vote, .ref 1, .ref 2, .ref 3, .ref 4, .int .i64 s.was.id, .int .i64 s.was.of_, .int .i64 s.was.role, .int .i64 s.was.commit, .int .i64 s.was.hard.term, .int .i64 s.was.hard.vote, .sl false 6 (s.was.hard.log.map encEnt), .sl false 1 (s.was.yes.map encI), .sl false 1 (s.was.next.map encI), .sl false 1 (s.was.match_.map encI), .ref 5, .ref 6], .arr 45 6 (s.r.hard.log.map encEnt), .arr 3 1 (s.r.yes.map encI), .arr 3 1 (s.r.next.map encI), .arr 3 1 (s.r.match_.map encI), .arr 47 10 (s.recs.map encRec), .arr 51 17 (s.outs.map encOut), .arr 45 6 (w.hard.log.map encEnt), .arr 3 1 (w.yes.map encI), .arr 3 1 (w.next.map encI), .arr 3 1 (w.match_.map encI), .arr 47 10 [], .arr 51 17 []]) (show (s.was) = (same s.was) from by simp only [same, h1, if_true] <;> rfl) ?_
    exact KF.m [(0, 0), (1, 1), (2, 2), (3, 3), (4, 4), (5, 5), (6, 6), (1320, 7), (1321, 8), (1322, 9), (1323, 10), (5011, 11), (5012, 12)] [.agg [.int .i64 s.was.id, .int .i64 s.was.of_, .int .i64 s.was.role, .int .i64 s.was.commit, .int .i64 s.was.hard.term, .int .i64 s.was.hard.vote, .ref 1320, .ref 1321, .ref 1322, .ref 1323], .ref 5011, .ref 5012]
set_option maxRecDepth 100000 in
set_option maxHeartbeats 4000000 in
theorem impl_stepper_none_T_spec  (s : Stepper) (hz : SmallR s.was) (hok : raftOk s.was = true) : FnSpec Tryz.prog 88 [.ptr 0 0 0] [.box 102 [.int .i64 s.r.id, .int .i64 s.r.of_, .int .i64 s.r.role, .int .i64 s.r.commit, .int .i64 s.r.hard.term, .int .i64 s.r.hard.vote, .ref 1, .ref 2, .ref 3, .ref 4, .int .i64 s.was.id, .int .i64 s.was.of_, .int .i64 s.was.role, .int .i64 s.was.commit, .int .i64 s.was.hard.term, .int .i64 s.was.hard.vote, .sl false 6 (s.was.hard.log.map encEnt), .sl false 1 (s.was.yes.map encI), .sl false 1 (s.was.next.map encI), .sl false 1 (s.was.match_.map encI), .ref 5, .ref 6], .arr 45 6 (s.r.hard.log.map encEnt), .arr 3 1 (s.r.yes.map encI), .arr 3 1 (s.r.next.map encI), .arr 3 1 (s.r.match_.map encI), .arr 47 10 (s.recs.map encRec), .arr 51 17 (s.outs.map encOut)] (.tup [.agg [.int .i64 s.was.id, .int .i64 s.was.of_, .int .i64 s.was.role, .int .i64 s.was.commit, .int .i64 s.was.hard.term, .int .i64 s.was.hard.vote, .ref 7, .ref 8, .ref 9, .ref 10], .ref 11, .ref 12]) [.box 102 [.int .i64 s.r.id, .int .i64 s.r.of_, .int .i64 s.r.role, .int .i64 s.r.commit, .int .i64 s.r.hard.term, .int .i64 s.r.hard.vote, .ref 1, .ref 2, .ref 3, .ref 4, .int .i64 s.was.id, .int .i64 s.was.of_, .int .i64 s.was.role, .int .i64 s.was.commit, .int .i64 s.was.hard.term, .int .i64 s.was.hard.vote, .sl false 6 (s.was.hard.log.map encEnt), .sl false 1 (s.was.yes.map encI), .sl false 1 (s.was.next.map encI), .sl false 1 (s.was.match_.map encI), .ref 5, .ref 6], .arr 45 6 (s.r.hard.log.map encEnt), .arr 3 1 (s.r.yes.map encI), .arr 3 1 (s.r.next.map encI), .arr 3 1 (s.r.match_.map encI), .arr 47 10 (s.recs.map encRec), .arr 51 17 (s.outs.map encOut), .arr 45 6 (s.was.hard.log.map encEnt), .arr 3 1 (s.was.yes.map encI), .arr 3 1 (s.was.next.map encI), .arr 3 1 (s.was.match_.map encI), .arr 47 10 [], .arr 51 17 []] := by have := impl_stepper_none_spec s hz; rw [show same s.was = s.was from if_pos hok] at this; exact this
set_option maxRecDepth 100000 in
set_option maxHeartbeats 4000000 in
theorem impl_stepper_none_F_spec  (s : Stepper) (hz : SmallR s.was) (hok : ¬ raftOk s.was = true) : FnSpec Tryz.prog 88 [.ptr 0 0 0] [.box 102 [.int .i64 s.r.id, .int .i64 s.r.of_, .int .i64 s.r.role, .int .i64 s.r.commit, .int .i64 s.r.hard.term, .int .i64 s.r.hard.vote, .ref 1, .ref 2, .ref 3, .ref 4, .int .i64 s.was.id, .int .i64 s.was.of_, .int .i64 s.was.role, .int .i64 s.was.commit, .int .i64 s.was.hard.term, .int .i64 s.was.hard.vote, .sl false 6 (s.was.hard.log.map encEnt), .sl false 1 (s.was.yes.map encI), .sl false 1 (s.was.next.map encI), .sl false 1 (s.was.match_.map encI), .ref 5, .ref 6], .arr 45 6 (s.r.hard.log.map encEnt), .arr 3 1 (s.r.yes.map encI), .arr 3 1 (s.r.next.map encI), .arr 3 1 (s.r.match_.map encI), .arr 47 10 (s.recs.map encRec), .arr 51 17 (s.outs.map encOut)] (.tup [.agg [.int .i64 0, .int .i64 0, .int .i64 0, .int .i64 0, .int .i64 0, .int .i64 0, .ref 7, .ref 8, .ref 9, .ref 10], .ref 11, .ref 12]) [.box 102 [.int .i64 s.r.id, .int .i64 s.r.of_, .int .i64 s.r.role, .int .i64 s.r.commit, .int .i64 s.r.hard.term, .int .i64 s.r.hard.vote, .ref 1, .ref 2, .ref 3, .ref 4, .int .i64 s.was.id, .int .i64 s.was.of_, .int .i64 s.was.role, .int .i64 s.was.commit, .int .i64 s.was.hard.term, .int .i64 s.was.hard.vote, .sl false 6 (s.was.hard.log.map encEnt), .sl false 1 (s.was.yes.map encI), .sl false 1 (s.was.next.map encI), .sl false 1 (s.was.match_.map encI), .ref 5, .ref 6], .arr 45 6 (s.r.hard.log.map encEnt), .arr 3 1 (s.r.yes.map encI), .arr 3 1 (s.r.next.map encI), .arr 3 1 (s.r.match_.map encI), .arr 47 10 (s.recs.map encRec), .arr 51 17 (s.outs.map encOut), .arr 45 6 [], .arr 3 1 [], .arr 3 1 [], .arr 3 1 [], .arr 47 10 [], .arr 51 17 []] := by have := impl_stepper_none_spec s hz; rw [show same s.was = zRaft from if_neg hok] at this; exact this
set_option maxRecDepth 100000 in
set_option maxHeartbeats 4000000 in
theorem impl_stepper_follow_spec  (s : Stepper) : FnSpec Tryz.prog 92 [.ptr 0 0 0] [.box 102 [.int .i64 s.r.id, .int .i64 s.r.of_, .int .i64 s.r.role, .int .i64 s.r.commit, .int .i64 s.r.hard.term, .int .i64 s.r.hard.vote, .ref 1, .ref 2, .ref 3, .ref 4, .int .i64 s.was.id, .int .i64 s.was.of_, .int .i64 s.was.role, .int .i64 s.was.commit, .int .i64 s.was.hard.term, .int .i64 s.was.hard.vote, .sl false 6 (s.was.hard.log.map encEnt), .sl false 1 (s.was.yes.map encI), .sl false 1 (s.was.next.map encI), .sl false 1 (s.was.match_.map encI), .ref 5, .ref 6], .arr 45 6 (s.r.hard.log.map encEnt), .arr 3 1 (s.r.yes.map encI), .arr 3 1 (s.r.next.map encI), .arr 3 1 (s.r.match_.map encI), .arr 47 10 (s.recs.map encRec), .arr 51 17 (s.outs.map encOut)] (.tup []) [.box 102 [.int .i64 s.r.id, .int .i64 s.r.of_, .int .i64 1, .int .i64 s.r.commit, .int .i64 s.r.hard.term, .int .i64 s.r.hard.vote, .ref 1, .ref 7, .ref 8, .ref 9, .int .i64 s.was.id, .int .i64 s.was.of_, .int .i64 s.was.role, .int .i64 s.was.commit, .int .i64 s.was.hard.term, .int .i64 s.was.hard.vote, .sl false 6 (s.was.hard.log.map encEnt), .sl false 1 (s.was.yes.map encI), .sl false 1 (s.was.next.map encI), .sl false 1 (s.was.match_.map encI), .ref 5, .ref 6], .arr 45 6 (s.r.hard.log.map encEnt), .dead, .dead, .dead, .arr 47 10 (s.recs.map encRec), .arr 51 17 (s.outs.map encOut), .arr 3 1 [], .arr 3 1 [], .arr 3 1 []] := by
  refine FnSpec.of 18 Tryz.func92 rfl Tryz.ntmps92 (by simp) (AW.weakK ?_)
  refine AW.region (At.start ?_)
  refine At.a 20 ?_
  refine At.done rfl ?_
  refine ⟨_, (Sub.trans (Sub.trans (Sub.trans (Sub.nils [⟨true, 0, some 7, 5001, 3, 1⟩, ⟨true, 0, some 8, 5002, 3, 1⟩, ⟨true, 0, some 9, 5003, 3, 1⟩] (by kernel_rfl)) (Sub.mv 2 8002 (by kernel_rfl) (by decide))) (Sub.mv 3 8003 (by kernel_rfl) (by decide))) (Sub.mv 4 8004 (by kernel_rfl) (by decide))), ?_⟩
  refine KF.conv (fun w => .tup []) (fun w => [.box 102 [.int .i64 w.r.id, .int .i64 w.r.of_, .int .i64 w.r.role, .int .i64 w.r.commit, .int .i64 w.r.hard.term, .int .i64 w.r.hard.vote, .ref 1, .ref 7, .ref 8, .ref 9, .int .i64 w.was.id, .int .i64 w.was.of_, .int .i64 w.was.role, .int .i64 w.was.commit, .int .i64 w.was.hard.term, .int .i64 w.was.hard.vote, .sl false 6 (w.was.hard.log.map encEnt), .sl false 1 (w.was.yes.map encI), .sl false 1 (w.was.next.map encI), .sl false 1 (w.was.match_.map encI), .ref 5, .ref 6], .arr 45 6 (w.r.hard.log.map encEnt), .dead, .dead, .dead, .arr 47 10 (w.recs.map encRec), .arr 51 17 (w.outs.map encOut), .arr 3 1 (w.r.yes.map encI), .arr 3 1 (w.r.next.map encI), .arr 3 1 (w.r.match_.map encI)]) (show ((⟨⟨s.r.id, s.r.of_, 1, s.r.commit, ⟨s.r.hard.term, s.r.hard.vote, s.r.hard.log⟩, [], [], []⟩, s.was, s.recs, s.outs⟩ : Stepper)) = (({ s with r := ({ s.r with role := 1, yes := [], next := [], match_ := [] } : Raft) } : Stepper)) from by simp_all) ?_
  exact KF.m [(0, 0), (1, 1), (2, 2), (3, 3), (4, 4), (5, 5), (6, 6), (5001, 7), (5002, 8), (5003, 9)] []
set_option maxRecDepth 100000 in
set_option maxHeartbeats 4000000 in
theorem impl_stepper_followTerm_T_spec  (s : Stepper) (t_ : Int) (ht : t_ ≤ s.r.hard.term) : FnSpec Tryz.prog 91 [.ptr 0 0 0, .int .i64 t_] [.box 102 [.int .i64 s.r.id, .int .i64 s.r.of_, .int .i64 s.r.role, .int .i64 s.r.commit, .int .i64 s.r.hard.term, .int .i64 s.r.hard.vote, .ref 1, .ref 2, .ref 3, .ref 4, .int .i64 s.was.id, .int .i64 s.was.of_, .int .i64 s.was.role, .int .i64 s.was.commit, .int .i64 s.was.hard.term, .int .i64 s.was.hard.vote, .sl false 6 (s.was.hard.log.map encEnt), .sl false 1 (s.was.yes.map encI), .sl false 1 (s.was.next.map encI), .sl false 1 (s.was.match_.map encI), .ref 5, .ref 6], .arr 45 6 (s.r.hard.log.map encEnt), .arr 3 1 (s.r.yes.map encI), .arr 3 1 (s.r.next.map encI), .arr 3 1 (s.r.match_.map encI), .arr 47 10 (s.recs.map encRec), .arr 51 17 (s.outs.map encOut)] (.bool false) [.box 102 [.int .i64 s.r.id, .int .i64 s.r.of_, .int .i64 s.r.role, .int .i64 s.r.commit, .int .i64 s.r.hard.term, .int .i64 s.r.hard.vote, .ref 1, .ref 2, .ref 3, .ref 4, .int .i64 s.was.id, .int .i64 s.was.of_, .int .i64 s.was.role, .int .i64 s.was.commit, .int .i64 s.was.hard.term, .int .i64 s.was.hard.vote, .sl false 6 (s.was.hard.log.map encEnt), .sl false 1 (s.was.yes.map encI), .sl false 1 (s.was.next.map encI), .sl false 1 (s.was.match_.map encI), .ref 5, .ref 6], .arr 45 6 (s.r.hard.log.map encEnt), .arr 3 1 (s.r.yes.map encI), .arr 3 1 (s.r.next.map encI), .arr 3 1 (s.r.match_.map encI), .arr 47 10 (s.recs.map encRec), .arr 51 17 (s.outs.map encOut)] := by
  refine FnSpec.of 26 Tryz.func91 rfl Tryz.ntmps91 (by simp) (AW.weakK ?_)
  refine AW.r ?_
  refine At.a 1 ?_
  refine At.done rfl ?_
  refine AW.seq ?_
  refine AW.r ?_
  refine At.a 8 ?_
  refine At.done rfl ?_
  refine AW.condT (decide (t_ ≤ s.r.hard.term)) (by kernel_rfl) (decide_eq_true ht) ?_
  refine AW.r ?_
  refine At.a 1 ?_
  refine At.done rfl ?_
  refine AW.ret ?_
  refine ⟨_, Sub.refl _ _, ?_⟩
  exact KF.m [(0, 0), (1, 1), (2, 2), (3, 3), (4, 4), (5, 5), (6, 6)] [.bool false]
set_option maxRecDepth 100000 in
set_option maxHeartbeats 4000000 in
theorem impl_stepper_followTerm_F_spec  (s : Stepper) (t_ : Int) (ht : ¬ t_ ≤ s.r.hard.term) : FnSpec Tryz.prog 91 [.ptr 0 0 0, .int .i64 t_] [.box 102 [.int .i64 s.r.id, .int .i64 s.r.of_, .int .i64 s.r.role, .int .i64 s.r.commit, .int .i64 s.r.hard.term, .int .i64 s.r.hard.vote, .ref 1, .ref 2, .ref 3, .ref 4, .int .i64 s.was.id, .int .i64 s.was.of_, .int .i64 s.was.role, .int .i64 s.was.commit, .int .i64 s.was.hard.term, .int .i64 s.was.hard.vote, .sl false 6 (s.was.hard.log.map encEnt), .sl false 1 (s.was.yes.map encI), .sl false 1 (s.was.next.map encI), .sl false 1 (s.was.match_.map encI), .ref 5, .ref 6], .arr 45 6 (s.r.hard.log.map encEnt), .arr 3 1 (s.r.yes.map encI), .arr 3 1 (s.r.next.map encI), .arr 3 1 (s.r.match_.map encI), .arr 47 10 (s.recs.map encRec), .arr 51 17 (s.outs.map encOut)] (.bool true) [.box 102 [.int .i64 s.r.id, .int .i64 s.r.of_, .int .i64 1, .int .i64 s.r.commit, .int .i64 t_, .int .i64 0, .ref 1, .ref 7, .ref 8, .ref 9, .int .i64 s.was.id, .int .i64 s.was.of_, .int .i64 s.was.role, .int .i64 s.was.commit, .int .i64 s.was.hard.term, .int .i64 s.was.hard.vote, .sl false 6 (s.was.hard.log.map encEnt), .sl false 1 (s.was.yes.map encI), .sl false 1 (s.was.next.map encI), .sl false 1 (s.was.match_.map encI), .ref 5, .ref 6], .arr 45 6 (s.r.hard.log.map encEnt), .dead, .dead, .dead, .arr 47 10 (s.recs.map encRec), .arr 51 17 (s.outs.map encOut), .arr 3 1 [], .arr 3 1 [], .arr 3 1 []] := by
  refine FnSpec.of 26 Tryz.func91 rfl Tryz.ntmps91 (by simp) (AW.weakK ?_)
  refine AW.r ?_
  refine At.a 1 ?_
  refine At.done rfl ?_
  refine AW.seq ?_
  refine AW.r ?_
  refine At.a 8 ?_
  refine At.done rfl ?_
  refine AW.condF (decide (t_ ≤ s.r.hard.term)) (by kernel_rfl) (decide_eq_false ht) ?_
  refine AW.skip ?_
  refine AW.r ?_
  refine At.a 1 ?_
  refine At.c (impl_stepper_follow_spec  s ) Tryz.call92 true [(0, 0), (1, 1), (2, 2), (3, 3), (4, 4), (5, 5), (6, 6)] [(1280, 7), (1281, 8), (1282, 9)] [] trivial ?_
  refine At.done rfl ?_
  refine AW.r ?_
  refine At.a 13 ?_
  refine At.done rfl ?_
  refine AW.r ?_
  refine At.a 1 ?_
  refine At.done rfl ?_
  refine AW.ret ?_
  refine ⟨_, Sub.refl _ _, ?_⟩
  refine KF.conv (fun w => .bool true) (fun w => [.box 102 [.int .i64 w.r.id, .int .i64 w.r.of_, .int .i64 w.r.role, .int .i64 w.r.commit, .int .i64 w.r.hard.term, .int .i64 w.r.hard.vote, .ref 1, .ref 7, .ref 8, .ref 9, .int .i64 w.was.id, .int .i64 w.was.of_, .int .i64 w.was.role, .int .i64 w.was.commit, .int .i64 w.was.hard.term, .int .i64 w.was.hard.vote, .sl false 6 (w.was.hard.log.map encEnt), .sl false 1 (w.was.yes.map encI), .sl false 1 (w.was.next.map encI), .sl false 1 (w.was.match_.map encI), .ref 5, .ref 6], .arr 45 6 (w.r.hard.log.map encEnt), .dead, .dead, .dead, .arr 47 10 (w.recs.map encRec), .arr 51 17 (w.outs.map encOut), .arr 3 1 (w.r.yes.map encI), .arr 3 1 (w.r.next.map encI), .arr 3 1 (w.r.match_.map encI)]) (show ((⟨⟨s.r.id, s.r.of_, 1, s.r.commit, ⟨t_, 0, s.r.hard.log⟩, [], [], []⟩, s.was, s.recs, s.outs⟩ : Stepper)) = (({ s with r := ({ s.r with role := 1, yes := [], next := [], match_ := [], hard := { s.r.hard with term := t_, vote := 0 } } : Raft) } : Stepper)) from by simp_all) ?_
  exact KF.m [(0, 0), (1, 1), (2, 2), (3, 3), (4, 4), (5, 5), (6, 6), (1280, 7), (1281, 8), (1282, 9)] [.bool true]
set_option maxRecDepth 100000 in
set_option maxHeartbeats 4000000 in
theorem impl_stepper_end_spec  (s : Stepper) (hr : s.recs.length ≤ 1048576) : FnSpec Tryz.prog 90 [.ptr 0 0 0] [.box 102 [.int .i64 s.r.id, .int .i64 s.r.of_, .int .i64 s.r.role, .int .i64 s.r.commit, .int .i64 s.r.hard.term, .int .i64 s.r.hard.vote, .ref 1, .ref 2, .ref 3, .ref 4, .int .i64 s.was.id, .int .i64 s.was.of_, .int .i64 s.was.role, .int .i64 s.was.commit, .int .i64 s.was.hard.term, .int .i64 s.was.hard.vote, .sl false 6 (s.was.hard.log.map encEnt), .sl false 1 (s.was.yes.map encI), .sl false 1 (s.was.next.map encI), .sl false 1 (s.was.match_.map encI), .ref 5, .ref 6], .arr 45 6 (s.r.hard.log.map encEnt), .arr 3 1 (s.r.yes.map encI), .arr 3 1 (s.r.next.map encI), .arr 3 1 (s.r.match_.map encI), .arr 47 10 (s.recs.map encRec), .arr 51 17 (s.outs.map encOut)] (.tup [.agg [.int .i64 s.r.id, .int .i64 s.r.of_, .int .i64 s.r.role, .int .i64 s.r.commit, .int .i64 s.r.hard.term, .int .i64 s.r.hard.vote, .ref 1, .ref 2, .ref 3, .ref 4], .ref 7, .ref 6]) [.box 102 [.int .i64 s.r.id, .int .i64 s.r.of_, .int .i64 s.r.role, .int .i64 s.r.commit, .int .i64 s.r.hard.term, .int .i64 s.r.hard.vote, .ref 1, .ref 2, .ref 3, .ref 4, .int .i64 s.was.id, .int .i64 s.was.of_, .int .i64 s.was.role, .int .i64 s.was.commit, .int .i64 s.was.hard.term, .int .i64 s.was.hard.vote, .sl false 6 (s.was.hard.log.map encEnt), .sl false 1 (s.was.yes.map encI), .sl false 1 (s.was.next.map encI), .sl false 1 (s.was.match_.map encI), .un, .ref 6], .arr 45 6 (s.r.hard.log.map encEnt), .arr 3 1 (s.r.yes.map encI), .arr 3 1 (s.r.next.map encI), .arr 3 1 (s.r.match_.map encI), .dead, .arr 51 17 (s.outs.map encOut), .arr 47 10 ((endRecs s).map encRec)] := by
  refine FnSpec.of 60 Tryz.func90 rfl Tryz.ntmps90 (by simp) (AW.weakK ?_)
  refine AW.r ?_
  refine At.a 3 ?_
  refine At.done rfl ?_
  refine AW.seq ?_
  refine AW.weak (Sub.nils [⟨true, 102, some 6, 5001, 45, 6⟩, ⟨true, 102, some 7, 5002, 3, 1⟩, ⟨true, 102, some 8, 5003, 3, 1⟩, ⟨true, 102, some 9, 5004, 3, 1⟩] (by kernel_rfl)) ?_
  refine AW.regionD Tryz_mix (At.start ?_)
  refine At.a 14 ?_
  refine At.done rfl ⟨by kernel_rfl, ?_⟩
  refine AW.seq ?_
  refine AW.r ?_
  refine At.a 6 ?_
  by_cases h1 : s.r.hard.term = s.was.hard.term
  · refine At.sB 22 (s.r.hard.term == s.was.hard.term) true (sayET h1) ?_
    refine At.a 6 ?_
    refine At.done rfl ?_
    refine AW.cE s.r.hard.vote s.was.hard.vote (fun h2 => ?_) (fun h2 => ?_)
    · skip
      refine AW.seq ?_
      refine AW.regionD Tryz_mix (At.start ?_)
      refine At.a 15 ?_
      refine At.done rfl ⟨by kernel_rfl, ?_⟩
      refine AW.ret ?_
      refine ⟨_, (Sub.trans (Sub.trans (Sub.refl _ _) (Sub.mv 5 8005 (by kernel_rfl) (by decide))) (Sub.un1 0 20 102 [.int .i64 s.r.id, .int .i64 s.r.of_, .int .i64 s.r.role, .int .i64 s.r.commit, .int .i64 s.r.hard.term, .int .i64 s.r.hard.vote, .ref 1, .ref 2, .ref 3, .ref 4, .int .i64 s.was.id, .int .i64 s.was.of_, .int .i64 s.was.role, .int .i64 s.was.commit, .int .i64 s.was.hard.term, .int .i64 s.was.hard.vote, .sl false 6 (s.was.hard.log.map encEnt), .sl false 1 (s.was.yes.map encI), .sl false 1 (s.was.next.map encI), .sl false 1 (s.was.match_.map encI), .ref 8005, .ref 6] (by kernel_rfl))), ?_⟩
      refine KF.conv (fun w => .tup [.agg [.int .i64 s.r.id, .int .i64 s.r.of_, .int .i64 s.r.role, .int .i64 s.r.commit, .int .i64 s.r.hard.term, .int .i64 s.r.hard.vote, .ref 1, .ref 2, .ref 3, .ref 4], .ref 7, .ref 6]) (fun w => [.box 102 [.int .i64 s.r.id, .int .i64 s.r.of_, .int .i64 s.r.role, .int .i64 s.r.commit, .int .i64 s.r.hard.term, .int .i64 s.r.hard.vote, .ref 1, .ref 2, .ref 3, .ref 4, .int .i64 s.was.id, .int .i64 s.was.of_, .int .i64 s.was.role, .int .i64 s.was.commit, .int .i64 s.was.hard.term, .int .i64 s.was.hard.vote, .sl false 6 (s.was.hard.log.map encEnt), .sl false 1 (s.was.yes.map encI), .sl false 1 (s.was.next.map encI), .sl false 1 (s.was.match_.map encI), .un, .ref 6], .arr 45 6 (s.r.hard.log.map encEnt), .arr 3 1 (s.r.yes.map encI), .arr 3 1 (s.r.next.map encI), .arr 3 1 (s.r.match_.map encI), .dead, .arr 51 17 (s.outs.map encOut), .arr 47 10 (w.map encRec)]) (show (s.recs) = (endRecs s) from by simp [endRecs, voteRec, h1, h2]; try rfl) ?_
      exact KF.m [(0, 0), (1, 1), (2, 2), (3, 3), (4, 4), (5, 5), (6, 6), (8005, 7)] [.agg [.int .i64 s.r.id, .int .i64 s.r.of_, .int .i64 s.r.role, .int .i64 s.r.commit, .int .i64 s.r.hard.term, .int .i64 s.r.hard.vote, .ref 1, .ref 2, .ref 3, .ref 4], .ref 8005, .ref 6]
    · skip
      refine AW.skip ?_
      refine AW.seq ?_
      refine AW.regionD Tryz_mix (At.start ?_)
      refine At.a 9 ?_
      refine At.litK (t := 37) (d := 50) (e := 47) (es := 10) (bytes := 88) (n := 1) (parts := #[(0, .tmp 49)]) (45, 6) 150 [] [.int .i64 1, .int .i64 s.r.hard.term, .int .i64 s.r.hard.vote, .int .i64 0, .int .i64 0, .int .i64 0, .int .i64 0, .int .i64 0, .int .i64 0, .str (⟨#[]⟩ : ByteArray)] [.int .i64 1, .int .i64 s.r.hard.term, .int .i64 s.r.hard.vote, .int .i64 0, .int .i64 0, .int .i64 0, .int .i64 0, .int .i64 0, .int .i64 0, .str (⟨#[]⟩ : ByteArray)] [.int .i64 0, .int .i64 0, .int .i64 0, .int .i64 0, .int .i64 0, .int .i64 0, .int .i64 0, .int .i64 0, .int .i64 0, .str (⟨#[]⟩ : ByteArray)] [.agg [.int .i64 1, .int .i64 s.r.hard.term, .int .i64 s.r.hard.vote, .int .i64 0, .int .i64 0, .int .i64 0, .int .i64 0, .int .i64 0, .int .i64 0, .str (⟨#[]⟩ : ByteArray)]] [] (by kernel_rfl) (by kernel_rfl) (by kernel_rfl) (by kernel_rfl) rfl (fun p hp => by cases hp) (by kernel_rfl) ?_
      refine At.a 4 ?_
      refine At.append (t := 37) (d := 55) (e := 47) (es := 10) (bytes := 88) (s := .tmp 50) (x := .tmp 54) (S := .ref 150) (T := .ref 5) (xs := (([(⟨1, s.r.hard.term, s.r.hard.vote, 0, ⟨0, ⟨0, 0, 0, 0, (⟨#[]⟩ : ByteArray)⟩⟩⟩ : Rec)]).map encRec)) (ys := (s.recs.map encRec)) 155 [150] [] ((([(⟨1, s.r.hard.term, s.r.hard.vote, 0, ⟨0, ⟨0, 0, 0, 0, (⟨#[]⟩ : ByteArray)⟩⟩⟩ : Rec)]) ++ s.recs).map encRec) (by kernel_rfl) (by kernel_rfl) (by kernel_rfl) (by kernel_rfl) ⟨by kernel_rfl, rfl⟩ ⟨by kernel_rfl, .inl ⟨rfl, (allP_encRec _)⟩⟩ (by kernel_rfl) (by kernel_rfl) (by simp) (by simp only [List.length_map, List.length_append, List.length_take, List.length_drop, List.length_replicate, List.length_set, List.length_cons, List.length_nil]; omega) (by simp only [List.length_map, List.length_append, List.length_take, List.length_drop, List.length_replicate, List.length_set, List.length_cons, List.length_nil]; omega) ?_
      refine At.a 7 ?_
      refine At.done rfl ⟨by kernel_rfl, ?_⟩
      refine AW.ret ?_
      refine ⟨_, (Sub.trans (Sub.trans (Sub.refl _ _) (Sub.mv 5 8005 (by kernel_rfl) (by decide))) (Sub.un1 0 20 102 [.int .i64 s.r.id, .int .i64 s.r.of_, .int .i64 s.r.role, .int .i64 s.r.commit, .int .i64 s.r.hard.term, .int .i64 s.r.hard.vote, .ref 1, .ref 2, .ref 3, .ref 4, .int .i64 s.was.id, .int .i64 s.was.of_, .int .i64 s.was.role, .int .i64 s.was.commit, .int .i64 s.was.hard.term, .int .i64 s.was.hard.vote, .sl false 6 (s.was.hard.log.map encEnt), .sl false 1 (s.was.yes.map encI), .sl false 1 (s.was.next.map encI), .sl false 1 (s.was.match_.map encI), .ref 8005, .ref 6] (by kernel_rfl))), ?_⟩
      refine KF.conv (fun w => .tup [.agg [.int .i64 s.r.id, .int .i64 s.r.of_, .int .i64 s.r.role, .int .i64 s.r.commit, .int .i64 s.r.hard.term, .int .i64 s.r.hard.vote, .ref 1, .ref 2, .ref 3, .ref 4], .ref 7, .ref 6]) (fun w => [.box 102 [.int .i64 s.r.id, .int .i64 s.r.of_, .int .i64 s.r.role, .int .i64 s.r.commit, .int .i64 s.r.hard.term, .int .i64 s.r.hard.vote, .ref 1, .ref 2, .ref 3, .ref 4, .int .i64 s.was.id, .int .i64 s.was.of_, .int .i64 s.was.role, .int .i64 s.was.commit, .int .i64 s.was.hard.term, .int .i64 s.was.hard.vote, .sl false 6 (s.was.hard.log.map encEnt), .sl false 1 (s.was.yes.map encI), .sl false 1 (s.was.next.map encI), .sl false 1 (s.was.match_.map encI), .un, .ref 6], .arr 45 6 (s.r.hard.log.map encEnt), .arr 3 1 (s.r.yes.map encI), .arr 3 1 (s.r.next.map encI), .arr 3 1 (s.r.match_.map encI), .dead, .arr 51 17 (s.outs.map encOut), .arr 47 10 (w.map encRec)]) (show (([(⟨1, s.r.hard.term, s.r.hard.vote, 0, ⟨0, ⟨0, 0, 0, 0, (⟨#[]⟩ : ByteArray)⟩⟩⟩ : Rec)]) ++ s.recs) = (endRecs s) from by simp [endRecs, voteRec, h1, h2]; try rfl) ?_
      exact KF.m [(0, 0), (1, 1), (2, 2), (3, 3), (4, 4), (5, 5), (6, 6), (155, 7)] [.agg [.int .i64 s.r.id, .int .i64 s.r.of_, .int .i64 s.r.role, .int .i64 s.r.commit, .int .i64 s.r.hard.term, .int .i64 s.r.hard.vote, .ref 1, .ref 2, .ref 3, .ref 4], .ref 155, .ref 6]
  · refine At.sB 22 (s.r.hard.term == s.was.hard.term) false (sayEF h1) ?_
    refine At.a 6 ?_
    refine At.done rfl ?_
    refine AW.cond false (by kernel_rfl) (fun h => by cases h) (fun _ => ?_)
    refine AW.skip ?_
    refine AW.seq ?_
    refine AW.regionD Tryz_mix (At.start ?_)
    refine At.a 9 ?_
    refine At.litK (t := 37) (d := 50) (e := 47) (es := 10) (bytes := 88) (n := 1) (parts := #[(0, .tmp 49)]) (45, 6) 150 [] [.int .i64 1, .int .i64 s.r.hard.term, .int .i64 s.r.hard.vote, .int .i64 0, .int .i64 0, .int .i64 0, .int .i64 0, .int .i64 0, .int .i64 0, .str (⟨#[]⟩ : ByteArray)] [.int .i64 1, .int .i64 s.r.hard.term, .int .i64 s.r.hard.vote, .int .i64 0, .int .i64 0, .int .i64 0, .int .i64 0, .int .i64 0, .int .i64 0, .str (⟨#[]⟩ : ByteArray)] [.int .i64 0, .int .i64 0, .int .i64 0, .int .i64 0, .int .i64 0, .int .i64 0, .int .i64 0, .int .i64 0, .int .i64 0, .str (⟨#[]⟩ : ByteArray)] [.agg [.int .i64 1, .int .i64 s.r.hard.term, .int .i64 s.r.hard.vote, .int .i64 0, .int .i64 0, .int .i64 0, .int .i64 0, .int .i64 0, .int .i64 0, .str (⟨#[]⟩ : ByteArray)]] [] (by kernel_rfl) (by kernel_rfl) (by kernel_rfl) (by kernel_rfl) rfl (fun p hp => by cases hp) (by kernel_rfl) ?_
    refine At.a 4 ?_
    refine At.append (t := 37) (d := 55) (e := 47) (es := 10) (bytes := 88) (s := .tmp 50) (x := .tmp 54) (S := .ref 150) (T := .ref 5) (xs := (([(⟨1, s.r.hard.term, s.r.hard.vote, 0, ⟨0, ⟨0, 0, 0, 0, (⟨#[]⟩ : ByteArray)⟩⟩⟩ : Rec)]).map encRec)) (ys := (s.recs.map encRec)) 155 [150] [] ((([(⟨1, s.r.hard.term, s.r.hard.vote, 0, ⟨0, ⟨0, 0, 0, 0, (⟨#[]⟩ : ByteArray)⟩⟩⟩ : Rec)]) ++ s.recs).map encRec) (by kernel_rfl) (by kernel_rfl) (by kernel_rfl) (by kernel_rfl) ⟨by kernel_rfl, rfl⟩ ⟨by kernel_rfl, .inl ⟨rfl, (allP_encRec _)⟩⟩ (by kernel_rfl) (by kernel_rfl) (by simp) (by simp only [List.length_map, List.length_append, List.length_take, List.length_drop, List.length_replicate, List.length_set, List.length_cons, List.length_nil]; omega) (by simp only [List.length_map, List.length_append, List.length_take, List.length_drop, List.length_replicate, List.length_set, List.length_cons, List.length_nil]; omega) ?_
    refine At.a 7 ?_
    refine At.done rfl ⟨by kernel_rfl, ?_⟩
    refine AW.ret ?_
    refine ⟨_, (Sub.trans (Sub.trans (Sub.refl _ _) (Sub.mv 5 8005 (by kernel_rfl) (by decide))) (Sub.un1 0 20 102 [.int .i64 s.r.id, .int .i64 s.r.of_, .int .i64 s.r.role, .int .i64 s.r.commit, .int .i64 s.r.hard.term, .int .i64 s.r.hard.vote, .ref 1, .ref 2, .ref 3, .ref 4, .int .i64 s.was.id, .int .i64 s.was.of_, .int .i64 s.was.role, .int .i64 s.was.commit, .int .i64 s.was.hard.term, .int .i64 s.was.hard.vote, .sl false 6 (s.was.hard.log.map encEnt), .sl false 1 (s.was.yes.map encI), .sl false 1 (s.was.next.map encI), .sl false 1 (s.was.match_.map encI), .ref 8005, .ref 6] (by kernel_rfl))), ?_⟩
    refine KF.conv (fun w => .tup [.agg [.int .i64 s.r.id, .int .i64 s.r.of_, .int .i64 s.r.role, .int .i64 s.r.commit, .int .i64 s.r.hard.term, .int .i64 s.r.hard.vote, .ref 1, .ref 2, .ref 3, .ref 4], .ref 7, .ref 6]) (fun w => [.box 102 [.int .i64 s.r.id, .int .i64 s.r.of_, .int .i64 s.r.role, .int .i64 s.r.commit, .int .i64 s.r.hard.term, .int .i64 s.r.hard.vote, .ref 1, .ref 2, .ref 3, .ref 4, .int .i64 s.was.id, .int .i64 s.was.of_, .int .i64 s.was.role, .int .i64 s.was.commit, .int .i64 s.was.hard.term, .int .i64 s.was.hard.vote, .sl false 6 (s.was.hard.log.map encEnt), .sl false 1 (s.was.yes.map encI), .sl false 1 (s.was.next.map encI), .sl false 1 (s.was.match_.map encI), .un, .ref 6], .arr 45 6 (s.r.hard.log.map encEnt), .arr 3 1 (s.r.yes.map encI), .arr 3 1 (s.r.next.map encI), .arr 3 1 (s.r.match_.map encI), .dead, .arr 51 17 (s.outs.map encOut), .arr 47 10 (w.map encRec)]) (show (([(⟨1, s.r.hard.term, s.r.hard.vote, 0, ⟨0, ⟨0, 0, 0, 0, (⟨#[]⟩ : ByteArray)⟩⟩⟩ : Rec)]) ++ s.recs) = (endRecs s) from by simp [endRecs, voteRec, h1]; try rfl) ?_
    exact KF.m [(0, 0), (1, 1), (2, 2), (3, 3), (4, 4), (5, 5), (6, 6), (155, 7)] [.agg [.int .i64 s.r.id, .int .i64 s.r.of_, .int .i64 s.r.role, .int .i64 s.r.commit, .int .i64 s.r.hard.term, .int .i64 s.r.hard.vote, .ref 1, .ref 2, .ref 3, .ref 4], .ref 155, .ref 6]
set_option maxRecDepth 100000 in
set_option maxHeartbeats 4000000 in
theorem impl_stepper_message_spec  (s : Stepper) (kind : Int) : FnSpec Tryz.prog 114 [.ptr 0 0 0, .int .i64 kind] [.box 102 [.int .i64 s.r.id, .int .i64 s.r.of_, .int .i64 s.r.role, .int .i64 s.r.commit, .int .i64 s.r.hard.term, .int .i64 s.r.hard.vote, .ref 1, .ref 2, .ref 3, .ref 4, .int .i64 s.was.id, .int .i64 s.was.of_, .int .i64 s.was.role, .int .i64 s.was.commit, .int .i64 s.was.hard.term, .int .i64 s.was.hard.vote, .sl false 6 (s.was.hard.log.map encEnt), .sl false 1 (s.was.yes.map encI), .sl false 1 (s.was.next.map encI), .sl false 1 (s.was.match_.map encI), .ref 5, .ref 6], .arr 45 6 (s.r.hard.log.map encEnt), .arr 3 1 (s.r.yes.map encI), .arr 3 1 (s.r.next.map encI), .arr 3 1 (s.r.match_.map encI), .arr 47 10 (s.recs.map encRec), .arr 51 17 (s.outs.map encOut)] (.agg [.int .i64 kind, .int .i64 s.r.id, .int .i64 s.r.hard.term, .int .i64 0, .int .i64 0, .int .i64 0, .bool false, .int .i64 0, .int .i64 0, .str (⟨#[]⟩), .int .i64 0, .int .i64 0, .int .i64 0, .int .i64 0, .str (⟨#[]⟩), .ref 7]) [.box 102 [.int .i64 s.r.id, .int .i64 s.r.of_, .int .i64 s.r.role, .int .i64 s.r.commit, .int .i64 s.r.hard.term, .int .i64 s.r.hard.vote, .ref 1, .ref 2, .ref 3, .ref 4, .int .i64 s.was.id, .int .i64 s.was.of_, .int .i64 s.was.role, .int .i64 s.was.commit, .int .i64 s.was.hard.term, .int .i64 s.was.hard.vote, .sl false 6 (s.was.hard.log.map encEnt), .sl false 1 (s.was.yes.map encI), .sl false 1 (s.was.next.map encI), .sl false 1 (s.was.match_.map encI), .ref 5, .ref 6], .arr 45 6 (s.r.hard.log.map encEnt), .arr 3 1 (s.r.yes.map encI), .arr 3 1 (s.r.next.map encI), .arr 3 1 (s.r.match_.map encI), .arr 47 10 (s.recs.map encRec), .arr 51 17 (s.outs.map encOut), .arr 45 6 []] := by
  refine FnSpec.of 18 Tryz.func114 rfl Tryz.ntmps114 (by simp) (AW.weakK ?_)
  refine AW.r ?_
  refine At.a 1 ?_
  refine At.done rfl ?_
  refine AW.seq ?_
  refine AW.weak (Sub.nils [⟨true, 104, some 15, 5001, 45, 6⟩] (by kernel_rfl)) ?_
  refine AW.regionD Tryz_mix (At.start ?_)
  refine At.a 14 ?_
  refine At.done rfl ⟨by kernel_rfl, ?_⟩
  refine AW.ret ?_
  refine ⟨_, Sub.nils [⟨true, 104, some 15, 5002, 45, 6⟩] (by kernel_rfl), ?_⟩
  refine KF.conv (fun w => .agg [.int .i64 w.kind, .int .i64 w.from_, .int .i64 w.term, .int .i64 w.at_, .int .i64 w.atTerm, .int .i64 w.commit, .bool w.yes, .int .i64 w.release, .int .i64 w.part, .str w.bytes, .int .i64 w.cmd.kind, .int .i64 w.cmd.release, .int .i64 w.cmd.node, .int .i64 w.cmd.size, .str w.cmd.digest, .ref 7]) (fun w => [.box 102 [.int .i64 s.r.id, .int .i64 s.r.of_, .int .i64 s.r.role, .int .i64 s.r.commit, .int .i64 s.r.hard.term, .int .i64 s.r.hard.vote, .ref 1, .ref 2, .ref 3, .ref 4, .int .i64 s.was.id, .int .i64 s.was.of_, .int .i64 s.was.role, .int .i64 s.was.commit, .int .i64 s.was.hard.term, .int .i64 s.was.hard.vote, .sl false 6 (s.was.hard.log.map encEnt), .sl false 1 (s.was.yes.map encI), .sl false 1 (s.was.next.map encI), .sl false 1 (s.was.match_.map encI), .ref 5, .ref 6], .arr 45 6 (s.r.hard.log.map encEnt), .arr 3 1 (s.r.yes.map encI), .arr 3 1 (s.r.next.map encI), .arr 3 1 (s.r.match_.map encI), .arr 47 10 (s.recs.map encRec), .arr 51 17 (s.outs.map encOut), .arr 45 6 (w.entries.map encEnt)]) (show ((⟨kind, s.r.id, s.r.hard.term, 0, 0, 0, false, 0, 0, (⟨#[]⟩ : ByteArray), ⟨0, 0, 0, 0, (⟨#[]⟩ : ByteArray)⟩, []⟩ : Msg)) = ((⟨kind, s.r.id, s.r.hard.term, 0, 0, 0, false, 0, 0, ⟨#[]⟩, ⟨0, 0, 0, 0, ⟨#[]⟩⟩, []⟩ : Msg)) from rfl) ?_
  exact KF.m [(0, 0), (1, 1), (2, 2), (3, 3), (4, 4), (5, 5), (6, 6), (5002, 7)] [.agg [.int .i64 kind, .int .i64 s.r.id, .int .i64 s.r.hard.term, .int .i64 0, .int .i64 0, .int .i64 0, .bool false, .int .i64 0, .int .i64 0, .str (⟨#[]⟩ : ByteArray), .int .i64 0, .int .i64 0, .int .i64 0, .int .i64 0, .str (⟨#[]⟩ : ByteArray), .ref 5002]]
set_option maxRecDepth 100000 in
set_option maxHeartbeats 4000000 in
theorem impl_termAt_spec  (l : List Ent) (at_ : Int) (hl : l.length ≤ 1048576) (ha : 0 ≤ at_ ∧ at_ ≤ l.length) : FnSpec Tryz.prog 158 [.sl false 6 (l.map encEnt), .int .i64 at_] [] (.int .i64 (termAt l at_)) [] := by
  refine FnSpec.of 13 Tryz.func158 rfl Tryz.ntmps158 (by simp) (AW.weakK ?_)
  refine AW.r ?_
  refine At.a 1 ?_
  refine At.done rfl ?_
  refine AW.seq ?_
  refine AW.r ?_
  refine At.a 2 ?_
  refine At.done rfl ?_
  refine AW.cE at_ (0 : Int) (fun h1 => ?_) (fun h1 => ?_)
  · skip
    refine AW.r ?_
    refine At.a 1 ?_
    refine At.done rfl ?_
    refine AW.ret ?_
    refine ⟨_, Sub.refl _ _, ?_⟩
    refine KF.conv (fun w => .int .i64 w) (fun w => []) (show (0) = (termAt l at_) from by unfold termAt; first | (rw [if_pos (by omega)]; done) | (rw [if_neg (by omega), he1]; rfl)) ?_
    exact KF.m [] [.int .i64 0]
  · skip
    refine AW.skip ?_
    refine AW.r ?_
    refine At.a 3 ?_
    refine At.sI 9 (at_ - 1) (by omega) ?_
    refine At.iSl 24 10 (.tmp 7) (.tmp 9) false 6 (l.map encEnt) .i64 (at_ - 1) 45 (by omega) (by simp only [List.length_map, List.length_append, List.length_take, List.length_drop, List.length_replicate, List.length_set, List.length_cons, List.length_nil]; omega) ?_
    refine At.a 1 ?_
    refine Exists.elim (show ∃ e, l[(at_ - 1).toNat]? = some e from ⟨_, List.getElem?_eq_getElem (by omega)⟩) fun e1 he1 => ?_
    refine At.lVp 3 12 (.tmp 11) false 6 (l.map encEnt) ((at_ - 1).toNat) 0 false 1 (encEnt e1) (.int .i64 e1.term) (mapGet he1) ?_
    refine At.a 1 ?_
    refine At.done rfl ?_
    refine AW.ret ?_
    refine ⟨_, Sub.refl _ _, ?_⟩
    refine KF.conv (fun w => .int .i64 w) (fun w => []) (show (e1.term) = (termAt l at_) from by unfold termAt; first | (rw [if_pos (by omega)]; done) | (rw [if_neg (by omega), he1]; rfl)) ?_
    exact KF.m [] [.int .i64 e1.term]
set_option maxRecDepth 100000 in
set_option maxHeartbeats 4000000 in
theorem impl_stepper_send_spec  (s : Stepper) (i : Int) (hz : SmallR s.r) (hi : 0 ≤ i ∧ i < s.r.next.length) (hn : NextOk s.r) (ho : s.outs.length ≤ 2000) : FnSpec Tryz.prog 106 [.ptr 0 0 0, .int .i64 i] [.box 102 [.int .i64 s.r.id, .int .i64 s.r.of_, .int .i64 s.r.role, .int .i64 s.r.commit, .int .i64 s.r.hard.term, .int .i64 s.r.hard.vote, .ref 1, .ref 2, .ref 3, .ref 4, .int .i64 s.was.id, .int .i64 s.was.of_, .int .i64 s.was.role, .int .i64 s.was.commit, .int .i64 s.was.hard.term, .int .i64 s.was.hard.vote, .sl false 6 (s.was.hard.log.map encEnt), .sl false 1 (s.was.yes.map encI), .sl false 1 (s.was.next.map encI), .sl false 1 (s.was.match_.map encI), .ref 5, .ref 6], .arr 45 6 (s.r.hard.log.map encEnt), .arr 3 1 (s.r.yes.map encI), .arr 3 1 (s.r.next.map encI), .arr 3 1 (s.r.match_.map encI), .arr 47 10 (s.recs.map encRec), .arr 51 17 (s.outs.map encOut)] (.tup []) [.box 102 [.int .i64 s.r.id, .int .i64 s.r.of_, .int .i64 s.r.role, .int .i64 s.r.commit, .int .i64 s.r.hard.term, .int .i64 s.r.hard.vote, .ref 1, .ref 2, .ref 3, .ref 4, .int .i64 s.was.id, .int .i64 s.was.of_, .int .i64 s.was.role, .int .i64 s.was.commit, .int .i64 s.was.hard.term, .int .i64 s.was.hard.vote, .sl false 6 (s.was.hard.log.map encEnt), .sl false 1 (s.was.yes.map encI), .sl false 1 (s.was.next.map encI), .sl false 1 (s.was.match_.map encI), .ref 5, .ref 7], .arr 45 6 (s.r.hard.log.map encEnt), .arr 3 1 (s.r.yes.map encI), .arr 3 1 (s.r.next.map encI), .arr 3 1 (s.r.match_.map encI), .arr 47 10 (s.recs.map encRec), .dead, .arr 51 17 ((s.outs ++ [sendOf s.r i]).map encOut)] := by
  obtain ⟨z1, z2, z3, z4⟩ := id hz
  refine FnSpec.of 59 Tryz.func106 rfl Tryz.ntmps106 (by simp) (AW.weakK ?_)
  refine AW.r ?_
  refine At.a 7 ?_
  refine At.done rfl ?_
  refine AW.r ?_
  refine At.a 1 ?_
  refine At.c (impl_stepper_message_spec  s 3 ) Tryz.call114 true [(0, 0), (1, 1), (2, 2), (3, 3), (4, 4), (5, 5), (6, 6)] [(1260, 7)] [] trivial ?_
  refine At.a 2 ?_
  refine At.done rfl ?_
  refine AW.r ?_
  refine At.a 6 ?_
  refine At.iRf 27 20 (.tmp 18) (.tmp 19) 3 (s.r.next.map encI) .i64 i 3 1 (by omega) (by simp only [List.length_map, List.length_append, List.length_take, List.length_drop, List.length_replicate, List.length_set, List.length_cons, List.length_nil]; omega) ?_
  refine Exists.elim (show ∃ e, s.r.next[(i).toNat]? = some e from ⟨_, List.getElem?_eq_getElem (by omega)⟩) fun e1 he1 => ?_
  have hxe1 := hn _ (List.mem_of_getElem? he1)
  refine At.lEl 3 21 (.tmp 20) 3 3 1 (s.r.next.map encI) ((i).toNat) 0 false 1 (encI e1) (.int .i64 e1) (mapGet he1) ?_
  refine At.a 1 ?_
  refine At.sI 22 (e1 - 1) (by omega) ?_
  refine At.a 2 ?_
  refine At.done rfl ?_
  refine AW.seq ?_
  refine AW.regionD Tryz_mix (At.start ?_)
  refine At.a 3 ?_
  refine At.c (impl_termAt_spec  s.r.hard.log (e1 - 1) (by omega) (by omega)) Tryz.call158 false [] [] [(1, 6, (s.r.hard.log.map encEnt))] ⟨rfl, ⟨45, (s.r.hard.log.map encEnt), by kernel_rfl, FrzIs.same (allP_encEnt _)⟩, trivial⟩ ?_
  refine At.a 9 ?_
  refine At.done rfl ⟨by kernel_rfl, ?_⟩
  refine AW.r ?_
  refine At.a 6 ?_
  refine At.sJ 40 ((e1 - 1) + 6) (e1 + 5) (by omega) (by omega) ?_
  refine At.a 2 ?_
  refine At.sL 42 encEnt s.r.hard.log ?_
  refine At.mm (d := 43) (b := .min) (x := .tmp 40) (y := .tmp 42) (ats := #[3, 3]) (q := .i64) (m := e1 + 5) (n := (s.r.hard.log.length : Int)) (if (s.r.hard.log.length : Int) < (e1 + 5) then (s.r.hard.log.length : Int) else e1 + 5) (by kernel_rfl) (by kernel_rfl) (by kernel_rfl) (by kernel_rfl) (.inl ⟨rfl, rfl⟩) ?_
  refine At.say 43 (.int .i64 (if (s.r.hard.log.length : Int) < (e1 + 5) then (s.r.hard.log.length : Int) else e1 + 5)) (.int .i64 (min (e1 + 5) (s.r.hard.log.length : Int))) (by kernel_rfl) (congrArg (V.int .i64) (by omega)) ?_
  refine At.sliceRef (t := 24) (d := 44) (e := 45) (es := 6) (i := 1) (x := .tmp 35) (lx := some (.tmp 37)) (hx := some (.tmp 43)) (xs := (s.r.hard.log.map encEnt)) (vl := .int .i64 (e1 - 1)) (vh := .int .i64 (min (e1 + 5) (s.r.hard.log.length : Int))) ((e1 - 1).toNat) ((min (e1 + 5) (s.r.hard.log.length : Int)).toNat) (by kernel_rfl) (by kernel_rfl) (by kernel_rfl) (by kernel_rfl) (by kernel_rfl) (.inr ⟨_, _, rfl, sayNat (by omega)⟩) (.inr ⟨_, _, rfl, sayNat (by omega)⟩) (by omega) (by simp only [List.length_map, List.length_append, List.length_take, List.length_drop, List.length_replicate, List.length_set, List.length_cons, List.length_nil]; omega) ?_
  refine At.call (impl_copyLog_spec  ((s.r.hard.log.drop ((e1 - 1).toNat)).take (((min (e1 + 5) (s.r.hard.log.length : Int)).toNat) - ((e1 - 1).toNat))) (by simp only [List.length_map, List.length_append, List.length_take, List.length_drop, List.length_replicate, List.length_set, List.length_cons, List.length_nil]; omega)) Tryz.call162 false [] [(1900, 0)] [(1, 6, (s.r.hard.log.map encEnt))] (by kernel_rfl) (by kernel_rfl) (Eq.trans (b := [.sl false 6 (((s.r.hard.log.map encEnt).drop ((e1 - 1).toNat)).take (((min (e1 + 5) (s.r.hard.log.length : Int)).toNat) - ((e1 - 1).toNat)))]) (by kernel_rfl) (by simp only [List.map_take, List.map_drop])) (by kernel_rfl) (by kernel_rfl) ⟨rfl, ⟨45, (s.r.hard.log.map encEnt), by kernel_rfl, FrzIs.same (allP_encEnt _)⟩, trivial⟩ ?_
  refine At.a 2 ?_
  refine At.done rfl ?_
  refine AW.regionD Tryz_mix (At.start ?_)
  refine At.a 8 ?_
  refine At.litK (t := 38) (d := 55) (e := 51) (es := 17) (bytes := 168) (n := 1) (parts := #[(0, .tmp 54)]) (45, 6) 155 [1900] [.int .i64 i, .int .i64 3, .int .i64 s.r.id, .int .i64 s.r.hard.term, .int .i64 (e1 - 1), .int .i64 (termAt s.r.hard.log (e1 - 1)), .int .i64 s.r.commit, .bool false, .int .i64 0, .int .i64 0, .str (⟨#[]⟩), .int .i64 0, .int .i64 0, .int .i64 0, .int .i64 0, .str (⟨#[]⟩), .ref 1900] [.int .i64 i, .int .i64 3, .int .i64 s.r.id, .int .i64 s.r.hard.term, .int .i64 (e1 - 1), .int .i64 (termAt s.r.hard.log (e1 - 1)), .int .i64 s.r.commit, .bool false, .int .i64 0, .int .i64 0, .str (⟨#[]⟩), .int .i64 0, .int .i64 0, .int .i64 0, .int .i64 0, .str (⟨#[]⟩), .own 45 6 (((s.r.hard.log.drop ((e1 - 1).toNat)).take (((min (e1 + 5) (s.r.hard.log.length : Int)).toNat) - ((e1 - 1).toNat))).map encEnt)] [.int .i64 0, .int .i64 0, .int .i64 0, .int .i64 0, .int .i64 0, .int .i64 0, .int .i64 0, .bool false, .int .i64 0, .int .i64 0, .str (⟨#[]⟩ : ByteArray), .int .i64 0, .int .i64 0, .int .i64 0, .int .i64 0, .str (⟨#[]⟩ : ByteArray), .nil] [.agg [.int .i64 i, .int .i64 3, .int .i64 s.r.id, .int .i64 s.r.hard.term, .int .i64 (e1 - 1), .int .i64 (termAt s.r.hard.log (e1 - 1)), .int .i64 s.r.commit, .bool false, .int .i64 0, .int .i64 0, .str (⟨#[]⟩), .int .i64 0, .int .i64 0, .int .i64 0, .int .i64 0, .str (⟨#[]⟩), .own 45 6 (((s.r.hard.log.drop ((e1 - 1).toNat)).take (((min (e1 + 5) (s.r.hard.log.length : Int)).toNat) - ((e1 - 1).toNat))).map encEnt)]] [(45, 6, (((s.r.hard.log.drop ((e1 - 1).toNat)).take (((min (e1 + 5) (s.r.hard.log.length : Int)).toNat) - ((e1 - 1).toNat))).map encEnt))] (by kernel_rfl) (by kernel_rfl) (by kernel_rfl) (by kernel_rfl) (by kernel_rfl) (by intro p hp; simp only [List.mem_cons, List.not_mem_nil, or_false] at hp; subst hp; all_goals first | exact flatEnts | (intro x hx; cases hx)) (by kernel_rfl) ?_
  refine At.append (t := 38) (d := 56) (e := 51) (es := 17) (bytes := 168) (s := .tmp 51) (x := .tmp 55) (S := .ref 6) (T := .ref 155) (xs := (s.outs.map encOut)) (ys := (([(⟨i, ⟨3, s.r.id, s.r.hard.term, e1 - 1, termAt s.r.hard.log (e1 - 1), s.r.commit, false, 0, 0, ⟨#[]⟩, ⟨0, 0, 0, 0, ⟨#[]⟩⟩, ((s.r.hard.log.drop ((e1 - 1).toNat)).take (((min (e1 + 5) (s.r.hard.log.length : Int)).toNat) - ((e1 - 1).toNat)))⟩⟩ : Out)]).map encOut)) 156 [6] [155] ((s.outs ++ ([(⟨i, ⟨3, s.r.id, s.r.hard.term, e1 - 1, termAt s.r.hard.log (e1 - 1), s.r.commit, false, 0, 0, ⟨#[]⟩, ⟨0, 0, 0, 0, ⟨#[]⟩⟩, ((s.r.hard.log.drop ((e1 - 1).toNat)).take (((min (e1 + 5) (s.r.hard.log.length : Int)).toNat) - ((e1 - 1).toNat)))⟩⟩ : Out)])).map encOut) (by kernel_rfl) (by kernel_rfl) (by kernel_rfl) (by kernel_rfl) ⟨by kernel_rfl, rfl⟩ ⟨by kernel_rfl, .inr rfl⟩ (by kernel_rfl) (by kernel_rfl) (by simp) (by simp only [List.length_map, List.length_append, List.length_take, List.length_drop, List.length_replicate, List.length_set, List.length_cons, List.length_nil]; omega) (by simp only [List.length_map, List.length_append, List.length_take, List.length_drop, List.length_replicate, List.length_set, List.length_cons, List.length_nil]; omega) ?_
  refine At.a 3 ?_
  refine At.done rfl ⟨by kernel_rfl, ?_⟩
  refine ⟨_, Sub.refl _ _, ?_⟩
  refine KF.conv (fun w => .tup []) (fun w => [.box 102 [.int .i64 w.r.id, .int .i64 w.r.of_, .int .i64 w.r.role, .int .i64 w.r.commit, .int .i64 w.r.hard.term, .int .i64 w.r.hard.vote, .ref 1, .ref 2, .ref 3, .ref 4, .int .i64 w.was.id, .int .i64 w.was.of_, .int .i64 w.was.role, .int .i64 w.was.commit, .int .i64 w.was.hard.term, .int .i64 w.was.hard.vote, .sl false 6 (w.was.hard.log.map encEnt), .sl false 1 (w.was.yes.map encI), .sl false 1 (w.was.next.map encI), .sl false 1 (w.was.match_.map encI), .ref 5, .ref 7], .arr 45 6 (w.r.hard.log.map encEnt), .arr 3 1 (w.r.yes.map encI), .arr 3 1 (w.r.next.map encI), .arr 3 1 (w.r.match_.map encI), .arr 47 10 (w.recs.map encRec), .dead, .arr 51 17 (w.outs.map encOut)]) (show ((⟨s.r, s.was, s.recs, s.outs ++ ([(⟨i, ⟨3, s.r.id, s.r.hard.term, e1 - 1, termAt s.r.hard.log (e1 - 1), s.r.commit, false, 0, 0, ⟨#[]⟩, ⟨0, 0, 0, 0, ⟨#[]⟩⟩, ((s.r.hard.log.drop ((e1 - 1).toNat)).take (((min (e1 + 5) (s.r.hard.log.length : Int)).toNat) - ((e1 - 1).toNat)))⟩⟩ : Out)])⟩ : Stepper)) = (({ s with outs := s.outs ++ [sendOf s.r i] } : Stepper)) from by simp only [sendOf, nextOf, he1, Option.getD_some]; rw [takeMin _ _ 6 _ (by omega)]; rfl) ?_
  exact KF.m [(0, 0), (1, 1), (2, 2), (3, 3), (4, 4), (5, 5), (6, 6), (156, 7)] []
set_option maxRecDepth 100000 in
set_option maxHeartbeats 4000000 in
theorem impl_stepper_commit_spec  (s : Stepper) (hz : SmallR s.r) (hc : 0 ≤ s.r.commit) (ho : 0 ≤ s.r.of_ ∧ s.r.of_ ≤ 5) (hm : (s.r.match_.length : Int) = s.r.of_) : FnSpec Tryz.prog 107 [.ptr 0 0 0] [.box 102 [.int .i64 s.r.id, .int .i64 s.r.of_, .int .i64 s.r.role, .int .i64 s.r.commit, .int .i64 s.r.hard.term, .int .i64 s.r.hard.vote, .ref 1, .ref 2, .ref 3, .ref 4, .int .i64 s.was.id, .int .i64 s.was.of_, .int .i64 s.was.role, .int .i64 s.was.commit, .int .i64 s.was.hard.term, .int .i64 s.was.hard.vote, .sl false 6 (s.was.hard.log.map encEnt), .sl false 1 (s.was.yes.map encI), .sl false 1 (s.was.next.map encI), .sl false 1 (s.was.match_.map encI), .ref 5, .ref 6], .arr 45 6 (s.r.hard.log.map encEnt), .arr 3 1 (s.r.yes.map encI), .arr 3 1 (s.r.next.map encI), .arr 3 1 (s.r.match_.map encI), .arr 47 10 (s.recs.map encRec), .arr 51 17 (s.outs.map encOut)] (.tup []) [.box 102 [.int .i64 s.r.id, .int .i64 s.r.of_, .int .i64 s.r.role, .int .i64 (commitOf s.r), .int .i64 s.r.hard.term, .int .i64 s.r.hard.vote, .ref 1, .ref 2, .ref 3, .ref 4, .int .i64 s.was.id, .int .i64 s.was.of_, .int .i64 s.was.role, .int .i64 s.was.commit, .int .i64 s.was.hard.term, .int .i64 s.was.hard.vote, .sl false 6 (s.was.hard.log.map encEnt), .sl false 1 (s.was.yes.map encI), .sl false 1 (s.was.next.map encI), .sl false 1 (s.was.match_.map encI), .ref 5, .ref 6], .arr 45 6 (s.r.hard.log.map encEnt), .arr 3 1 (s.r.yes.map encI), .arr 3 1 (s.r.next.map encI), .arr 3 1 (s.r.match_.map encI), .arr 47 10 (s.recs.map encRec), .arr 51 17 (s.outs.map encOut)] := by
  obtain ⟨z1, z2, z3, z4⟩ := id hz
  refine FnSpec.of 65 Tryz.func107 rfl Tryz.ntmps107 (by simp) (AW.weakK ?_)
  refine AW.r ?_
  refine At.a 7 ?_
  refine At.done rfl ?_
  refine AW.r ?_
  refine At.a 2 ?_
  refine At.sL 14 encEnt s.r.hard.log ?_
  refine At.a 1 ?_
  refine At.done rfl ?_
  refine AW.block ?_
  refine AW.loopW (fun (x : Int × Int) => match x with | (n, q) => Go.Sy.mk [.ptr 0 0 0, .un, .ref 1, .int .i64 n] [(0, .box 102 [.int .i64 s.r.id, .int .i64 s.r.of_, .int .i64 s.r.role, .int .i64 q, .int .i64 s.r.hard.term, .int .i64 s.r.hard.vote, .ref 1, .ref 2, .ref 3, .ref 4, .int .i64 s.was.id, .int .i64 s.was.of_, .int .i64 s.was.role, .int .i64 s.was.commit, .int .i64 s.was.hard.term, .int .i64 s.was.hard.vote, .sl false 6 (s.was.hard.log.map encEnt), .sl false 1 (s.was.yes.map encI), .sl false 1 (s.was.next.map encI), .sl false 1 (s.was.match_.map encI), .ref 5, .ref 6]), (1, .arr 45 6 (s.r.hard.log.map encEnt)), (2, .arr 3 1 (s.r.yes.map encI)), (3, .arr 3 1 (s.r.next.map encI)), (4, .arr 3 1 (s.r.match_.map encI)), (5, .arr 47 10 (s.recs.map encRec)), (6, .arr 51 17 (s.outs.map encOut))]) (fun (x : Int × Int) => match x with | (n, q) => (0 ≤ q ∧ n ≤ s.r.hard.log.length ∧ -1 ≤ n) ∧ CInv s.r n q) (fun (x : Int × Int) => match x with | (n, q) => (n + 1).toNat) ((s.r.hard.log.length : Int), s.r.commit) ⟨by omega, CInv.start _⟩ (Sub.o [(0, 0), (1, 1), (2, 2), (3, 3), (4, 4), (5, 5), (6, 6)] [true, false, true, true]) ?_
  rintro ⟨n, q⟩ ⟨hn, hR⟩
  refine AW.seq ?_
  refine AW.r ?_
  refine At.a 7 ?_
  refine At.done rfl ?_
  refine AW.cD (n > q) (fun h1 => ?_) (fun h1 => ?_)
  · skip
    refine AW.skip ?_
    refine AW.seq ?_
    refine AW.block ?_
    refine AW.r ?_
    refine At.a 1 ?_
    refine At.done rfl ?_
    refine AW.seq ?_
    refine AW.r ?_
    refine At.a 6 ?_
    refine At.sL 29 encI s.r.match_ ?_
    refine At.a 1 ?_
    refine At.done rfl ?_
    refine AW.block ?_
    refine AW.loopW (fun (x : Nat × Int) => match x with | (i, c) => Go.Sy.mk [.ptr 0 0 0, .un, .ref 1, .int .i64 n, .int .i64 c, .un, .un, .un, .un, .un, .un, .un, .un, .un, .un, .un, .un, .un, .un, .un, .un, .un, .un, .un, .un, .un, .un, .un, .ref 4, .int .i64 (s.r.match_.length : Int), .int .i64 (i : Int)] [(0, .box 102 [.int .i64 s.r.id, .int .i64 s.r.of_, .int .i64 s.r.role, .int .i64 q, .int .i64 s.r.hard.term, .int .i64 s.r.hard.vote, .ref 1, .ref 2, .ref 3, .ref 4, .int .i64 s.was.id, .int .i64 s.was.of_, .int .i64 s.was.role, .int .i64 s.was.commit, .int .i64 s.was.hard.term, .int .i64 s.was.hard.vote, .sl false 6 (s.was.hard.log.map encEnt), .sl false 1 (s.was.yes.map encI), .sl false 1 (s.was.next.map encI), .sl false 1 (s.was.match_.map encI), .ref 5, .ref 6]), (1, .arr 45 6 (s.r.hard.log.map encEnt)), (2, .arr 3 1 (s.r.yes.map encI)), (3, .arr 3 1 (s.r.next.map encI)), (4, .arr 3 1 (s.r.match_.map encI)), (5, .arr 47 10 (s.recs.map encRec)), (6, .arr 51 17 (s.outs.map encOut))]) (fun (x : Nat × Int) => match x with | (i, c) => (i : Int) ≤ s.r.match_.length ∧ (0 ≤ c ∧ c ≤ i) ∧ c = cntGe (s.r.match_.take i) n) (fun (x : Nat × Int) => match x with | (i, c) => (s.r.match_.length : Int).toNat - i) (0, 0) ⟨by omega, by omega, by simp [cntGe]⟩ (Sub.o [(0, 0), (1, 1), (2, 2), (3, 3), (4, 4), (5, 5), (6, 6)] [true, false, true, true, true, false, false, false, false, false, false, false, false, false, false, false, false, false, false, false, false, false, false, false, false, false, false, false, true, true, true]) ?_
    rintro ⟨i, c⟩ ⟨hi, hc1, hc2⟩
    refine AW.r ?_
    refine At.a 1 ?_
    refine At.done rfl ?_
    refine AW.seq ?_
    refine AW.cD ((i : Int) < (s.r.match_.length : Int)) (fun h2 => ?_) (fun h2 => ?_)
    · skip
      refine AW.skip ?_
      refine AW.seq ?_
      refine AW.block ?_
      refine AW.r ?_
      refine At.iRf 27 32 (.tmp 28) (.tmp 30) 4 (s.r.match_.map encI) .i64 (i : Int) 3 1 (by omega) (by simp only [List.length_map, List.length_append, List.length_take, List.length_drop, List.length_replicate, List.length_set, List.length_cons, List.length_nil]; omega) ?_
      refine Exists.elim (show ∃ e, s.r.match_[i]? = some e from ⟨_, List.getElem?_eq_getElem (by omega)⟩) fun e1 he1 => ?_
      refine At.lEl 3 33 (.tmp 32) 4 3 1 (s.r.match_.map encI) i 0 false 1 (encI e1) (.int .i64 e1) (mapGet he1) ?_
      refine At.a 1 ?_
      refine At.done rfl ?_
      refine AW.r ?_
      refine At.a 3 ?_
      refine At.done rfl ?_
      refine AW.cD (e1 ≥ n) (fun h3 => ?_) (fun h3 => ?_)
      · skip
        refine AW.region (At.start ?_)
        refine At.a 2 ?_
        refine At.sI 38 (c + 1) (by omega) ?_
        refine At.a 1 ?_
        refine At.done rfl ?_
        refine AW.region (At.start ?_)
        refine At.a 1 ?_
        refine At.sI 39 ((i : Int) + 1) (by omega) ?_
        refine At.a 1 ?_
        refine At.done rfl ?_
        exact ⟨(i + 1, (c + 1)), ⟨by omega, by omega, by rw [cntGe_step (by assumption), ← hc2]; first | (rw [if_pos (by assumption)]; done) | (rw [if_neg (by assumption)]; omega)⟩, (by simp only; omega), Sub.o [(0, 0), (1, 1), (2, 2), (3, 3), (4, 4), (5, 5), (6, 6)] [true, false, true, true, true, false, false, false, false, false, false, false, false, false, false, false, false, false, false, false, false, false, false, false, false, false, false, false, true, true, true]⟩
      · skip
        refine AW.skip ?_
        refine AW.region (At.start ?_)
        refine At.a 1 ?_
        refine At.sI 39 ((i : Int) + 1) (by omega) ?_
        refine At.a 1 ?_
        refine At.done rfl ?_
        exact ⟨(i + 1, c), ⟨by omega, by omega, by rw [cntGe_step (by assumption), ← hc2]; first | (rw [if_pos (by assumption)]; done) | (rw [if_neg (by assumption)]; omega)⟩, (by simp only; omega), Sub.o [(0, 0), (1, 1), (2, 2), (3, 3), (4, 4), (5, 5), (6, 6)] [true, false, true, true, true, false, false, false, false, false, false, false, false, false, false, false, false, false, false, false, false, false, false, false, false, false, false, false, true, true, true]⟩
    · skip
      refine AW.exit ?_
      refine AW.seq ?_
      refine AW.regionD Tryz_mix (At.start ?_)
      refine At.a 2 ?_
      refine At.c (impl_termAt_spec  s.r.hard.log n (by omega) (by omega)) Tryz.call158 false [] [] [(1, 6, (s.r.hard.log.map encEnt))] ⟨rfl, ⟨45, (s.r.hard.log.map encEnt), by kernel_rfl, FrzIs.same (allP_encEnt _)⟩, trivial⟩ ?_
      refine At.a 8 ?_
      by_cases h4 : termAt s.r.hard.log n = s.r.hard.term
      · refine At.sB 50 ((termAt s.r.hard.log n) == s.r.hard.term) true (sayET h4) ?_
        refine At.a 2 ?_
        refine At.sI 52 (2 * c) (by omega) ?_
        refine At.a 7 ?_
        refine At.done rfl ⟨by kernel_rfl, ?_⟩
        refine AW.cD ((2 * c) > s.r.of_) (fun h5 => ?_) (fun h5 => ?_)
        · skip
          refine AW.region (At.start ?_)
          refine At.a 6 ?_
          refine At.done rfl ?_
          refine AW.region (At.start ?_)
          refine At.a 2 ?_
          refine At.sI 23 (n - 1) (by omega) ?_
          refine At.a 1 ?_
          refine At.done rfl ?_
          exact ⟨(n - 1, n), ⟨by omega, by have hcc := hc2.trans (cntGe_all (by omega)); first | exact CInv.take hR (by omega) (by omega) (by simp only [mostB, Bool.and_eq_true, decide_eq_true_eq, beq_iff_eq, ← hcc]; omega) | exact CInv.skip hR (by omega) (by omega) (by rw [Bool.eq_false_iff]; simp only [mostB, Bool.and_eq_true, decide_eq_true_eq, beq_iff_eq, ← hcc, ne_eq]; omega)⟩, (by simp only; omega), Sub.o [(0, 0), (1, 1), (2, 2), (3, 3), (4, 4), (5, 5), (6, 6)] [true, false, true, true]⟩
        · skip
          refine AW.skip ?_
          refine AW.region (At.start ?_)
          refine At.a 2 ?_
          refine At.sI 23 (n - 1) (by omega) ?_
          refine At.a 1 ?_
          refine At.done rfl ?_
          exact ⟨(n - 1, q), ⟨by omega, by have hcc := hc2.trans (cntGe_all (by omega)); first | exact CInv.take hR (by omega) (by omega) (by simp only [mostB, Bool.and_eq_true, decide_eq_true_eq, beq_iff_eq, ← hcc]; omega) | exact CInv.skip hR (by omega) (by omega) (by rw [Bool.eq_false_iff]; simp only [mostB, Bool.and_eq_true, decide_eq_true_eq, beq_iff_eq, ← hcc, ne_eq]; omega)⟩, (by simp only; omega), Sub.o [(0, 0), (1, 1), (2, 2), (3, 3), (4, 4), (5, 5), (6, 6)] [true, false, true, true]⟩
      · refine At.sB 50 ((termAt s.r.hard.log n) == s.r.hard.term) false (sayEF h4) ?_
        refine At.a 9 ?_
        refine At.done rfl ⟨by kernel_rfl, ?_⟩
        refine AW.cond false (by kernel_rfl) (fun h => by cases h) (fun _ => ?_)
        refine AW.skip ?_
        refine AW.region (At.start ?_)
        refine At.a 2 ?_
        refine At.sI 23 (n - 1) (by omega) ?_
        refine At.a 1 ?_
        refine At.done rfl ?_
        exact ⟨(n - 1, q), ⟨by omega, by have hcc := hc2.trans (cntGe_all (by omega)); first | exact CInv.take hR (by omega) (by omega) (by simp only [mostB, Bool.and_eq_true, decide_eq_true_eq, beq_iff_eq, ← hcc]; omega) | exact CInv.skip hR (by omega) (by omega) (by rw [Bool.eq_false_iff]; simp only [mostB, Bool.and_eq_true, decide_eq_true_eq, beq_iff_eq, ← hcc, ne_eq]; omega)⟩, (by simp only; omega), Sub.o [(0, 0), (1, 1), (2, 2), (3, 3), (4, 4), (5, 5), (6, 6)] [true, false, true, true]⟩
  · skip
    refine AW.exit ?_
    refine ⟨_, Sub.refl _ _, ?_⟩
    refine KF.conv (fun w => .tup []) (fun w => [.box 102 [.int .i64 w.r.id, .int .i64 w.r.of_, .int .i64 w.r.role, .int .i64 w.r.commit, .int .i64 w.r.hard.term, .int .i64 w.r.hard.vote, .ref 1, .ref 2, .ref 3, .ref 4, .int .i64 w.was.id, .int .i64 w.was.of_, .int .i64 w.was.role, .int .i64 w.was.commit, .int .i64 w.was.hard.term, .int .i64 w.was.hard.vote, .sl false 6 (w.was.hard.log.map encEnt), .sl false 1 (w.was.yes.map encI), .sl false 1 (w.was.next.map encI), .sl false 1 (w.was.match_.map encI), .ref 5, .ref 6], .arr 45 6 (w.r.hard.log.map encEnt), .arr 3 1 (w.r.yes.map encI), .arr 3 1 (w.r.next.map encI), .arr 3 1 (w.r.match_.map encI), .arr 47 10 (w.recs.map encRec), .arr 51 17 (w.outs.map encOut)]) (show ((⟨⟨s.r.id, s.r.of_, s.r.role, q, ⟨s.r.hard.term, s.r.hard.vote, s.r.hard.log⟩, s.r.yes, s.r.next, s.r.match_⟩, s.was, s.recs, s.outs⟩ : Stepper)) = (({ s with r := { s.r with commit := commitOf s.r } } : Stepper)) from by rw [hR.done (by omega)]) ?_
    exact KF.m [(0, 0), (1, 1), (2, 2), (3, 3), (4, 4), (5, 5), (6, 6)] []
end Go.Proofs.YtlmadhahghiedaaGreat
