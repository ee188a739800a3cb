/- The contracts of the functions that FnExactOnSend reaches (each: what it answers, said over values), printed by a program of this session (wip/sy/g/gen.py). -/
import Derived.Test.YtlmadhahghiedaaGreatFFnExactOnSend5
set_option linter.unusedVariables false
set_option linter.unusedSimpArgs false
namespace Go.Proofs.YtlmadhahghiedaaGreat
open Go Go.Sy Go.Proofs
set_option maxRecDepth 100000 in
set_option maxHeartbeats 4000000 in
theorem laws_eqRec_spec  (a : Rec) (b : Rec) : FnSpec Tryz.prog 126 [.agg [.int .i64 a.kind, .int .i64 a.term, .int .i64 a.vote, .int .i64 a.at_, .int .i64 a.entry.term, .int .i64 a.entry.cmd.kind, .int .i64 a.entry.cmd.release, .int .i64 a.entry.cmd.node, .int .i64 a.entry.cmd.size, .str a.entry.cmd.digest], .agg [.int .i64 b.kind, .int .i64 b.term, .int .i64 b.vote, .int .i64 b.at_, .int .i64 b.entry.term, .int .i64 b.entry.cmd.kind, .int .i64 b.entry.cmd.release, .int .i64 b.entry.cmd.node, .int .i64 b.entry.cmd.size, .str b.entry.cmd.digest]] [] (.bool (recEq a b)) [] := by
  refine FnSpec.of 31 Tryz.func126 rfl Tryz.ntmps126 (by simp) (AW.weakK ?_)
  refine AW.r ?_
  refine At.a 3 ?_
  refine At.done rfl ?_
  refine AW.seq ?_
  refine AW.r ?_
  refine At.a 5 ?_
  refine At.done rfl ?_
  refine AW.cU a.kind b.kind (fun h1 => ?_) (fun h1 => ?_)
  · skip
    refine AW.r ?_
    refine At.a 1 ?_
    refine At.done rfl ?_
    refine AW.ret ?_
    refine ⟨_, Sub.refl _ _, ?_⟩
    refine KF.conv (fun w => .bool w) (fun w => []) (show (false) = (recEq a b) from by simp [recEq, *]) ?_
    exact KF.m [] [.bool false]
  · skip
    refine AW.skip ?_
    refine AW.seq ?_
    refine AW.r ?_
    refine At.a 5 ?_
    refine At.done rfl ?_
    refine AW.cU a.term b.term (fun h2 => ?_) (fun h2 => ?_)
    · skip
      refine AW.r ?_
      refine At.a 1 ?_
      refine At.done rfl ?_
      refine AW.ret ?_
      refine ⟨_, Sub.refl _ _, ?_⟩
      refine KF.conv (fun w => .bool w) (fun w => []) (show (false) = (recEq a b) from by simp [recEq, *]) ?_
      exact KF.m [] [.bool false]
    · skip
      refine AW.skip ?_
      refine AW.seq ?_
      refine AW.r ?_
      refine At.a 5 ?_
      refine At.done rfl ?_
      refine AW.cU a.vote b.vote (fun h3 => ?_) (fun h3 => ?_)
      · skip
        refine AW.r ?_
        refine At.a 1 ?_
        refine At.done rfl ?_
        refine AW.ret ?_
        refine ⟨_, Sub.refl _ _, ?_⟩
        refine KF.conv (fun w => .bool w) (fun w => []) (show (false) = (recEq a b) from by simp [recEq, *]) ?_
        exact KF.m [] [.bool false]
      · skip
        refine AW.skip ?_
        refine AW.seq ?_
        refine AW.r ?_
        refine At.a 5 ?_
        refine At.done rfl ?_
        refine AW.cU a.at_ b.at_ (fun h4 => ?_) (fun h4 => ?_)
        · skip
          refine AW.r ?_
          refine At.a 1 ?_
          refine At.done rfl ?_
          refine AW.ret ?_
          refine ⟨_, Sub.refl _ _, ?_⟩
          refine KF.conv (fun w => .bool w) (fun w => []) (show (false) = (recEq a b) from by simp [recEq, *]) ?_
          exact KF.m [] [.bool false]
        · skip
          refine AW.skip ?_
          refine AW.seq ?_
          refine AW.r ?_
          refine At.a 4 ?_
          refine At.c (laws_eqEntry_spec  a.entry b.entry ) Tryz.call166 true [] [] [] trivial ?_
          refine At.a 1 ?_
          refine At.done rfl ?_
          refine AW.cNB (entEq a.entry b.entry) (fun h5 => ?_) (fun h5 => ?_)
          · skip
            refine AW.r ?_
            refine At.a 1 ?_
            refine At.done rfl ?_
            refine AW.ret ?_
            refine ⟨_, Sub.refl _ _, ?_⟩
            refine KF.conv (fun w => .bool w) (fun w => []) (show (false) = (recEq a b) from by simp [recEq, *]) ?_
            exact KF.m [] [.bool false]
          · skip
            refine AW.skip ?_
            refine AW.r ?_
            refine At.a 1 ?_
            refine At.done rfl ?_
            refine AW.ret ?_
            refine ⟨_, Sub.refl _ _, ?_⟩
            refine KF.conv (fun w => .bool w) (fun w => []) (show (true) = (recEq a b) from by simp [recEq, *]) ?_
            exact KF.m [] [.bool true]
set_option maxRecDepth 100000 in
set_option maxHeartbeats 4000000 in
theorem laws_eqRecS_spec  (a : List Rec) (b : List Rec) (ha : a.length ≤ 1048576) (hb : b.length ≤ 1048576) : FnSpec Tryz.prog 43 [.sl false 10 (a.map encRec), .sl false 10 (b.map encRec)] [] (.bool (listEq recEq a b)) [] := by
  refine FnSpec.of 27 Tryz.func43 rfl Tryz.ntmps43 (by simp) (AW.weakK ?_)
  refine AW.r ?_
  refine At.a 1 ?_
  refine At.done rfl ?_
  refine AW.seq ?_
  refine AW.r ?_
  refine At.a 2 ?_
  refine At.sL 7 encRec a ?_
  refine At.a 2 ?_
  refine At.sL 9 encRec b ?_
  refine At.a 1 ?_
  refine At.done rfl ?_
  refine AW.cU (a.length : Int) (b.length : Int) (fun h1 => ?_) (fun h1 => ?_)
  · skip
    refine AW.r ?_
    refine At.a 1 ?_
    refine At.done rfl ?_
    refine AW.ret ?_
    refine ⟨_, Sub.refl _ _, ?_⟩
    refine KF.conv (fun w => .bool w) (fun w => []) (show (false) = (listEq recEq a b) from by rw [listEq_len (by omega)]) ?_
    exact KF.m [] [.bool false]
  · skip
    refine AW.skip ?_
    refine AW.seq ?_
    refine AW.r ?_
    refine At.a 1 ?_
    refine At.done rfl ?_
    refine AW.block ?_
    refine AW.loopW (fun (k : Nat) => Go.Sy.mk [.sl false 10 (a.map encRec), .sl false 10 (b.map encRec), .un, .un, .un, .int .i64 (k : Int)] []) (fun (k : Nat) => k ≤ a.length ∧ listEq recEq a b = listEq recEq (a.drop k) (b.drop k)) (fun (k : Nat) => a.length - k) 0 ⟨by omega, by rw [List.drop_zero, List.drop_zero]⟩ (Sub.o [] [true, true, false, false, false, true]) ?_
    rintro k ⟨hk, hR⟩
    refine AW.seq ?_
    refine AW.r ?_
    refine At.a 3 ?_
    refine At.sL 13 encRec a ?_
    refine At.a 1 ?_
    refine At.done rfl ?_
    refine AW.cD ((k : Int) < (a.length : Int)) (fun h2 => ?_) (fun h2 => ?_)
    · skip
      refine AW.skip ?_
      refine AW.seq ?_
      refine AW.block ?_
      refine AW.seq ?_
      refine AW.regionD Tryz_mix (At.start ?_)
      refine At.a 2 ?_
      refine At.iSl 37 19 (.tmp 17) (.tmp 18) false 10 (a.map encRec) .i64 (k : Int) 47 (by omega) (by simp only [List.length_map, List.length_append, List.length_take, List.length_drop, List.length_replicate, List.length_set, List.length_cons, List.length_nil]; omega) ?_
      refine Exists.elim (show ∃ e, a[k]? = some e from ⟨_, List.getElem?_eq_getElem (by omega)⟩) fun e1 he1 => ?_
      refine At.lVp 47 20 (.tmp 19) false 10 (a.map encRec) k 0 true 10 (encRec e1) (.agg [.int .i64 e1.kind, .int .i64 e1.term, .int .i64 e1.vote, .int .i64 e1.at_, .int .i64 e1.entry.term, .int .i64 e1.entry.cmd.kind, .int .i64 e1.entry.cmd.release, .int .i64 e1.entry.cmd.node, .int .i64 e1.entry.cmd.size, .str e1.entry.cmd.digest]) (mapGet he1) ?_
      refine At.a 2 ?_
      refine At.iSl 37 23 (.tmp 21) (.tmp 22) false 10 (b.map encRec) .i64 (k : Int) 47 (by omega) (by simp only [List.length_map, List.length_append, List.length_take, List.length_drop, List.length_replicate, List.length_set, List.length_cons, List.length_nil]; omega) ?_
      refine Exists.elim (show ∃ e, b[k]? = some e from ⟨_, List.getElem?_eq_getElem (by omega)⟩) fun e2 he2 => ?_
      refine At.lVp 47 24 (.tmp 23) false 10 (b.map encRec) k 0 true 10 (encRec e2) (.agg [.int .i64 e2.kind, .int .i64 e2.term, .int .i64 e2.vote, .int .i64 e2.at_, .int .i64 e2.entry.term, .int .i64 e2.entry.cmd.kind, .int .i64 e2.entry.cmd.release, .int .i64 e2.entry.cmd.node, .int .i64 e2.entry.cmd.size, .str e2.entry.cmd.digest]) (mapGet he2) ?_
      refine At.c (laws_eqRec_spec  e1 e2 ) Tryz.call126 true [] [] [] trivial ?_
      refine At.a 1 ?_
      refine At.done rfl ⟨by kernel_rfl, ?_⟩
      refine AW.cNB (recEq e1 e2) (fun h3 => ?_) (fun h3 => ?_)
      · skip
        refine AW.r ?_
        refine At.a 1 ?_
        refine At.done rfl ?_
        refine AW.ret ?_
        refine ⟨_, Sub.refl _ _, ?_⟩
        refine KF.conv (fun w => .bool w) (fun w => []) (show (false) = (listEq recEq a b) from by rw [hR, dropCons he1, dropCons he2, listEq]; simp [eqI, *]) ?_
        exact KF.m [] [.bool false]
      · skip
        refine AW.skip ?_
        refine AW.region (At.start ?_)
        refine At.a 2 ?_
        refine At.sI 16 ((k : Int) + 1) (by omega) ?_
        refine At.a 1 ?_
        refine At.done rfl ?_
        exact ⟨k + 1, ⟨by omega, by rw [hR, dropCons he1, dropCons he2, listEq]; simp [eqI, *]⟩, (by omega), Sub.o [] [true, true, false, false, false, true]⟩
    · skip
      refine AW.exit ?_
      refine AW.r ?_
      refine At.a 1 ?_
      refine At.done rfl ?_
      refine AW.ret ?_
      refine ⟨_, Sub.refl _ _, ?_⟩
      refine KF.conv (fun w => .bool w) (fun w => []) (show (true) = (listEq recEq a b) from by rw [hR, List.drop_of_length_le (by omega), List.drop_of_length_le (by omega)]; rfl) ?_
      exact KF.m [] [.bool true]
set_option maxRecDepth 100000 in
set_option maxHeartbeats 4000000 in
theorem laws_eqMsg_spec  (a : Msg) (b : Msg) (ha : a.entries.length ≤ 1048576) (hb : b.entries.length ≤ 1048576) : FnSpec Tryz.prog 45 [.agg [.int .i64 a.kind, .int .i64 a.from_, .int .i64 a.term, .int .i64 a.at_, .int .i64 a.atTerm, .int .i64 a.commit, .bool a.yes, .int .i64 a.release, .int .i64 a.part, .str a.bytes, .int .i64 a.cmd.kind, .int .i64 a.cmd.release, .int .i64 a.cmd.node, .int .i64 a.cmd.size, .str a.cmd.digest, .sl false 6 (a.entries.map encEnt)], .agg [.int .i64 b.kind, .int .i64 b.from_, .int .i64 b.term, .int .i64 b.at_, .int .i64 b.atTerm, .int .i64 b.commit, .bool b.yes, .int .i64 b.release, .int .i64 b.part, .str b.bytes, .int .i64 b.cmd.kind, .int .i64 b.cmd.release, .int .i64 b.cmd.node, .int .i64 b.cmd.size, .str b.cmd.digest, .sl false 6 (b.entries.map encEnt)]] [] (.bool (msgEq a b)) [] := by
  refine FnSpec.of 67 Tryz.func45 rfl Tryz.ntmps45 (by simp) (AW.weakK ?_)
  refine AW.r ?_
  refine At.a 3 ?_
  refine At.done rfl ?_
  refine AW.seq ?_
  refine AW.r ?_
  refine At.a 5 ?_
  refine At.done rfl ?_
  refine AW.cU a.kind b.kind (fun h1 => ?_) (fun h1 => ?_)
  · skip
    refine AW.r ?_
    refine At.a 1 ?_
    refine At.done rfl ?_
    refine AW.ret ?_
    refine ⟨_, Sub.refl _ _, ?_⟩
    refine KF.conv (fun w => .bool w) (fun w => []) (show (false) = (msgEq a b) from by simp [msgEq, h1]) ?_
    exact KF.m [] [.bool false]
  · skip
    refine AW.skip ?_
    refine AW.seq ?_
    refine AW.r ?_
    refine At.a 5 ?_
    refine At.done rfl ?_
    refine AW.cU a.from_ b.from_ (fun h2 => ?_) (fun h2 => ?_)
    · skip
      refine AW.r ?_
      refine At.a 1 ?_
      refine At.done rfl ?_
      refine AW.ret ?_
      refine ⟨_, Sub.refl _ _, ?_⟩
      refine KF.conv (fun w => .bool w) (fun w => []) (show (false) = (msgEq a b) from by simp [msgEq, h1, h2]) ?_
      exact KF.m [] [.bool false]
    · skip
      refine AW.skip ?_
      refine AW.seq ?_
      refine AW.r ?_
      refine At.a 5 ?_
      refine At.done rfl ?_
      refine AW.cU a.term b.term (fun h3 => ?_) (fun h3 => ?_)
      · skip
        refine AW.r ?_
        refine At.a 1 ?_
        refine At.done rfl ?_
        refine AW.ret ?_
        refine ⟨_, Sub.refl _ _, ?_⟩
        refine KF.conv (fun w => .bool w) (fun w => []) (show (false) = (msgEq a b) from by simp [msgEq, h1, h2, h3]) ?_
        exact KF.m [] [.bool false]
      · skip
        refine AW.skip ?_
        refine AW.seq ?_
        refine AW.r ?_
        refine At.a 5 ?_
        refine At.done rfl ?_
        refine AW.cU a.at_ b.at_ (fun h4 => ?_) (fun h4 => ?_)
        · skip
          refine AW.r ?_
          refine At.a 1 ?_
          refine At.done rfl ?_
          refine AW.ret ?_
          refine ⟨_, Sub.refl _ _, ?_⟩
          refine KF.conv (fun w => .bool w) (fun w => []) (show (false) = (msgEq a b) from by simp [msgEq, h1, h2, h3, h4]) ?_
          exact KF.m [] [.bool false]
        · skip
          refine AW.skip ?_
          refine AW.seq ?_
          refine AW.r ?_
          refine At.a 5 ?_
          refine At.done rfl ?_
          refine AW.cU a.atTerm b.atTerm (fun h5 => ?_) (fun h5 => ?_)
          · skip
            refine AW.r ?_
            refine At.a 1 ?_
            refine At.done rfl ?_
            refine AW.ret ?_
            refine ⟨_, Sub.refl _ _, ?_⟩
            refine KF.conv (fun w => .bool w) (fun w => []) (show (false) = (msgEq a b) from by simp [msgEq, h1, h2, h3, h4, h5]) ?_
            exact KF.m [] [.bool false]
          · skip
            refine AW.skip ?_
            refine AW.seq ?_
            refine AW.r ?_
            refine At.a 5 ?_
            refine At.done rfl ?_
            refine AW.cU a.commit b.commit (fun h6 => ?_) (fun h6 => ?_)
            · skip
              refine AW.r ?_
              refine At.a 1 ?_
              refine At.done rfl ?_
              refine AW.ret ?_
              refine ⟨_, Sub.refl _ _, ?_⟩
              refine KF.conv (fun w => .bool w) (fun w => []) (show (false) = (msgEq a b) from by simp [msgEq, h1, h2, h3, h4, h5, h6]) ?_
              exact KF.m [] [.bool false]
            · skip
              refine AW.skip ?_
              refine AW.seq ?_
              refine AW.r ?_
              refine At.a 4 ?_
              refine At.eqB (t := 4) (u := 4) (d := 39) (op := .neq) (x := .tmp 36) (y := .tmp 38) (a := a.yes) (b := b.yes) (by kernel_rfl) (by kernel_rfl) (by kernel_rfl) (by kernel_rfl) (by kernel_rfl) (.bool (!(a.yes == b.yes))) (.inr ⟨rfl, rfl⟩) ?_
              refine At.done rfl ?_
              refine AW.cNB (a.yes == b.yes) (fun h7 => ?_) (fun h7 => ?_)
              · skip
                refine AW.r ?_
                refine At.a 1 ?_
                refine At.done rfl ?_
                refine AW.ret ?_
                refine ⟨_, Sub.refl _ _, ?_⟩
                refine KF.conv (fun w => .bool w) (fun w => []) (show (false) = (msgEq a b) from by simp [msgEq, h1, h2, h3, h4, h5, h6, h7]) ?_
                exact KF.m [] [.bool false]
              · skip
                refine AW.skip ?_
                refine AW.seq ?_
                refine AW.r ?_
                refine At.a 5 ?_
                refine At.done rfl ?_
                refine AW.cU a.release b.release (fun h8 => ?_) (fun h8 => ?_)
                · skip
                  refine AW.r ?_
                  refine At.a 1 ?_
                  refine At.done rfl ?_
                  refine AW.ret ?_
                  refine ⟨_, Sub.refl _ _, ?_⟩
                  refine KF.conv (fun w => .bool w) (fun w => []) (show (false) = (msgEq a b) from by simp [msgEq, h1, h2, h3, h4, h5, h6, h7, h8]) ?_
                  exact KF.m [] [.bool false]
                · skip
                  refine AW.skip ?_
                  refine AW.seq ?_
                  refine AW.r ?_
                  refine At.a 5 ?_
                  refine At.done rfl ?_
                  refine AW.cU a.part b.part (fun h9 => ?_) (fun h9 => ?_)
                  · skip
                    refine AW.r ?_
                    refine At.a 1 ?_
                    refine At.done rfl ?_
                    refine AW.ret ?_
                    refine ⟨_, Sub.refl _ _, ?_⟩
                    refine KF.conv (fun w => .bool w) (fun w => []) (show (false) = (msgEq a b) from by simp [msgEq, h1, h2, h3, h4, h5, h6, h7, h8, h9]) ?_
                    exact KF.m [] [.bool false]
                  · skip
                    refine AW.skip ?_
                    refine AW.seq ?_
                    refine AW.r ?_
                    refine At.a 5 ?_
                    refine At.done rfl ?_
                    refine AW.cNE (a.bytes.toList) (b.bytes.toList) (fun h10 => ?_) (fun h10 => ?_)
                    · skip
                      refine AW.r ?_
                      refine At.a 1 ?_
                      refine At.done rfl ?_
                      refine AW.ret ?_
                      refine ⟨_, Sub.refl _ _, ?_⟩
                      refine KF.conv (fun w => .bool w) (fun w => []) (show (false) = (msgEq a b) from by simp [msgEq, h1, h2, h3, h4, h5, h6, h7, h8, h9, h10]) ?_
                      exact KF.m [] [.bool false]
                    · skip
                      refine AW.skip ?_
                      refine AW.seq ?_
                      refine AW.r ?_
                      refine At.a 4 ?_
                      refine At.c (laws_eqCmd_spec  a.cmd b.cmd ) Tryz.call128 true [] [] [] trivial ?_
                      refine At.a 1 ?_
                      refine At.done rfl ?_
                      refine AW.cNB (cmdEq a.cmd b.cmd) (fun h11 => ?_) (fun h11 => ?_)
                      · skip
                        refine AW.r ?_
                        refine At.a 1 ?_
                        refine At.done rfl ?_
                        refine AW.ret ?_
                        refine ⟨_, Sub.refl _ _, ?_⟩
                        refine KF.conv (fun w => .bool w) (fun w => []) (show (false) = (msgEq a b) from by simp [msgEq, h1, h2, h3, h4, h5, h6, h7, h8, h9, h10, h11]) ?_
                        exact KF.m [] [.bool false]
                      · skip
                        refine AW.skip ?_
                        refine AW.seq ?_
                        refine AW.r ?_
                        refine At.a 4 ?_
                        refine At.c (laws_eqEntryS_spec  a.entries b.entries (by omega) (by omega)) Tryz.call129 true [] [] [] trivial ?_
                        refine At.a 1 ?_
                        refine At.done rfl ?_
                        refine AW.cNB (listEq entEq a.entries b.entries) (fun h12 => ?_) (fun h12 => ?_)
                        · skip
                          refine AW.r ?_
                          refine At.a 1 ?_
                          refine At.done rfl ?_
                          refine AW.ret ?_
                          refine ⟨_, Sub.refl _ _, ?_⟩
                          refine KF.conv (fun w => .bool w) (fun w => []) (show (false) = (msgEq a b) from by simp [msgEq, h1, h2, h3, h4, h5, h6, h7, h8, h9, h10, h11, h12]) ?_
                          exact KF.m [] [.bool false]
                        · skip
                          refine AW.skip ?_
                          refine AW.r ?_
                          refine At.a 1 ?_
                          refine At.done rfl ?_
                          refine AW.ret ?_
                          refine ⟨_, Sub.refl _ _, ?_⟩
                          refine KF.conv (fun w => .bool w) (fun w => []) (show (true) = (msgEq a b) from by simp [msgEq, h1, h2, h3, h4, h5, h6, h7, h8, h9, h10, h11, h12]) ?_
                          exact KF.m [] [.bool true]
set_option maxRecDepth 100000 in
set_option maxHeartbeats 4000000 in
theorem laws_eqOut_spec  (a : Out) (b : Out) (ha : a.msg.entries.length ≤ 1048576) (hb : b.msg.entries.length ≤ 1048576) : FnSpec Tryz.prog 127 [.agg [.int .i64 a.to, .int .i64 a.msg.kind, .int .i64 a.msg.from_, .int .i64 a.msg.term, .int .i64 a.msg.at_, .int .i64 a.msg.atTerm, .int .i64 a.msg.commit, .bool a.msg.yes, .int .i64 a.msg.release, .int .i64 a.msg.part, .str a.msg.bytes, .int .i64 a.msg.cmd.kind, .int .i64 a.msg.cmd.release, .int .i64 a.msg.cmd.node, .int .i64 a.msg.cmd.size, .str a.msg.cmd.digest, .sl false 6 (a.msg.entries.map encEnt)], .agg [.int .i64 b.to, .int .i64 b.msg.kind, .int .i64 b.msg.from_, .int .i64 b.msg.term, .int .i64 b.msg.at_, .int .i64 b.msg.atTerm, .int .i64 b.msg.commit, .bool b.msg.yes, .int .i64 b.msg.release, .int .i64 b.msg.part, .str b.msg.bytes, .int .i64 b.msg.cmd.kind, .int .i64 b.msg.cmd.release, .int .i64 b.msg.cmd.node, .int .i64 b.msg.cmd.size, .str b.msg.cmd.digest, .sl false 6 (b.msg.entries.map encEnt)]] [] (.bool (outEq a b)) [] := by
  refine FnSpec.of 16 Tryz.func127 rfl Tryz.ntmps127 (by simp) (AW.weakK ?_)
  refine AW.r ?_
  refine At.a 3 ?_
  refine At.done rfl ?_
  refine AW.seq ?_
  refine AW.r ?_
  refine At.a 5 ?_
  refine At.done rfl ?_
  refine AW.cU a.to b.to (fun h1 => ?_) (fun h1 => ?_)
  · skip
    refine AW.r ?_
    refine At.a 1 ?_
    refine At.done rfl ?_
    refine AW.ret ?_
    refine ⟨_, Sub.refl _ _, ?_⟩
    refine KF.conv (fun w => .bool w) (fun w => []) (show (false) = (outEq a b) from by simp [outEq, h1]) ?_
    exact KF.m [] [.bool false]
  · skip
    refine AW.skip ?_
    refine AW.seq ?_
    refine AW.r ?_
    refine At.a 4 ?_
    refine At.c (laws_eqMsg_spec  a.msg b.msg (by omega) (by omega)) Tryz.call45 true [] [] [] trivial ?_
    refine At.a 1 ?_
    refine At.done rfl ?_
    refine AW.cNB (msgEq a.msg b.msg) (fun h2 => ?_) (fun h2 => ?_)
    · skip
      refine AW.r ?_
      refine At.a 1 ?_
      refine At.done rfl ?_
      refine AW.ret ?_
      refine ⟨_, Sub.refl _ _, ?_⟩
      refine KF.conv (fun w => .bool w) (fun w => []) (show (false) = (outEq a b) from by simp [outEq, h1, h2]) ?_
      exact KF.m [] [.bool false]
    · skip
      refine AW.skip ?_
      refine AW.r ?_
      refine At.a 1 ?_
      refine At.done rfl ?_
      refine AW.ret ?_
      refine ⟨_, Sub.refl _ _, ?_⟩
      refine KF.conv (fun w => .bool w) (fun w => []) (show (true) = (outEq a b) from by simp [outEq, h1, h2]) ?_
      exact KF.m [] [.bool true]
set_option maxRecDepth 100000 in
set_option maxHeartbeats 4000000 in
theorem laws_eqOutS_spec  (a : List Out) (b : List Out) (ha : a.length ≤ 1048576) (hb : b.length ≤ 1048576) (hea : ∀ o ∈ a, o.msg.entries.length ≤ 1048576) (heb : ∀ o ∈ b, o.msg.entries.length ≤ 1048576) : FnSpec Tryz.prog 44 [.sl false 17 (a.map encOutV), .sl false 17 (b.map encOutV)] [] (.bool (listEq outEq a b)) [] := by
  refine FnSpec.of 27 Tryz.func44 rfl Tryz.ntmps44 (by simp) (AW.weakK ?_)
  refine AW.r ?_
  refine At.a 1 ?_
  refine At.done rfl ?_
  refine AW.seq ?_
  refine AW.r ?_
  refine At.a 2 ?_
  refine At.sL 7 encOutV a ?_
  refine At.a 2 ?_
  refine At.sL 9 encOutV b ?_
  refine At.a 1 ?_
  refine At.done rfl ?_
  refine AW.cU (a.length : Int) (b.length : Int) (fun h1 => ?_) (fun h1 => ?_)
  · skip
    refine AW.r ?_
    refine At.a 1 ?_
    refine At.done rfl ?_
    refine AW.ret ?_
    refine ⟨_, Sub.refl _ _, ?_⟩
    refine KF.conv (fun w => .bool w) (fun w => []) (show (false) = (listEq outEq a b) from by rw [listEq_len (by omega)]) ?_
    exact KF.m [] [.bool false]
  · skip
    refine AW.skip ?_
    refine AW.seq ?_
    refine AW.r ?_
    refine At.a 1 ?_
    refine At.done rfl ?_
    refine AW.block ?_
    refine AW.loopW (fun (k : Nat) => Go.Sy.mk [.sl false 17 (a.map encOutV), .sl false 17 (b.map encOutV), .un, .un, .un, .int .i64 (k : Int)] []) (fun (k : Nat) => k ≤ a.length ∧ listEq outEq a b = listEq outEq (a.drop k) (b.drop k)) (fun (k : Nat) => a.length - k) 0 ⟨by omega, by rw [List.drop_zero, List.drop_zero]⟩ (Sub.o [] [true, true, false, false, false, true]) ?_
    rintro k ⟨hk, hR⟩
    refine AW.seq ?_
    refine AW.r ?_
    refine At.a 3 ?_
    refine At.sL 13 encOutV a ?_
    refine At.a 1 ?_
    refine At.done rfl ?_
    refine AW.cD ((k : Int) < (a.length : Int)) (fun h2 => ?_) (fun h2 => ?_)
    · skip
      refine AW.skip ?_
      refine AW.seq ?_
      refine AW.block ?_
      refine AW.seq ?_
      refine AW.regionD Tryz_mix (At.start ?_)
      refine At.a 2 ?_
      refine At.iSl 38 19 (.tmp 17) (.tmp 18) false 17 (a.map encOutV) .i64 (k : Int) 51 (by omega) (by simp only [List.length_map, List.length_append, List.length_take, List.length_drop, List.length_replicate, List.length_set, List.length_cons, List.length_nil]; omega) ?_
      refine Exists.elim (show ∃ e, a[k]? = some e from ⟨_, List.getElem?_eq_getElem (by omega)⟩) fun e1 he1 => ?_
      refine At.lVp 51 20 (.tmp 19) false 17 (a.map encOutV) k 0 true 17 (encOutV e1) (.agg [.int .i64 e1.to, .int .i64 e1.msg.kind, .int .i64 e1.msg.from_, .int .i64 e1.msg.term, .int .i64 e1.msg.at_, .int .i64 e1.msg.atTerm, .int .i64 e1.msg.commit, .bool e1.msg.yes, .int .i64 e1.msg.release, .int .i64 e1.msg.part, .str e1.msg.bytes, .int .i64 e1.msg.cmd.kind, .int .i64 e1.msg.cmd.release, .int .i64 e1.msg.cmd.node, .int .i64 e1.msg.cmd.size, .str e1.msg.cmd.digest, .sl false 6 (e1.msg.entries.map encEnt)]) (mapGet he1) ?_
      refine At.a 2 ?_
      refine At.iSl 38 23 (.tmp 21) (.tmp 22) false 17 (b.map encOutV) .i64 (k : Int) 51 (by omega) (by simp only [List.length_map, List.length_append, List.length_take, List.length_drop, List.length_replicate, List.length_set, List.length_cons, List.length_nil]; omega) ?_
      refine Exists.elim (show ∃ e, b[k]? = some e from ⟨_, List.getElem?_eq_getElem (by omega)⟩) fun e2 he2 => ?_
      refine At.lVp 51 24 (.tmp 23) false 17 (b.map encOutV) k 0 true 17 (encOutV e2) (.agg [.int .i64 e2.to, .int .i64 e2.msg.kind, .int .i64 e2.msg.from_, .int .i64 e2.msg.term, .int .i64 e2.msg.at_, .int .i64 e2.msg.atTerm, .int .i64 e2.msg.commit, .bool e2.msg.yes, .int .i64 e2.msg.release, .int .i64 e2.msg.part, .str e2.msg.bytes, .int .i64 e2.msg.cmd.kind, .int .i64 e2.msg.cmd.release, .int .i64 e2.msg.cmd.node, .int .i64 e2.msg.cmd.size, .str e2.msg.cmd.digest, .sl false 6 (e2.msg.entries.map encEnt)]) (mapGet he2) ?_
      refine At.c (laws_eqOut_spec  e1 e2 (hea _ (List.mem_of_getElem? he1)) (heb _ (List.mem_of_getElem? he2))) Tryz.call127 true [] [] [] trivial ?_
      refine At.a 1 ?_
      refine At.done rfl ⟨by kernel_rfl, ?_⟩
      refine AW.cNB (outEq e1 e2) (fun h3 => ?_) (fun h3 => ?_)
      · skip
        refine AW.r ?_
        refine At.a 1 ?_
        refine At.done rfl ?_
        refine AW.ret ?_
        refine ⟨_, Sub.refl _ _, ?_⟩
        refine KF.conv (fun w => .bool w) (fun w => []) (show (false) = (listEq outEq a b) from by rw [hR, dropCons he1, dropCons he2, listEq]; simp [*]) ?_
        exact KF.m [] [.bool false]
      · skip
        refine AW.skip ?_
        refine AW.region (At.start ?_)
        refine At.a 2 ?_
        refine At.sI 16 ((k : Int) + 1) (by omega) ?_
        refine At.a 1 ?_
        refine At.done rfl ?_
        exact ⟨k + 1, ⟨by omega, by rw [hR, dropCons he1, dropCons he2, listEq]; simp [*]⟩, (by omega), Sub.o [] [true, true, false, false, false, true]⟩
    · skip
      refine AW.exit ?_
      refine AW.r ?_
      refine At.a 1 ?_
      refine At.done rfl ?_
      refine AW.ret ?_
      refine ⟨_, Sub.refl _ _, ?_⟩
      refine KF.conv (fun w => .bool w) (fun w => []) (show (true) = (listEq outEq a b) from by rw [hR, List.drop_of_length_le (by omega), List.drop_of_length_le (by omega)]; rfl) ?_
      exact KF.m [] [.bool true]
set_option maxRecDepth 100000 in
set_option maxHeartbeats 4000000 in
theorem laws_markText_spec  (k : Int) (hk : k ≤ 4611686018427387904) : FnSpec Tryz.prog 133 [.int .i64 k] [] (.str (markT k)) [] := by
  refine FnSpec.of 20 Tryz.func133 rfl Tryz.ntmps133 (by simp) (AW.weakK ?_)
  refine AW.r ?_
  refine At.a 1 ?_
  refine At.done rfl ?_
  refine AW.seq ?_
  refine AW.r ?_
  refine At.a 2 ?_
  refine At.done rfl ?_
  refine AW.cD (k ≤ 0) (fun h1 => ?_) (fun h1 => ?_)
  · skip
    refine AW.r ?_
    refine At.a 1 ?_
    refine At.done rfl ?_
    refine AW.ret ?_
    refine ⟨_, Sub.refl _ _, ?_⟩
    refine KF.conv (fun w => .str w) (fun w => []) (show ((⟨#[109, 48]⟩ : ByteArray)) = (markT k) from by rw [markT, if_pos (by omega)]) ?_
    exact KF.m [] [.str (⟨#[109, 48]⟩ : ByteArray)]
  · skip
    refine AW.skip ?_
    refine AW.r ?_
    refine At.a 1 ?_
    refine At.done rfl ?_
    refine AW.seq ?_
    refine AW.block ?_
    refine AW.loopW (fun (x : Int × ByteArray) => match x with | (n, acc) => Go.Sy.mk [.int .i64 n, .un, .un, .str acc] []) (fun (x : Int × ByteArray) => match x with | (n, acc) => 0 ≤ n ∧ (acc.size : Int) + n ≤ k ∧ markGo k.toNat ⟨#[]⟩ = markGo n.toNat acc) (fun (x : Int × ByteArray) => match x with | (n, acc) => n.toNat) (k, ⟨#[]⟩) ⟨by omega, by show ((0 : Nat) : Int) + k ≤ k; omega, rfl⟩ (Sub.o [] [true, false, false, true]) ?_
    rintro ⟨n, acc⟩ ⟨hn, hs, hR⟩
    refine AW.seq ?_
    refine AW.r ?_
    refine At.a 2 ?_
    refine At.done rfl ?_
    refine AW.cD (n > 0) (fun h2 => ?_) (fun h2 => ?_)
    · skip
      refine AW.skip ?_
      refine AW.block ?_
      refine AW.r ?_
      refine At.a 1 ?_
      refine At.div (t := 3) (u := 3) (d := 9) (op := .rem) (x := .tmp 8) (y := .const (.int .i64 10)) (kd := .i64) (a := n) (b := 10) (by kernel_rfl) (by kernel_rfl) (by kernel_rfl) (by kernel_rfl) (by omega) (.int .i64 (n.tmod 10)) (.inr ⟨rfl, rfl⟩) ?_
      refine At.say 9 (.int .i64 (n.tmod 10)) (.int .i64 (n % 10)) (by kernel_rfl) (sayRem (by omega)) ?_
      refine At.a 1 ?_
      refine At.sI 10 (48 + (n % 10)) (by omega) ?_
      refine At.conv (s := 3) (t := 5) (d := 11) (x := .tmp 10) (kd := .i64) (kd' := .u8) (a := 48 + (n % 10)) (.int .u8 ((u8Of (48 + (n % 10))).toNat : Int)) (by kernel_rfl) (by kernel_rfl) (by kernel_rfl) (by kernel_rfl) (sayByte _) ?_
      refine At.litK (t := 22) (d := 12) (e := 5) (es := 1) (bytes := 1) (n := 1) (parts := #[(0, .tmp 11)]) (45, 6) 112 [] [.int .u8 ((u8Of (48 + (n % 10))).toNat : Int)] [.int .u8 ((u8Of (48 + (n % 10))).toNat : Int)] [.int .u8 0] [.int .u8 ((u8Of (48 + (n % 10))).toNat : Int)] [] (by kernel_rfl) (by kernel_rfl) (by kernel_rfl) (by kernel_rfl) rfl (fun p hp => by cases hp) (by kernel_rfl) ?_
      refine At.b2s (s := 22) (t := 9) (e := 5) (d := 13) (x := .tmp 12) (T := .ref 112) ([(u8Of (48 + (n % 10)))]) [] (by kernel_rfl) (by kernel_rfl) (by kernel_rfl) (by kernel_rfl) ⟨by kernel_rfl, .inl ⟨rfl, (allP_encU8 _)⟩⟩ ?_
      refine At.a 1 ?_
      refine At.cat (t := 9) (u := 9) (d := 15) (x := .tmp 13) (y := .tmp 14) (a := strOf ([(u8Of (48 + (n % 10)))])) (b := acc) (by kernel_rfl) (by kernel_rfl) (by kernel_rfl) (by kernel_rfl) (by simp only [strOf_size, cat_size, List.length_cons, List.length_nil]; omega) ?_
      refine At.a 1 ?_
      refine At.done rfl ?_
      refine AW.region (At.start ?_)
      refine At.a 1 ?_
      refine At.div (t := 3) (u := 3) (d := 17) (op := .quo) (x := .tmp 16) (y := .const (.int .i64 10)) (kd := .i64) (a := n) (b := 10) (by kernel_rfl) (by kernel_rfl) (by kernel_rfl) (by kernel_rfl) (by omega) (.int .i64 (IntKind.i64.wrap (n.tdiv 10))) (.inl ⟨rfl, rfl⟩) ?_
      refine At.say 17 (.int .i64 (IntKind.i64.wrap (n.tdiv 10))) (.int .i64 (n / 10)) (by kernel_rfl) (sayQuo (by omega) (by omega) (by omega)) ?_
      refine At.a 1 ?_
      refine At.done rfl ?_
      exact ⟨((n / 10), ((strOf ([(u8Of (48 + (n % 10)))])) ++ acc)), ⟨by omega, by rw [cat_size, strOf_size]; simp only [List.length_cons, List.length_nil]; omega, by rw [hR, markGo_step (by assumption)]⟩, (by simp only; omega), Sub.o [] [true, false, false, true]⟩
    · skip
      refine AW.exit ?_
      refine AW.r ?_
      refine At.a 1 ?_
      refine At.cat (t := 9) (u := 9) (d := 19) (x := .const (.string ⟨#[109]⟩)) (y := .tmp 18) (a := (⟨#[109]⟩ : ByteArray)) (b := acc) (by kernel_rfl) (by kernel_rfl) (by kernel_rfl) (by kernel_rfl) (by have q : (⟨#[109]⟩ : ByteArray).size = 1 := rfl; rw [q]; omega) ?_
      refine At.a 1 ?_
      refine At.done rfl ?_
      refine AW.ret ?_
      refine ⟨_, Sub.refl _ _, ?_⟩
      refine KF.conv (fun w => .str w) (fun w => []) (show ((⟨#[109]⟩ : ByteArray) ++ acc) = (markT k) from by rw [markT, if_neg (by omega), hR, markGo_zero (by assumption)]) ?_
      exact KF.m [] [.str ((⟨#[109]⟩ : ByteArray) ++ acc)]
set_option maxRecDepth 100000 in
set_option maxHeartbeats 4000000 in
theorem laws_markEntryS_spec  (a : List Ent) (k : Int) (hk : 0 ≤ k) (ha : a.length ≤ 1048576) (he : ends nxE a k ≤ 4611686018427387904) : FnSpec Tryz.prog 132 [.ref 0, .int .i64 k] [.arr 45 6 (a.map encEnt)] (.int .i64 (ends nxE a k)) [.arr 45 6 ((marks markE nxE a k).map encEnt)] := by
  refine FnSpec.of 61 Tryz.func132 rfl Tryz.ntmps132 (by simp) (AW.weakK ?_)
  refine AW.r ?_
  refine At.a 1 ?_
  refine At.done rfl ?_
  refine AW.seq ?_
  refine AW.r ?_
  refine At.a 1 ?_
  refine At.done rfl ?_
  refine AW.block ?_
  refine AW.loopW (fun (x : Nat × Int × List Ent) => match x with | (i, kk, o) => Go.Sy.mk [.ref 0, .int .i64 kk, .un, .un, .un, .int .i64 (i : Int)] [(0, .arr 45 6 (o.map encEnt))]) (fun (x : Nat × Int × List Ent) => match x with | (i, kk, o) => 0 ≤ kk ∧ MInv markE nxE a k i kk o) (fun (x : Nat × Int × List Ent) => match x with | (i, kk, o) => a.length - i) (0, k, a) ⟨hk, MInv.start⟩ (Sub.o [(0, 0)] [true, true, false, false, false, true]) ?_
  rintro ⟨i, kk, o⟩ ⟨hkk, hR⟩
  have hle := hR.ge nxE_ge
  have hlo := hR.2.1
  refine AW.seq ?_
  refine AW.r ?_
  refine At.a 3 ?_
  refine At.sL 8 encEnt o ?_
  refine At.a 1 ?_
  refine At.done rfl ?_
  refine AW.cD ((i : Int) < (o.length : Int)) (fun h1 => ?_) (fun h1 => ?_)
  · skip
    refine AW.skip ?_
    refine AW.seq ?_
    refine AW.block ?_
    refine AW.r ?_
    refine At.a 3 ?_
    refine At.iRf 24 15 (.tmp 12) (.tmp 13) 0 (o.map encEnt) .i64 (i : Int) 45 6 (by omega) (by simp only [List.length_map, List.length_append, List.length_take, List.length_drop, List.length_replicate, List.length_set, List.length_cons, List.length_nil]; omega) ?_
    refine At.a 1 ?_
    refine Exists.elim (show ∃ e, o[i]? = some e from ⟨_, List.getElem?_eq_getElem (by omega)⟩) fun e1 he1 => ?_
    have hlt := hR.le nxE_ge he1
    rw [nxE] at hlt
    refine At.sEl 3 0 45 6 i 0 (.tmp 16) (.tmp 14) (o.map encEnt) ((o.set i (⟨kk, e1.cmd⟩ : Ent)).map encEnt) [.int .i64 kk] (.int .i64 kk) (encEnt e1) (encEnt (⟨kk, e1.cmd⟩ : Ent)) (mapGet he1) setV ?_
    refine At.done rfl ?_
    refine AW.r ?_
    refine At.a 2 ?_
    refine At.sI 18 (kk + 1) (by omega) ?_
    refine At.a 1 ?_
    refine At.done rfl ?_
    refine AW.r ?_
    refine At.a 3 ?_
    refine At.iRf 24 22 (.tmp 19) (.tmp 20) 0 ((o.set i (⟨kk, e1.cmd⟩ : Ent)).map encEnt) .i64 (i : Int) 45 6 (by omega) (by simp only [List.length_map, List.length_append, List.length_take, List.length_drop, List.length_replicate, List.length_set, List.length_cons, List.length_nil]; omega) ?_
    refine At.a 2 ?_
    refine At.sEl 3 0 45 6 i 1 (.tmp 24) (.tmp 21) ((o.set i (⟨kk, e1.cmd⟩ : Ent)).map encEnt) ((o.set i (⟨kk, ⟨kk + 1, e1.cmd.release, e1.cmd.node, e1.cmd.size, e1.cmd.digest⟩⟩ : Ent)).map encEnt) [.int .i64 (kk + 1)] (.int .i64 (kk + 1)) (encEnt (⟨kk, e1.cmd⟩ : Ent)) (encEnt (⟨kk, ⟨kk + 1, e1.cmd.release, e1.cmd.node, e1.cmd.size, e1.cmd.digest⟩⟩ : Ent)) (mapGet (setGet he1)) setSetV ?_
    refine At.done rfl ?_
    refine AW.r ?_
    refine At.a 2 ?_
    refine At.sJ 26 ((kk + 1) + 1) (kk + 2) (by omega) (by omega) ?_
    refine At.a 1 ?_
    refine At.done rfl ?_
    refine AW.r ?_
    refine At.a 3 ?_
    refine At.iRf 24 30 (.tmp 27) (.tmp 28) 0 ((o.set i (⟨kk, ⟨kk + 1, e1.cmd.release, e1.cmd.node, e1.cmd.size, e1.cmd.digest⟩⟩ : Ent)).map encEnt) .i64 (i : Int) 45 6 (by omega) (by simp only [List.length_map, List.length_append, List.length_take, List.length_drop, List.length_replicate, List.length_set, List.length_cons, List.length_nil]; omega) ?_
    refine At.a 2 ?_
    refine At.sEl 3 0 45 6 i 2 (.tmp 32) (.tmp 29) ((o.set i (⟨kk, ⟨kk + 1, e1.cmd.release, e1.cmd.node, e1.cmd.size, e1.cmd.digest⟩⟩ : Ent)).map encEnt) ((o.set i (⟨kk, ⟨kk + 1, kk + 2, e1.cmd.node, e1.cmd.size, e1.cmd.digest⟩⟩ : Ent)).map encEnt) [.int .i64 (kk + 2)] (.int .i64 (kk + 2)) (encEnt (⟨kk, ⟨kk + 1, e1.cmd.release, e1.cmd.node, e1.cmd.size, e1.cmd.digest⟩⟩ : Ent)) (encEnt (⟨kk, ⟨kk + 1, kk + 2, e1.cmd.node, e1.cmd.size, e1.cmd.digest⟩⟩ : Ent)) (mapGet (setGet he1)) setSetV ?_
    refine At.done rfl ?_
    refine AW.r ?_
    refine At.a 2 ?_
    refine At.sJ 34 ((kk + 2) + 1) (kk + 3) (by omega) (by omega) ?_
    refine At.a 1 ?_
    refine At.done rfl ?_
    refine AW.r ?_
    refine At.a 3 ?_
    refine At.iRf 24 38 (.tmp 35) (.tmp 36) 0 ((o.set i (⟨kk, ⟨kk + 1, kk + 2, e1.cmd.node, e1.cmd.size, e1.cmd.digest⟩⟩ : Ent)).map encEnt) .i64 (i : Int) 45 6 (by omega) (by simp only [List.length_map, List.length_append, List.length_take, List.length_drop, List.length_replicate, List.length_set, List.length_cons, List.length_nil]; omega) ?_
    refine At.a 2 ?_
    refine At.sEl 3 0 45 6 i 3 (.tmp 40) (.tmp 37) ((o.set i (⟨kk, ⟨kk + 1, kk + 2, e1.cmd.node, e1.cmd.size, e1.cmd.digest⟩⟩ : Ent)).map encEnt) ((o.set i (⟨kk, ⟨kk + 1, kk + 2, kk + 3, e1.cmd.size, e1.cmd.digest⟩⟩ : Ent)).map encEnt) [.int .i64 (kk + 3)] (.int .i64 (kk + 3)) (encEnt (⟨kk, ⟨kk + 1, kk + 2, e1.cmd.node, e1.cmd.size, e1.cmd.digest⟩⟩ : Ent)) (encEnt (⟨kk, ⟨kk + 1, kk + 2, kk + 3, e1.cmd.size, e1.cmd.digest⟩⟩ : Ent)) (mapGet (setGet he1)) setSetV ?_
    refine At.done rfl ?_
    refine AW.r ?_
    refine At.a 2 ?_
    refine At.sJ 42 ((kk + 3) + 1) (kk + 4) (by omega) (by omega) ?_
    refine At.a 1 ?_
    refine At.done rfl ?_
    refine AW.r ?_
    refine At.a 3 ?_
    refine At.iRf 24 46 (.tmp 43) (.tmp 44) 0 ((o.set i (⟨kk, ⟨kk + 1, kk + 2, kk + 3, e1.cmd.size, e1.cmd.digest⟩⟩ : Ent)).map encEnt) .i64 (i : Int) 45 6 (by omega) (by simp only [List.length_map, List.length_append, List.length_take, List.length_drop, List.length_replicate, List.length_set, List.length_cons, List.length_nil]; omega) ?_
    refine At.a 2 ?_
    refine At.sEl 3 0 45 6 i 4 (.tmp 48) (.tmp 45) ((o.set i (⟨kk, ⟨kk + 1, kk + 2, kk + 3, e1.cmd.size, e1.cmd.digest⟩⟩ : Ent)).map encEnt) ((o.set i (⟨kk, ⟨kk + 1, kk + 2, kk + 3, kk + 4, e1.cmd.digest⟩⟩ : Ent)).map encEnt) [.int .i64 (kk + 4)] (.int .i64 (kk + 4)) (encEnt (⟨kk, ⟨kk + 1, kk + 2, kk + 3, e1.cmd.size, e1.cmd.digest⟩⟩ : Ent)) (encEnt (⟨kk, ⟨kk + 1, kk + 2, kk + 3, kk + 4, e1.cmd.digest⟩⟩ : Ent)) (mapGet (setGet he1)) setSetV ?_
    refine At.done rfl ?_
    refine AW.r ?_
    refine At.a 2 ?_
    refine At.sJ 50 ((kk + 4) + 1) (kk + 5) (by omega) (by omega) ?_
    refine At.a 1 ?_
    refine At.done rfl ?_
    refine AW.r ?_
    refine At.a 3 ?_
    refine At.c (laws_markText_spec  (kk + 5) (by omega)) Tryz.call133 true [] [] [] trivial ?_
    refine At.iRf 24 55 (.tmp 51) (.tmp 52) 0 ((o.set i (⟨kk, ⟨kk + 1, kk + 2, kk + 3, kk + 4, e1.cmd.digest⟩⟩ : Ent)).map encEnt) .i64 (i : Int) 45 6 (by omega) (by simp only [List.length_map, List.length_append, List.length_take, List.length_drop, List.length_replicate, List.length_set, List.length_cons, List.length_nil]; omega) ?_
    refine At.a 2 ?_
    refine At.sEl 9 0 45 6 i 5 (.tmp 57) (.tmp 54) ((o.set i (⟨kk, ⟨kk + 1, kk + 2, kk + 3, kk + 4, e1.cmd.digest⟩⟩ : Ent)).map encEnt) ((o.set i (⟨kk, ⟨kk + 1, kk + 2, kk + 3, kk + 4, markT (kk + 5)⟩⟩ : Ent)).map encEnt) [.str (markT (kk + 5))] (.str (markT (kk + 5))) (encEnt (⟨kk, ⟨kk + 1, kk + 2, kk + 3, kk + 4, e1.cmd.digest⟩⟩ : Ent)) (encEnt (⟨kk, ⟨kk + 1, kk + 2, kk + 3, kk + 4, markT (kk + 5)⟩⟩ : Ent)) (mapGet (setGet he1)) setSetV ?_
    refine At.done rfl ?_
    refine AW.region (At.start ?_)
    refine At.a 2 ?_
    refine At.sJ 59 ((kk + 5) + 1) (kk + 6) (by omega) (by omega) ?_
    refine At.a 1 ?_
    refine At.done rfl ?_
    refine AW.region (At.start ?_)
    refine At.a 2 ?_
    refine At.sI 11 ((i : Int) + 1) (by omega) ?_
    refine At.a 1 ?_
    refine At.done rfl ?_
    exact ⟨(i + 1, (kk + 6), (o.set i (⟨kk, ⟨kk + 1, kk + 2, kk + 3, kk + 4, markT (kk + 5)⟩⟩ : Ent))), ⟨by omega, hR.step he1 rfl rfl⟩, (by simp only; omega), Sub.o [(0, 0)] [true, true, false, false, false, true]⟩
  · skip
    refine AW.exit ?_
    refine AW.r ?_
    refine At.a 2 ?_
    refine At.done rfl ?_
    refine AW.ret ?_
    refine ⟨_, Sub.refl _ _, ?_⟩
    refine KF.conv (fun w => .int .i64 w) (fun w => [.arr 45 6 ((marks markE nxE a k).map encEnt)]) (show (kk) = (ends nxE a k) from (hR.done (by omega)).2) ?_
    refine KF.conv (fun w => .int .i64 kk) (fun w => [.arr 45 6 (w.map encEnt)]) (show (o) = (marks markE nxE a k) from (hR.done (by omega)).1) ?_
    exact KF.m [(0, 0)] [.int .i64 kk]
set_option maxRecDepth 100000 in
set_option maxHeartbeats 4000000 in
theorem laws_markHard_spec  (a : Hard) (k : Int) (hk : 0 ≤ k) (ha : a.log.length ≤ 1048576) (he : ends nxE a.log k ≤ 4611686018427387904) : FnSpec Tryz.prog 130 [.agg [.int .i64 a.term, .int .i64 a.vote, .ref 0], .int .i64 k] [.arr 45 6 (a.log.map encEnt)] (.int .i64 (ends nxE a.log k)) [.arr 45 6 ((marks markE nxE a.log k).map encEnt)] := by
  refine FnSpec.of 10 Tryz.func130 rfl Tryz.ntmps130 (by simp) (AW.weakK ?_)
  refine AW.r ?_
  refine At.a 2 ?_
  refine At.done rfl ?_
  refine AW.r ?_
  refine At.a 3 ?_
  refine At.c (laws_markEntryS_spec  a.log k (by omega) (by omega) (by omega)) Tryz.call132 true [(0, 0)] [] [] trivial ?_
  refine At.a 1 ?_
  refine At.done rfl ?_
  refine AW.r ?_
  refine At.a 2 ?_
  refine At.done rfl ?_
  refine AW.ret ?_
  refine ⟨_, Sub.refl _ _, ?_⟩
  exact KF.m [(0, 0)] [.int .i64 (ends nxE a.log k)]
set_option maxRecDepth 100000 in
set_option maxHeartbeats 4000000 in
theorem laws_markIntS_spec  (a : List Int) (k : Int) (hk : 0 ≤ k) (ha : a.length ≤ 1048576) (he : ends nxI a k ≤ 4611686018427387904) : FnSpec Tryz.prog 131 [.ref 0, .int .i64 k] [.arr 3 1 (a.map encI)] (.int .i64 (ends nxI a k)) [.arr 3 1 ((marks markI nxI a k).map encI)] := by
  refine FnSpec.of 19 Tryz.func131 rfl Tryz.ntmps131 (by simp) (AW.weakK ?_)
  refine AW.r ?_
  refine At.a 1 ?_
  refine At.done rfl ?_
  refine AW.seq ?_
  refine AW.r ?_
  refine At.a 1 ?_
  refine At.done rfl ?_
  refine AW.block ?_
  refine AW.loopW (fun (x : Nat × Int × List Int) => match x with | (i, kk, o) => Go.Sy.mk [.ref 0, .int .i64 kk, .un, .un, .un, .int .i64 (i : Int)] [(0, .arr 3 1 (o.map encI))]) (fun (x : Nat × Int × List Int) => match x with | (i, kk, o) => 0 ≤ kk ∧ MInv markI nxI a k i kk o) (fun (x : Nat × Int × List Int) => match x with | (i, kk, o) => a.length - i) (0, k, a) ⟨hk, MInv.start⟩ (Sub.o [(0, 0)] [true, true, false, false, false, true]) ?_
  rintro ⟨i, kk, o⟩ ⟨hkk, hR⟩
  have hle := hR.ge nxI_ge
  have hlo := hR.2.1
  refine AW.seq ?_
  refine AW.r ?_
  refine At.a 3 ?_
  refine At.sL 8 encI o ?_
  refine At.a 1 ?_
  refine At.done rfl ?_
  refine AW.cD ((i : Int) < (o.length : Int)) (fun h1 => ?_) (fun h1 => ?_)
  · skip
    refine AW.skip ?_
    refine AW.seq ?_
    refine AW.block ?_
    refine AW.r ?_
    refine At.a 3 ?_
    refine At.iRf 27 15 (.tmp 12) (.tmp 13) 0 (o.map encI) .i64 (i : Int) 3 1 (by omega) (by simp only [List.length_map, List.length_append, List.length_take, List.length_drop, List.length_replicate, List.length_set, List.length_cons, List.length_nil]; omega) ?_
    refine Exists.elim (show ∃ e, o[i]? = some e from ⟨_, List.getElem?_eq_getElem (by omega)⟩) fun e1 he1 => ?_
    have hlt := hR.le nxI_ge he1
    rw [nxI] at hlt
    refine At.sEl 3 0 3 1 i 0 (.tmp 15) (.tmp 14) (o.map encI) ((o.set i kk).map encI) [.int .i64 kk] (.int .i64 kk) (encI e1) (encI kk) (mapGet he1) setV ?_
    refine At.done rfl ?_
    refine AW.region (At.start ?_)
    refine At.a 2 ?_
    refine At.sI 17 (kk + 1) (by omega) ?_
    refine At.a 1 ?_
    refine At.done rfl ?_
    refine AW.region (At.start ?_)
    refine At.a 2 ?_
    refine At.sI 11 ((i : Int) + 1) (by omega) ?_
    refine At.a 1 ?_
    refine At.done rfl ?_
    exact ⟨(i + 1, (kk + 1), (o.set i kk)), ⟨by omega, hR.step he1 rfl rfl⟩, (by simp only; omega), Sub.o [(0, 0)] [true, true, false, false, false, true]⟩
  · skip
    refine AW.exit ?_
    refine AW.r ?_
    refine At.a 2 ?_
    refine At.done rfl ?_
    refine AW.ret ?_
    refine ⟨_, Sub.refl _ _, ?_⟩
    refine KF.conv (fun w => .int .i64 w) (fun w => [.arr 3 1 ((marks markI nxI a k).map encI)]) (show (kk) = (ends nxI a k) from (hR.done (by omega)).2) ?_
    refine KF.conv (fun w => .int .i64 kk) (fun w => [.arr 3 1 (w.map encI)]) (show (o) = (marks markI nxI a k) from (hR.done (by omega)).1) ?_
    exact KF.m [(0, 0)] [.int .i64 kk]
set_option maxRecDepth 100000 in
set_option maxHeartbeats 4000000 in
theorem laws_markRaft_spec  (a : Raft) (k : Int) (hz : SmallR a) (hk : 0 ≤ k ∧ k ≤ 4611686017427387904) : FnSpec Tryz.prog 46 [.agg [.int .i64 a.id, .int .i64 a.of_, .int .i64 a.role, .int .i64 a.commit, .int .i64 a.hard.term, .int .i64 a.hard.vote, .ref 0, .ref 1, .ref 2, .ref 3], .int .i64 k] [.arr 45 6 (a.hard.log.map encEnt), .arr 3 1 (a.yes.map encI), .arr 3 1 (a.next.map encI), .arr 3 1 (a.match_.map encI)] (.int .i64 (raftEnd a k)) [.arr 45 6 (((raftMark a k).hard.log).map encEnt), .arr 3 1 (((raftMark a k).yes).map encI), .arr 3 1 (((raftMark a k).next).map encI), .arr 3 1 (((raftMark a k).match_).map encI)] := by
  obtain ⟨z1, z2, z3, z4⟩ := id hz
  have q1 := endsE_eq a.hard.log k
  have q2 := endsI_eq a.yes (ends nxE a.hard.log k)
  have q3 := endsI_eq a.next (ends nxI a.yes (ends nxE a.hard.log k))
  have q4 := endsI_eq a.match_ (ends nxI a.next (ends nxI a.yes (ends nxE a.hard.log k)))
  refine FnSpec.of 22 Tryz.func46 rfl Tryz.ntmps46 (by simp) (AW.weakK ?_)
  refine AW.r ?_
  refine At.a 2 ?_
  refine At.done rfl ?_
  refine AW.r ?_
  refine At.a 3 ?_
  refine At.c (laws_markHard_spec  a.hard k (by omega) (by omega) (by omega)) Tryz.call130 true [(0, 0)] [] [] trivial ?_
  refine At.a 1 ?_
  refine At.done rfl ?_
  refine AW.r ?_
  refine At.a 3 ?_
  refine At.c (laws_markIntS_spec  a.yes (ends nxE a.hard.log k) (by omega) (by omega) (by omega)) Tryz.call131 true [(1, 0)] [] [] trivial ?_
  refine At.a 1 ?_
  refine At.done rfl ?_
  refine AW.r ?_
  refine At.a 3 ?_
  refine At.c (laws_markIntS_spec  a.next (ends nxI a.yes (ends nxE a.hard.log k)) (by omega) (by omega) (by omega)) Tryz.call131 true [(2, 0)] [] [] trivial ?_
  refine At.a 1 ?_
  refine At.done rfl ?_
  refine AW.r ?_
  refine At.a 3 ?_
  refine At.c (laws_markIntS_spec  a.match_ (ends nxI a.next (ends nxI a.yes (ends nxE a.hard.log k))) (by omega) (by omega) (by omega)) Tryz.call131 true [(3, 0)] [] [] trivial ?_
  refine At.a 1 ?_
  refine At.done rfl ?_
  refine AW.r ?_
  refine At.a 2 ?_
  refine At.done rfl ?_
  refine AW.ret ?_
  refine ⟨_, Sub.refl _ _, ?_⟩
  refine KF.conv (fun w => .int .i64 w) (fun w => [.arr 45 6 (((raftMark a k).hard.log).map encEnt), .arr 3 1 (((raftMark a k).yes).map encI), .arr 3 1 (((raftMark a k).next).map encI), .arr 3 1 (((raftMark a k).match_).map encI)]) (show (ends nxI a.match_ (ends nxI a.next (ends nxI a.yes (ends nxE a.hard.log k)))) = (raftEnd a k) from by rfl) ?_
  exact KF.m [(0, 0), (1, 1), (2, 2), (3, 3)] [.int .i64 (ends nxI a.match_ (ends nxI a.next (ends nxI a.yes (ends nxE a.hard.log k))))]
set_option maxRecDepth 100000 in
set_option maxHeartbeats 4000000 in
theorem laws_markMsg_spec  (a : Msg) (k : Int) (hk : 0 ≤ k) (ha : a.entries.length ≤ 1048576) (he : ends nxE a.entries k ≤ 4611686018427387904) : FnSpec Tryz.prog 47 [.agg [.int .i64 a.kind, .int .i64 a.from_, .int .i64 a.term, .int .i64 a.at_, .int .i64 a.atTerm, .int .i64 a.commit, .bool a.yes, .int .i64 a.release, .int .i64 a.part, .str a.bytes, .int .i64 a.cmd.kind, .int .i64 a.cmd.release, .int .i64 a.cmd.node, .int .i64 a.cmd.size, .str a.cmd.digest, .ref 0], .int .i64 k] [.arr 45 6 (a.entries.map encEnt)] (.int .i64 (ends nxE a.entries k)) [.arr 45 6 ((marks markE nxE a.entries k).map encEnt)] := by
  refine FnSpec.of 10 Tryz.func47 rfl Tryz.ntmps47 (by simp) (AW.weakK ?_)
  refine AW.r ?_
  refine At.a 2 ?_
  refine At.done rfl ?_
  refine AW.r ?_
  refine At.a 3 ?_
  refine At.c (laws_markEntryS_spec  a.entries k (by omega) (by omega) (by omega)) Tryz.call132 true [(0, 0)] [] [] trivial ?_
  refine At.a 1 ?_
  refine At.done rfl ?_
  refine AW.r ?_
  refine At.a 2 ?_
  refine At.done rfl ?_
  refine AW.ret ?_
  refine ⟨_, Sub.refl _ _, ?_⟩
  exact KF.m [(0, 0)] [.int .i64 (ends nxE a.entries k)]
set_option maxRecDepth 100000 in
set_option maxHeartbeats 4000000 in
theorem laws_markRecS_spec  (a : List Rec) (k : Int) (hk : 0 ≤ k) (ha : a.length ≤ 1048576) (he : ends nxR a k ≤ 4611686018427387904) : FnSpec Tryz.prog 48 [.ref 0, .int .i64 k] [.arr 47 10 (a.map encRec)] (.int .i64 (ends nxR a k)) [.arr 47 10 ((marks markR nxR a k).map encRec)] := by
  refine FnSpec.of 95 Tryz.func48 rfl Tryz.ntmps48 (by simp) (AW.weakK ?_)
  refine AW.r ?_
  refine At.a 1 ?_
  refine At.done rfl ?_
  refine AW.seq ?_
  refine AW.r ?_
  refine At.a 1 ?_
  refine At.done rfl ?_
  refine AW.block ?_
  refine AW.loopW (fun (x : Nat × Int × List Rec) => match x with | (i, kk, o) => Go.Sy.mk [.ref 0, .int .i64 kk, .un, .un, .un, .int .i64 (i : Int)] [(0, .arr 47 10 (o.map encRec))]) (fun (x : Nat × Int × List Rec) => match x with | (i, kk, o) => 0 ≤ kk ∧ MInv markR nxR a k i kk o) (fun (x : Nat × Int × List Rec) => match x with | (i, kk, o) => a.length - i) (0, k, a) ⟨hk, MInv.start⟩ (Sub.o [(0, 0)] [true, true, false, false, false, true]) ?_
  rintro ⟨i, kk, o⟩ ⟨hkk, hR⟩
  have hle := hR.ge nxR_ge
  have hlo := hR.2.1
  refine AW.seq ?_
  refine AW.r ?_
  refine At.a 3 ?_
  refine At.sL 8 encRec o ?_
  refine At.a 1 ?_
  refine At.done rfl ?_
  refine AW.cD ((i : Int) < (o.length : Int)) (fun h1 => ?_) (fun h1 => ?_)
  · skip
    refine AW.skip ?_
    refine AW.seq ?_
    refine AW.block ?_
    refine AW.r ?_
    refine At.a 3 ?_
    refine At.iRf 37 15 (.tmp 12) (.tmp 13) 0 (o.map encRec) .i64 (i : Int) 47 10 (by omega) (by simp only [List.length_map, List.length_append, List.length_take, List.length_drop, List.length_replicate, List.length_set, List.length_cons, List.length_nil]; omega) ?_
    refine At.a 1 ?_
    refine Exists.elim (show ∃ e, o[i]? = some e from ⟨_, List.getElem?_eq_getElem (by omega)⟩) fun e1 he1 => ?_
    have hlt := hR.le nxR_ge he1
    rw [nxR] at hlt
    refine At.sEl 3 0 47 10 i 0 (.tmp 16) (.tmp 14) (o.map encRec) ((o.set i (⟨kk, e1.term, e1.vote, e1.at_, e1.entry⟩ : Rec)).map encRec) [.int .i64 kk] (.int .i64 kk) (encRec e1) (encRec (⟨kk, e1.term, e1.vote, e1.at_, e1.entry⟩ : Rec)) (mapGet he1) setV ?_
    refine At.done rfl ?_
    refine AW.r ?_
    refine At.a 2 ?_
    refine At.sI 18 (kk + 1) (by omega) ?_
    refine At.a 1 ?_
    refine At.done rfl ?_
    refine AW.r ?_
    refine At.a 3 ?_
    refine At.iRf 37 22 (.tmp 19) (.tmp 20) 0 ((o.set i (⟨kk, e1.term, e1.vote, e1.at_, e1.entry⟩ : Rec)).map encRec) .i64 (i : Int) 47 10 (by omega) (by simp only [List.length_map, List.length_append, List.length_take, List.length_drop, List.length_replicate, List.length_set, List.length_cons, List.length_nil]; omega) ?_
    refine At.a 1 ?_
    refine At.sEl 3 0 47 10 i 1 (.tmp 23) (.tmp 21) ((o.set i (⟨kk, e1.term, e1.vote, e1.at_, e1.entry⟩ : Rec)).map encRec) ((o.set i (⟨kk, kk + 1, e1.vote, e1.at_, e1.entry⟩ : Rec)).map encRec) [.int .i64 (kk + 1)] (.int .i64 (kk + 1)) (encRec (⟨kk, e1.term, e1.vote, e1.at_, e1.entry⟩ : Rec)) (encRec (⟨kk, kk + 1, e1.vote, e1.at_, e1.entry⟩ : Rec)) (mapGet (setGet he1)) setSetV ?_
    refine At.done rfl ?_
    refine AW.r ?_
    refine At.a 2 ?_
    refine At.sJ 25 ((kk + 1) + 1) (kk + 2) (by omega) (by omega) ?_
    refine At.a 1 ?_
    refine At.done rfl ?_
    refine AW.r ?_
    refine At.a 3 ?_
    refine At.iRf 37 29 (.tmp 26) (.tmp 27) 0 ((o.set i (⟨kk, kk + 1, e1.vote, e1.at_, e1.entry⟩ : Rec)).map encRec) .i64 (i : Int) 47 10 (by omega) (by simp only [List.length_map, List.length_append, List.length_take, List.length_drop, List.length_replicate, List.length_set, List.length_cons, List.length_nil]; omega) ?_
    refine At.a 1 ?_
    refine At.sEl 3 0 47 10 i 2 (.tmp 30) (.tmp 28) ((o.set i (⟨kk, kk + 1, e1.vote, e1.at_, e1.entry⟩ : Rec)).map encRec) ((o.set i (⟨kk, kk + 1, kk + 2, e1.at_, e1.entry⟩ : Rec)).map encRec) [.int .i64 (kk + 2)] (.int .i64 (kk + 2)) (encRec (⟨kk, kk + 1, e1.vote, e1.at_, e1.entry⟩ : Rec)) (encRec (⟨kk, kk + 1, kk + 2, e1.at_, e1.entry⟩ : Rec)) (mapGet (setGet he1)) setSetV ?_
    refine At.done rfl ?_
    refine AW.r ?_
    refine At.a 2 ?_
    refine At.sJ 32 ((kk + 2) + 1) (kk + 3) (by omega) (by omega) ?_
    refine At.a 1 ?_
    refine At.done rfl ?_
    refine AW.r ?_
    refine At.a 3 ?_
    refine At.iRf 37 36 (.tmp 33) (.tmp 34) 0 ((o.set i (⟨kk, kk + 1, kk + 2, e1.at_, e1.entry⟩ : Rec)).map encRec) .i64 (i : Int) 47 10 (by omega) (by simp only [List.length_map, List.length_append, List.length_take, List.length_drop, List.length_replicate, List.length_set, List.length_cons, List.length_nil]; omega) ?_
    refine At.a 1 ?_
    refine At.sEl 3 0 47 10 i 3 (.tmp 37) (.tmp 35) ((o.set i (⟨kk, kk + 1, kk + 2, e1.at_, e1.entry⟩ : Rec)).map encRec) ((o.set i (⟨kk, kk + 1, kk + 2, kk + 3, e1.entry⟩ : Rec)).map encRec) [.int .i64 (kk + 3)] (.int .i64 (kk + 3)) (encRec (⟨kk, kk + 1, kk + 2, e1.at_, e1.entry⟩ : Rec)) (encRec (⟨kk, kk + 1, kk + 2, kk + 3, e1.entry⟩ : Rec)) (mapGet (setGet he1)) setSetV ?_
    refine At.done rfl ?_
    refine AW.r ?_
    refine At.a 2 ?_
    refine At.sJ 39 ((kk + 3) + 1) (kk + 4) (by omega) (by omega) ?_
    refine At.a 1 ?_
    refine At.done rfl ?_
    refine AW.r ?_
    refine At.a 3 ?_
    refine At.iRf 37 43 (.tmp 40) (.tmp 41) 0 ((o.set i (⟨kk, kk + 1, kk + 2, kk + 3, e1.entry⟩ : Rec)).map encRec) .i64 (i : Int) 47 10 (by omega) (by simp only [List.length_map, List.length_append, List.length_take, List.length_drop, List.length_replicate, List.length_set, List.length_cons, List.length_nil]; omega) ?_
    refine At.a 2 ?_
    refine At.sEl 3 0 47 10 i 4 (.tmp 45) (.tmp 42) ((o.set i (⟨kk, kk + 1, kk + 2, kk + 3, e1.entry⟩ : Rec)).map encRec) ((o.set i (⟨kk, kk + 1, kk + 2, kk + 3, ⟨kk + 4, ⟨e1.entry.cmd.kind, e1.entry.cmd.release, e1.entry.cmd.node, e1.entry.cmd.size, e1.entry.cmd.digest⟩⟩⟩ : Rec)).map encRec) [.int .i64 (kk + 4)] (.int .i64 (kk + 4)) (encRec (⟨kk, kk + 1, kk + 2, kk + 3, e1.entry⟩ : Rec)) (encRec (⟨kk, kk + 1, kk + 2, kk + 3, ⟨kk + 4, ⟨e1.entry.cmd.kind, e1.entry.cmd.release, e1.entry.cmd.node, e1.entry.cmd.size, e1.entry.cmd.digest⟩⟩⟩ : Rec)) (mapGet (setGet he1)) setSetV ?_
    refine At.done rfl ?_
    refine AW.r ?_
    refine At.a 2 ?_
    refine At.sJ 47 ((kk + 4) + 1) (kk + 5) (by omega) (by omega) ?_
    refine At.a 1 ?_
    refine At.done rfl ?_
    refine AW.r ?_
    refine At.a 3 ?_
    refine At.iRf 37 51 (.tmp 48) (.tmp 49) 0 ((o.set i (⟨kk, kk + 1, kk + 2, kk + 3, ⟨kk + 4, ⟨e1.entry.cmd.kind, e1.entry.cmd.release, e1.entry.cmd.node, e1.entry.cmd.size, e1.entry.cmd.digest⟩⟩⟩ : Rec)).map encRec) .i64 (i : Int) 47 10 (by omega) (by simp only [List.length_map, List.length_append, List.length_take, List.length_drop, List.length_replicate, List.length_set, List.length_cons, List.length_nil]; omega) ?_
    refine At.a 3 ?_
    refine At.sEl 3 0 47 10 i 5 (.tmp 54) (.tmp 50) ((o.set i (⟨kk, kk + 1, kk + 2, kk + 3, ⟨kk + 4, ⟨e1.entry.cmd.kind, e1.entry.cmd.release, e1.entry.cmd.node, e1.entry.cmd.size, e1.entry.cmd.digest⟩⟩⟩ : Rec)).map encRec) ((o.set i (⟨kk, kk + 1, kk + 2, kk + 3, ⟨kk + 4, ⟨kk + 5, e1.entry.cmd.release, e1.entry.cmd.node, e1.entry.cmd.size, e1.entry.cmd.digest⟩⟩⟩ : Rec)).map encRec) [.int .i64 (kk + 5)] (.int .i64 (kk + 5)) (encRec (⟨kk, kk + 1, kk + 2, kk + 3, ⟨kk + 4, ⟨e1.entry.cmd.kind, e1.entry.cmd.release, e1.entry.cmd.node, e1.entry.cmd.size, e1.entry.cmd.digest⟩⟩⟩ : Rec)) (encRec (⟨kk, kk + 1, kk + 2, kk + 3, ⟨kk + 4, ⟨kk + 5, e1.entry.cmd.release, e1.entry.cmd.node, e1.entry.cmd.size, e1.entry.cmd.digest⟩⟩⟩ : Rec)) (mapGet (setGet he1)) setSetV ?_
    refine At.done rfl ?_
    refine AW.r ?_
    refine At.a 2 ?_
    refine At.sJ 56 ((kk + 5) + 1) (kk + 6) (by omega) (by omega) ?_
    refine At.a 1 ?_
    refine At.done rfl ?_
    refine AW.r ?_
    refine At.a 3 ?_
    refine At.iRf 37 60 (.tmp 57) (.tmp 58) 0 ((o.set i (⟨kk, kk + 1, kk + 2, kk + 3, ⟨kk + 4, ⟨kk + 5, e1.entry.cmd.release, e1.entry.cmd.node, e1.entry.cmd.size, e1.entry.cmd.digest⟩⟩⟩ : Rec)).map encRec) .i64 (i : Int) 47 10 (by omega) (by simp only [List.length_map, List.length_append, List.length_take, List.length_drop, List.length_replicate, List.length_set, List.length_cons, List.length_nil]; omega) ?_
    refine At.a 3 ?_
    refine At.sEl 3 0 47 10 i 6 (.tmp 63) (.tmp 59) ((o.set i (⟨kk, kk + 1, kk + 2, kk + 3, ⟨kk + 4, ⟨kk + 5, e1.entry.cmd.release, e1.entry.cmd.node, e1.entry.cmd.size, e1.entry.cmd.digest⟩⟩⟩ : Rec)).map encRec) ((o.set i (⟨kk, kk + 1, kk + 2, kk + 3, ⟨kk + 4, ⟨kk + 5, kk + 6, e1.entry.cmd.node, e1.entry.cmd.size, e1.entry.cmd.digest⟩⟩⟩ : Rec)).map encRec) [.int .i64 (kk + 6)] (.int .i64 (kk + 6)) (encRec (⟨kk, kk + 1, kk + 2, kk + 3, ⟨kk + 4, ⟨kk + 5, e1.entry.cmd.release, e1.entry.cmd.node, e1.entry.cmd.size, e1.entry.cmd.digest⟩⟩⟩ : Rec)) (encRec (⟨kk, kk + 1, kk + 2, kk + 3, ⟨kk + 4, ⟨kk + 5, kk + 6, e1.entry.cmd.node, e1.entry.cmd.size, e1.entry.cmd.digest⟩⟩⟩ : Rec)) (mapGet (setGet he1)) setSetV ?_
    refine At.done rfl ?_
    refine AW.r ?_
    refine At.a 2 ?_
    refine At.sJ 65 ((kk + 6) + 1) (kk + 7) (by omega) (by omega) ?_
    refine At.a 1 ?_
    refine At.done rfl ?_
    refine AW.r ?_
    refine At.a 3 ?_
    refine At.iRf 37 69 (.tmp 66) (.tmp 67) 0 ((o.set i (⟨kk, kk + 1, kk + 2, kk + 3, ⟨kk + 4, ⟨kk + 5, kk + 6, e1.entry.cmd.node, e1.entry.cmd.size, e1.entry.cmd.digest⟩⟩⟩ : Rec)).map encRec) .i64 (i : Int) 47 10 (by omega) (by simp only [List.length_map, List.length_append, List.length_take, List.length_drop, List.length_replicate, List.length_set, List.length_cons, List.length_nil]; omega) ?_
    refine At.a 3 ?_
    refine At.sEl 3 0 47 10 i 7 (.tmp 72) (.tmp 68) ((o.set i (⟨kk, kk + 1, kk + 2, kk + 3, ⟨kk + 4, ⟨kk + 5, kk + 6, e1.entry.cmd.node, e1.entry.cmd.size, e1.entry.cmd.digest⟩⟩⟩ : Rec)).map encRec) ((o.set i (⟨kk, kk + 1, kk + 2, kk + 3, ⟨kk + 4, ⟨kk + 5, kk + 6, kk + 7, e1.entry.cmd.size, e1.entry.cmd.digest⟩⟩⟩ : Rec)).map encRec) [.int .i64 (kk + 7)] (.int .i64 (kk + 7)) (encRec (⟨kk, kk + 1, kk + 2, kk + 3, ⟨kk + 4, ⟨kk + 5, kk + 6, e1.entry.cmd.node, e1.entry.cmd.size, e1.entry.cmd.digest⟩⟩⟩ : Rec)) (encRec (⟨kk, kk + 1, kk + 2, kk + 3, ⟨kk + 4, ⟨kk + 5, kk + 6, kk + 7, e1.entry.cmd.size, e1.entry.cmd.digest⟩⟩⟩ : Rec)) (mapGet (setGet he1)) setSetV ?_
    refine At.done rfl ?_
    refine AW.r ?_
    refine At.a 2 ?_
    refine At.sJ 74 ((kk + 7) + 1) (kk + 8) (by omega) (by omega) ?_
    refine At.a 1 ?_
    refine At.done rfl ?_
    refine AW.r ?_
    refine At.a 3 ?_
    refine At.iRf 37 78 (.tmp 75) (.tmp 76) 0 ((o.set i (⟨kk, kk + 1, kk + 2, kk + 3, ⟨kk + 4, ⟨kk + 5, kk + 6, kk + 7, e1.entry.cmd.size, e1.entry.cmd.digest⟩⟩⟩ : Rec)).map encRec) .i64 (i : Int) 47 10 (by omega) (by simp only [List.length_map, List.length_append, List.length_take, List.length_drop, List.length_replicate, List.length_set, List.length_cons, List.length_nil]; omega) ?_
    refine At.a 3 ?_
    refine At.sEl 3 0 47 10 i 8 (.tmp 81) (.tmp 77) ((o.set i (⟨kk, kk + 1, kk + 2, kk + 3, ⟨kk + 4, ⟨kk + 5, kk + 6, kk + 7, e1.entry.cmd.size, e1.entry.cmd.digest⟩⟩⟩ : Rec)).map encRec) ((o.set i (⟨kk, kk + 1, kk + 2, kk + 3, ⟨kk + 4, ⟨kk + 5, kk + 6, kk + 7, kk + 8, e1.entry.cmd.digest⟩⟩⟩ : Rec)).map encRec) [.int .i64 (kk + 8)] (.int .i64 (kk + 8)) (encRec (⟨kk, kk + 1, kk + 2, kk + 3, ⟨kk + 4, ⟨kk + 5, kk + 6, kk + 7, e1.entry.cmd.size, e1.entry.cmd.digest⟩⟩⟩ : Rec)) (encRec (⟨kk, kk + 1, kk + 2, kk + 3, ⟨kk + 4, ⟨kk + 5, kk + 6, kk + 7, kk + 8, e1.entry.cmd.digest⟩⟩⟩ : Rec)) (mapGet (setGet he1)) setSetV ?_
    refine At.done rfl ?_
    refine AW.r ?_
    refine At.a 2 ?_
    refine At.sJ 83 ((kk + 8) + 1) (kk + 9) (by omega) (by omega) ?_
    refine At.a 1 ?_
    refine At.done rfl ?_
    refine AW.r ?_
    refine At.a 3 ?_
    refine At.c (laws_markText_spec  (kk + 9) (by omega)) Tryz.call133 true [] [] [] trivial ?_
    refine At.iRf 37 88 (.tmp 84) (.tmp 85) 0 ((o.set i (⟨kk, kk + 1, kk + 2, kk + 3, ⟨kk + 4, ⟨kk + 5, kk + 6, kk + 7, kk + 8, e1.entry.cmd.digest⟩⟩⟩ : Rec)).map encRec) .i64 (i : Int) 47 10 (by omega) (by simp only [List.length_map, List.length_append, List.length_take, List.length_drop, List.length_replicate, List.length_set, List.length_cons, List.length_nil]; omega) ?_
    refine At.a 3 ?_
    refine At.sEl 9 0 47 10 i 9 (.tmp 91) (.tmp 87) ((o.set i (⟨kk, kk + 1, kk + 2, kk + 3, ⟨kk + 4, ⟨kk + 5, kk + 6, kk + 7, kk + 8, e1.entry.cmd.digest⟩⟩⟩ : Rec)).map encRec) ((o.set i (⟨kk, kk + 1, kk + 2, kk + 3, ⟨kk + 4, ⟨kk + 5, kk + 6, kk + 7, kk + 8, markT (kk + 9)⟩⟩⟩ : Rec)).map encRec) [.str (markT (kk + 9))] (.str (markT (kk + 9))) (encRec (⟨kk, kk + 1, kk + 2, kk + 3, ⟨kk + 4, ⟨kk + 5, kk + 6, kk + 7, kk + 8, e1.entry.cmd.digest⟩⟩⟩ : Rec)) (encRec (⟨kk, kk + 1, kk + 2, kk + 3, ⟨kk + 4, ⟨kk + 5, kk + 6, kk + 7, kk + 8, markT (kk + 9)⟩⟩⟩ : Rec)) (mapGet (setGet he1)) setSetV ?_
    refine At.done rfl ?_
    refine AW.region (At.start ?_)
    refine At.a 2 ?_
    refine At.sJ 93 ((kk + 9) + 1) (kk + 10) (by omega) (by omega) ?_
    refine At.a 1 ?_
    refine At.done rfl ?_
    refine AW.region (At.start ?_)
    refine At.a 2 ?_
    refine At.sI 11 ((i : Int) + 1) (by omega) ?_
    refine At.a 1 ?_
    refine At.done rfl ?_
    exact ⟨(i + 1, (kk + 10), (o.set i (⟨kk, kk + 1, kk + 2, kk + 3, ⟨kk + 4, ⟨kk + 5, kk + 6, kk + 7, kk + 8, markT (kk + 9)⟩⟩⟩ : Rec))), ⟨by omega, hR.step he1 rfl rfl⟩, (by simp only; omega), Sub.o [(0, 0)] [true, true, false, false, false, true]⟩
  · skip
    refine AW.exit ?_
    refine AW.r ?_
    refine At.a 2 ?_
    refine At.done rfl ?_
    refine AW.ret ?_
    refine ⟨_, Sub.refl _ _, ?_⟩
    refine KF.conv (fun w => .int .i64 w) (fun w => [.arr 47 10 ((marks markR nxR a k).map encRec)]) (show (kk) = (ends nxR a k) from (hR.done (by omega)).2) ?_
    refine KF.conv (fun w => .int .i64 kk) (fun w => [.arr 47 10 (w.map encRec)]) (show (o) = (marks markR nxR a k) from (hR.done (by omega)).1) ?_
    exact KF.m [(0, 0)] [.int .i64 kk]
set_option maxRecDepth 100000 in
set_option maxHeartbeats 4000000 in
theorem laws_markOutS_spec  (a : List Out) (k : Int) (hk : 0 ≤ k) (ha : a.length ≤ 1048576) (he : ends nxO a k ≤ 4611686018427387904) (hea : ∀ o ∈ a, o.msg.entries.length ≤ 1048576) : FnSpec Tryz.prog 49 [.ref 0, .int .i64 k] [.arr 51 17 (a.map encOut)] (.int .i64 (ends nxO a k)) [.arr 51 17 ((marks markO nxO a k).map encOut)] := by
  refine FnSpec.of 157 Tryz.func49 rfl Tryz.ntmps49 (by simp) (AW.weakK ?_)
  refine AW.r ?_
  refine At.a 1 ?_
  refine At.done rfl ?_
  refine AW.seq ?_
  refine AW.r ?_
  refine At.a 1 ?_
  refine At.done rfl ?_
  refine AW.block ?_
  refine AW.loopW (fun (x : Nat × Int × List Out) => match x with | (i, kk, o) => Go.Sy.mk [.ref 0, .int .i64 kk, .un, .un, .un, .int .i64 (i : Int)] [(0, .arr 51 17 (o.map encOut))]) (fun (x : Nat × Int × List Out) => match x with | (i, kk, o) => 0 ≤ kk ∧ MInv markO nxO a k i kk o) (fun (x : Nat × Int × List Out) => match x with | (i, kk, o) => a.length - i) (0, k, a) ⟨hk, MInv.start⟩ (Sub.o [(0, 0)] [true, true, false, false, false, true]) ?_
  rintro ⟨i, kk, o⟩ ⟨hkk, hR⟩
  have hle := hR.ge nxO_ge
  have hlo := hR.2.1
  refine AW.seq ?_
  refine AW.r ?_
  refine At.a 3 ?_
  refine At.sL 8 encOut o ?_
  refine At.a 1 ?_
  refine At.done rfl ?_
  refine AW.cD ((i : Int) < (o.length : Int)) (fun h1 => ?_) (fun h1 => ?_)
  · skip
    refine AW.skip ?_
    refine AW.seq ?_
    refine AW.block ?_
    refine AW.r ?_
    refine At.a 3 ?_
    refine At.iRf 38 15 (.tmp 12) (.tmp 13) 0 (o.map encOut) .i64 (i : Int) 51 17 (by omega) (by simp only [List.length_map, List.length_append, List.length_take, List.length_drop, List.length_replicate, List.length_set, List.length_cons, List.length_nil]; omega) ?_
    refine At.a 1 ?_
    refine Exists.elim (show ∃ e, o[i]? = some e from ⟨_, List.getElem?_eq_getElem (by omega)⟩) fun e1 he1 => ?_
    have hlt := hR.le nxO_ge he1
    have hge := ends_ge nxE_ge e1.msg.entries (kk + 16)
    rw [nxO] at hlt
    have hen := hea _ (List.mem_of_getElem? (hR.get he1))
    refine At.sEl 3 0 51 17 i 0 (.tmp 16) (.tmp 14) (o.map encOut) ((o.set i (⟨kk, e1.msg⟩ : Out)).map encOut) [.int .i64 kk] (.int .i64 kk) (encOut e1) (encOut (⟨kk, e1.msg⟩ : Out)) (mapGet he1) setV ?_
    refine At.done rfl ?_
    refine AW.r ?_
    refine At.a 2 ?_
    refine At.sI 18 (kk + 1) (by omega) ?_
    refine At.a 1 ?_
    refine At.done rfl ?_
    refine AW.r ?_
    refine At.a 3 ?_
    refine At.iRf 38 22 (.tmp 19) (.tmp 20) 0 ((o.set i (⟨kk, e1.msg⟩ : Out)).map encOut) .i64 (i : Int) 51 17 (by omega) (by simp only [List.length_map, List.length_append, List.length_take, List.length_drop, List.length_replicate, List.length_set, List.length_cons, List.length_nil]; omega) ?_
    refine At.a 2 ?_
    refine At.sEl 3 0 51 17 i 1 (.tmp 24) (.tmp 21) ((o.set i (⟨kk, e1.msg⟩ : Out)).map encOut) ((o.set i (⟨kk, ⟨kk + 1, e1.msg.from_, e1.msg.term, e1.msg.at_, e1.msg.atTerm, e1.msg.commit, e1.msg.yes, e1.msg.release, e1.msg.part, e1.msg.bytes, ⟨e1.msg.cmd.kind, e1.msg.cmd.release, e1.msg.cmd.node, e1.msg.cmd.size, e1.msg.cmd.digest⟩, e1.msg.entries⟩⟩ : Out)).map encOut) [.int .i64 (kk + 1)] (.int .i64 (kk + 1)) (encOut (⟨kk, e1.msg⟩ : Out)) (encOut (⟨kk, ⟨kk + 1, e1.msg.from_, e1.msg.term, e1.msg.at_, e1.msg.atTerm, e1.msg.commit, e1.msg.yes, e1.msg.release, e1.msg.part, e1.msg.bytes, ⟨e1.msg.cmd.kind, e1.msg.cmd.release, e1.msg.cmd.node, e1.msg.cmd.size, e1.msg.cmd.digest⟩, e1.msg.entries⟩⟩ : Out)) (mapGet (setGet he1)) setSetV ?_
    refine At.done rfl ?_
    refine AW.r ?_
    refine At.a 2 ?_
    refine At.sJ 26 ((kk + 1) + 1) (kk + 2) (by omega) (by omega) ?_
    refine At.a 1 ?_
    refine At.done rfl ?_
    refine AW.r ?_
    refine At.a 3 ?_
    refine At.iRf 38 30 (.tmp 27) (.tmp 28) 0 ((o.set i (⟨kk, ⟨kk + 1, e1.msg.from_, e1.msg.term, e1.msg.at_, e1.msg.atTerm, e1.msg.commit, e1.msg.yes, e1.msg.release, e1.msg.part, e1.msg.bytes, ⟨e1.msg.cmd.kind, e1.msg.cmd.release, e1.msg.cmd.node, e1.msg.cmd.size, e1.msg.cmd.digest⟩, e1.msg.entries⟩⟩ : Out)).map encOut) .i64 (i : Int) 51 17 (by omega) (by simp only [List.length_map, List.length_append, List.length_take, List.length_drop, List.length_replicate, List.length_set, List.length_cons, List.length_nil]; omega) ?_
    refine At.a 2 ?_
    refine At.sEl 3 0 51 17 i 2 (.tmp 32) (.tmp 29) ((o.set i (⟨kk, ⟨kk + 1, e1.msg.from_, e1.msg.term, e1.msg.at_, e1.msg.atTerm, e1.msg.commit, e1.msg.yes, e1.msg.release, e1.msg.part, e1.msg.bytes, ⟨e1.msg.cmd.kind, e1.msg.cmd.release, e1.msg.cmd.node, e1.msg.cmd.size, e1.msg.cmd.digest⟩, e1.msg.entries⟩⟩ : Out)).map encOut) ((o.set i (⟨kk, ⟨kk + 1, kk + 2, e1.msg.term, e1.msg.at_, e1.msg.atTerm, e1.msg.commit, e1.msg.yes, e1.msg.release, e1.msg.part, e1.msg.bytes, ⟨e1.msg.cmd.kind, e1.msg.cmd.release, e1.msg.cmd.node, e1.msg.cmd.size, e1.msg.cmd.digest⟩, e1.msg.entries⟩⟩ : Out)).map encOut) [.int .i64 (kk + 2)] (.int .i64 (kk + 2)) (encOut (⟨kk, ⟨kk + 1, e1.msg.from_, e1.msg.term, e1.msg.at_, e1.msg.atTerm, e1.msg.commit, e1.msg.yes, e1.msg.release, e1.msg.part, e1.msg.bytes, ⟨e1.msg.cmd.kind, e1.msg.cmd.release, e1.msg.cmd.node, e1.msg.cmd.size, e1.msg.cmd.digest⟩, e1.msg.entries⟩⟩ : Out)) (encOut (⟨kk, ⟨kk + 1, kk + 2, e1.msg.term, e1.msg.at_, e1.msg.atTerm, e1.msg.commit, e1.msg.yes, e1.msg.release, e1.msg.part, e1.msg.bytes, ⟨e1.msg.cmd.kind, e1.msg.cmd.release, e1.msg.cmd.node, e1.msg.cmd.size, e1.msg.cmd.digest⟩, e1.msg.entries⟩⟩ : Out)) (mapGet (setGet he1)) setSetV ?_
    refine At.done rfl ?_
    refine AW.r ?_
    refine At.a 2 ?_
    refine At.sJ 34 ((kk + 2) + 1) (kk + 3) (by omega) (by omega) ?_
    refine At.a 1 ?_
    refine At.done rfl ?_
    refine AW.r ?_
    refine At.a 3 ?_
    refine At.iRf 38 38 (.tmp 35) (.tmp 36) 0 ((o.set i (⟨kk, ⟨kk + 1, kk + 2, e1.msg.term, e1.msg.at_, e1.msg.atTerm, e1.msg.commit, e1.msg.yes, e1.msg.release, e1.msg.part, e1.msg.bytes, ⟨e1.msg.cmd.kind, e1.msg.cmd.release, e1.msg.cmd.node, e1.msg.cmd.size, e1.msg.cmd.digest⟩, e1.msg.entries⟩⟩ : Out)).map encOut) .i64 (i : Int) 51 17 (by omega) (by simp only [List.length_map, List.length_append, List.length_take, List.length_drop, List.length_replicate, List.length_set, List.length_cons, List.length_nil]; omega) ?_
    refine At.a 2 ?_
    refine At.sEl 3 0 51 17 i 3 (.tmp 40) (.tmp 37) ((o.set i (⟨kk, ⟨kk + 1, kk + 2, e1.msg.term, e1.msg.at_, e1.msg.atTerm, e1.msg.commit, e1.msg.yes, e1.msg.release, e1.msg.part, e1.msg.bytes, ⟨e1.msg.cmd.kind, e1.msg.cmd.release, e1.msg.cmd.node, e1.msg.cmd.size, e1.msg.cmd.digest⟩, e1.msg.entries⟩⟩ : Out)).map encOut) ((o.set i (⟨kk, ⟨kk + 1, kk + 2, kk + 3, e1.msg.at_, e1.msg.atTerm, e1.msg.commit, e1.msg.yes, e1.msg.release, e1.msg.part, e1.msg.bytes, ⟨e1.msg.cmd.kind, e1.msg.cmd.release, e1.msg.cmd.node, e1.msg.cmd.size, e1.msg.cmd.digest⟩, e1.msg.entries⟩⟩ : Out)).map encOut) [.int .i64 (kk + 3)] (.int .i64 (kk + 3)) (encOut (⟨kk, ⟨kk + 1, kk + 2, e1.msg.term, e1.msg.at_, e1.msg.atTerm, e1.msg.commit, e1.msg.yes, e1.msg.release, e1.msg.part, e1.msg.bytes, ⟨e1.msg.cmd.kind, e1.msg.cmd.release, e1.msg.cmd.node, e1.msg.cmd.size, e1.msg.cmd.digest⟩, e1.msg.entries⟩⟩ : Out)) (encOut (⟨kk, ⟨kk + 1, kk + 2, kk + 3, e1.msg.at_, e1.msg.atTerm, e1.msg.commit, e1.msg.yes, e1.msg.release, e1.msg.part, e1.msg.bytes, ⟨e1.msg.cmd.kind, e1.msg.cmd.release, e1.msg.cmd.node, e1.msg.cmd.size, e1.msg.cmd.digest⟩, e1.msg.entries⟩⟩ : Out)) (mapGet (setGet he1)) setSetV ?_
    refine At.done rfl ?_
    refine AW.r ?_
    refine At.a 2 ?_
    refine At.sJ 42 ((kk + 3) + 1) (kk + 4) (by omega) (by omega) ?_
    refine At.a 1 ?_
    refine At.done rfl ?_
    refine AW.r ?_
    refine At.a 3 ?_
    refine At.iRf 38 46 (.tmp 43) (.tmp 44) 0 ((o.set i (⟨kk, ⟨kk + 1, kk + 2, kk + 3, e1.msg.at_, e1.msg.atTerm, e1.msg.commit, e1.msg.yes, e1.msg.release, e1.msg.part, e1.msg.bytes, ⟨e1.msg.cmd.kind, e1.msg.cmd.release, e1.msg.cmd.node, e1.msg.cmd.size, e1.msg.cmd.digest⟩, e1.msg.entries⟩⟩ : Out)).map encOut) .i64 (i : Int) 51 17 (by omega) (by simp only [List.length_map, List.length_append, List.length_take, List.length_drop, List.length_replicate, List.length_set, List.length_cons, List.length_nil]; omega) ?_
    refine At.a 2 ?_
    refine At.sEl 3 0 51 17 i 4 (.tmp 48) (.tmp 45) ((o.set i (⟨kk, ⟨kk + 1, kk + 2, kk + 3, e1.msg.at_, e1.msg.atTerm, e1.msg.commit, e1.msg.yes, e1.msg.release, e1.msg.part, e1.msg.bytes, ⟨e1.msg.cmd.kind, e1.msg.cmd.release, e1.msg.cmd.node, e1.msg.cmd.size, e1.msg.cmd.digest⟩, e1.msg.entries⟩⟩ : Out)).map encOut) ((o.set i (⟨kk, ⟨kk + 1, kk + 2, kk + 3, kk + 4, e1.msg.atTerm, e1.msg.commit, e1.msg.yes, e1.msg.release, e1.msg.part, e1.msg.bytes, ⟨e1.msg.cmd.kind, e1.msg.cmd.release, e1.msg.cmd.node, e1.msg.cmd.size, e1.msg.cmd.digest⟩, e1.msg.entries⟩⟩ : Out)).map encOut) [.int .i64 (kk + 4)] (.int .i64 (kk + 4)) (encOut (⟨kk, ⟨kk + 1, kk + 2, kk + 3, e1.msg.at_, e1.msg.atTerm, e1.msg.commit, e1.msg.yes, e1.msg.release, e1.msg.part, e1.msg.bytes, ⟨e1.msg.cmd.kind, e1.msg.cmd.release, e1.msg.cmd.node, e1.msg.cmd.size, e1.msg.cmd.digest⟩, e1.msg.entries⟩⟩ : Out)) (encOut (⟨kk, ⟨kk + 1, kk + 2, kk + 3, kk + 4, e1.msg.atTerm, e1.msg.commit, e1.msg.yes, e1.msg.release, e1.msg.part, e1.msg.bytes, ⟨e1.msg.cmd.kind, e1.msg.cmd.release, e1.msg.cmd.node, e1.msg.cmd.size, e1.msg.cmd.digest⟩, e1.msg.entries⟩⟩ : Out)) (mapGet (setGet he1)) setSetV ?_
    refine At.done rfl ?_
    refine AW.r ?_
    refine At.a 2 ?_
    refine At.sJ 50 ((kk + 4) + 1) (kk + 5) (by omega) (by omega) ?_
    refine At.a 1 ?_
    refine At.done rfl ?_
    refine AW.r ?_
    refine At.a 3 ?_
    refine At.iRf 38 54 (.tmp 51) (.tmp 52) 0 ((o.set i (⟨kk, ⟨kk + 1, kk + 2, kk + 3, kk + 4, e1.msg.atTerm, e1.msg.commit, e1.msg.yes, e1.msg.release, e1.msg.part, e1.msg.bytes, ⟨e1.msg.cmd.kind, e1.msg.cmd.release, e1.msg.cmd.node, e1.msg.cmd.size, e1.msg.cmd.digest⟩, e1.msg.entries⟩⟩ : Out)).map encOut) .i64 (i : Int) 51 17 (by omega) (by simp only [List.length_map, List.length_append, List.length_take, List.length_drop, List.length_replicate, List.length_set, List.length_cons, List.length_nil]; omega) ?_
    refine At.a 2 ?_
    refine At.sEl 3 0 51 17 i 5 (.tmp 56) (.tmp 53) ((o.set i (⟨kk, ⟨kk + 1, kk + 2, kk + 3, kk + 4, e1.msg.atTerm, e1.msg.commit, e1.msg.yes, e1.msg.release, e1.msg.part, e1.msg.bytes, ⟨e1.msg.cmd.kind, e1.msg.cmd.release, e1.msg.cmd.node, e1.msg.cmd.size, e1.msg.cmd.digest⟩, e1.msg.entries⟩⟩ : Out)).map encOut) ((o.set i (⟨kk, ⟨kk + 1, kk + 2, kk + 3, kk + 4, kk + 5, e1.msg.commit, e1.msg.yes, e1.msg.release, e1.msg.part, e1.msg.bytes, ⟨e1.msg.cmd.kind, e1.msg.cmd.release, e1.msg.cmd.node, e1.msg.cmd.size, e1.msg.cmd.digest⟩, e1.msg.entries⟩⟩ : Out)).map encOut) [.int .i64 (kk + 5)] (.int .i64 (kk + 5)) (encOut (⟨kk, ⟨kk + 1, kk + 2, kk + 3, kk + 4, e1.msg.atTerm, e1.msg.commit, e1.msg.yes, e1.msg.release, e1.msg.part, e1.msg.bytes, ⟨e1.msg.cmd.kind, e1.msg.cmd.release, e1.msg.cmd.node, e1.msg.cmd.size, e1.msg.cmd.digest⟩, e1.msg.entries⟩⟩ : Out)) (encOut (⟨kk, ⟨kk + 1, kk + 2, kk + 3, kk + 4, kk + 5, e1.msg.commit, e1.msg.yes, e1.msg.release, e1.msg.part, e1.msg.bytes, ⟨e1.msg.cmd.kind, e1.msg.cmd.release, e1.msg.cmd.node, e1.msg.cmd.size, e1.msg.cmd.digest⟩, e1.msg.entries⟩⟩ : Out)) (mapGet (setGet he1)) setSetV ?_
    refine At.done rfl ?_
    refine AW.r ?_
    refine At.a 2 ?_
    refine At.sJ 58 ((kk + 5) + 1) (kk + 6) (by omega) (by omega) ?_
    refine At.a 1 ?_
    refine At.done rfl ?_
    refine AW.r ?_
    refine At.a 3 ?_
    refine At.iRf 38 62 (.tmp 59) (.tmp 60) 0 ((o.set i (⟨kk, ⟨kk + 1, kk + 2, kk + 3, kk + 4, kk + 5, e1.msg.commit, e1.msg.yes, e1.msg.release, e1.msg.part, e1.msg.bytes, ⟨e1.msg.cmd.kind, e1.msg.cmd.release, e1.msg.cmd.node, e1.msg.cmd.size, e1.msg.cmd.digest⟩, e1.msg.entries⟩⟩ : Out)).map encOut) .i64 (i : Int) 51 17 (by omega) (by simp only [List.length_map, List.length_append, List.length_take, List.length_drop, List.length_replicate, List.length_set, List.length_cons, List.length_nil]; omega) ?_
    refine At.a 2 ?_
    refine At.sEl 3 0 51 17 i 6 (.tmp 64) (.tmp 61) ((o.set i (⟨kk, ⟨kk + 1, kk + 2, kk + 3, kk + 4, kk + 5, e1.msg.commit, e1.msg.yes, e1.msg.release, e1.msg.part, e1.msg.bytes, ⟨e1.msg.cmd.kind, e1.msg.cmd.release, e1.msg.cmd.node, e1.msg.cmd.size, e1.msg.cmd.digest⟩, e1.msg.entries⟩⟩ : Out)).map encOut) ((o.set i (⟨kk, ⟨kk + 1, kk + 2, kk + 3, kk + 4, kk + 5, kk + 6, e1.msg.yes, e1.msg.release, e1.msg.part, e1.msg.bytes, ⟨e1.msg.cmd.kind, e1.msg.cmd.release, e1.msg.cmd.node, e1.msg.cmd.size, e1.msg.cmd.digest⟩, e1.msg.entries⟩⟩ : Out)).map encOut) [.int .i64 (kk + 6)] (.int .i64 (kk + 6)) (encOut (⟨kk, ⟨kk + 1, kk + 2, kk + 3, kk + 4, kk + 5, e1.msg.commit, e1.msg.yes, e1.msg.release, e1.msg.part, e1.msg.bytes, ⟨e1.msg.cmd.kind, e1.msg.cmd.release, e1.msg.cmd.node, e1.msg.cmd.size, e1.msg.cmd.digest⟩, e1.msg.entries⟩⟩ : Out)) (encOut (⟨kk, ⟨kk + 1, kk + 2, kk + 3, kk + 4, kk + 5, kk + 6, e1.msg.yes, e1.msg.release, e1.msg.part, e1.msg.bytes, ⟨e1.msg.cmd.kind, e1.msg.cmd.release, e1.msg.cmd.node, e1.msg.cmd.size, e1.msg.cmd.digest⟩, e1.msg.entries⟩⟩ : Out)) (mapGet (setGet he1)) setSetV ?_
    refine At.done rfl ?_
    refine AW.r ?_
    refine At.a 2 ?_
    refine At.sJ 66 ((kk + 6) + 1) (kk + 7) (by omega) (by omega) ?_
    refine At.a 1 ?_
    refine At.done rfl ?_
    refine AW.r ?_
    refine At.a 3 ?_
    refine At.div (t := 3) (u := 3) (d := 70) (op := .rem) (x := .tmp 69) (y := .const (.int .i64 3)) (kd := .i64) (a := kk + 7) (b := 3) (by kernel_rfl) (by kernel_rfl) (by kernel_rfl) (by kernel_rfl) (by omega) (.int .i64 ((kk + 7).tmod 3)) (.inr ⟨rfl, rfl⟩) ?_
    refine At.say 70 (.int .i64 ((kk + 7).tmod 3)) (.int .i64 ((kk + 7) % 3)) (by kernel_rfl) (sayRem (by omega)) ?_
    refine At.a 1 ?_
    refine At.iRf 38 72 (.tmp 67) (.tmp 68) 0 ((o.set i (⟨kk, ⟨kk + 1, kk + 2, kk + 3, kk + 4, kk + 5, kk + 6, e1.msg.yes, e1.msg.release, e1.msg.part, e1.msg.bytes, ⟨e1.msg.cmd.kind, e1.msg.cmd.release, e1.msg.cmd.node, e1.msg.cmd.size, e1.msg.cmd.digest⟩, e1.msg.entries⟩⟩ : Out)).map encOut) .i64 (i : Int) 51 17 (by omega) (by simp only [List.length_map, List.length_append, List.length_take, List.length_drop, List.length_replicate, List.length_set, List.length_cons, List.length_nil]; omega) ?_
    refine At.a 2 ?_
    refine At.sEl 4 0 51 17 i 7 (.tmp 74) (.tmp 71) ((o.set i (⟨kk, ⟨kk + 1, kk + 2, kk + 3, kk + 4, kk + 5, kk + 6, e1.msg.yes, e1.msg.release, e1.msg.part, e1.msg.bytes, ⟨e1.msg.cmd.kind, e1.msg.cmd.release, e1.msg.cmd.node, e1.msg.cmd.size, e1.msg.cmd.digest⟩, e1.msg.entries⟩⟩ : Out)).map encOut) ((o.set i (⟨kk, ⟨kk + 1, kk + 2, kk + 3, kk + 4, kk + 5, kk + 6, ((kk + 7) % 3) == 0, e1.msg.release, e1.msg.part, e1.msg.bytes, ⟨e1.msg.cmd.kind, e1.msg.cmd.release, e1.msg.cmd.node, e1.msg.cmd.size, e1.msg.cmd.digest⟩, e1.msg.entries⟩⟩ : Out)).map encOut) [.bool (((kk + 7) % 3) == 0)] (.bool (((kk + 7) % 3) == 0)) (encOut (⟨kk, ⟨kk + 1, kk + 2, kk + 3, kk + 4, kk + 5, kk + 6, e1.msg.yes, e1.msg.release, e1.msg.part, e1.msg.bytes, ⟨e1.msg.cmd.kind, e1.msg.cmd.release, e1.msg.cmd.node, e1.msg.cmd.size, e1.msg.cmd.digest⟩, e1.msg.entries⟩⟩ : Out)) (encOut (⟨kk, ⟨kk + 1, kk + 2, kk + 3, kk + 4, kk + 5, kk + 6, ((kk + 7) % 3) == 0, e1.msg.release, e1.msg.part, e1.msg.bytes, ⟨e1.msg.cmd.kind, e1.msg.cmd.release, e1.msg.cmd.node, e1.msg.cmd.size, e1.msg.cmd.digest⟩, e1.msg.entries⟩⟩ : Out)) (mapGet (setGet he1)) setSetV ?_
    refine At.done rfl ?_
    refine AW.r ?_
    refine At.a 2 ?_
    refine At.sJ 76 ((kk + 7) + 1) (kk + 8) (by omega) (by omega) ?_
    refine At.a 1 ?_
    refine At.done rfl ?_
    refine AW.r ?_
    refine At.a 3 ?_
    refine At.iRf 38 80 (.tmp 77) (.tmp 78) 0 ((o.set i (⟨kk, ⟨kk + 1, kk + 2, kk + 3, kk + 4, kk + 5, kk + 6, ((kk + 7) % 3) == 0, e1.msg.release, e1.msg.part, e1.msg.bytes, ⟨e1.msg.cmd.kind, e1.msg.cmd.release, e1.msg.cmd.node, e1.msg.cmd.size, e1.msg.cmd.digest⟩, e1.msg.entries⟩⟩ : Out)).map encOut) .i64 (i : Int) 51 17 (by omega) (by simp only [List.length_map, List.length_append, List.length_take, List.length_drop, List.length_replicate, List.length_set, List.length_cons, List.length_nil]; omega) ?_
    refine At.a 2 ?_
    refine At.sEl 3 0 51 17 i 8 (.tmp 82) (.tmp 79) ((o.set i (⟨kk, ⟨kk + 1, kk + 2, kk + 3, kk + 4, kk + 5, kk + 6, ((kk + 7) % 3) == 0, e1.msg.release, e1.msg.part, e1.msg.bytes, ⟨e1.msg.cmd.kind, e1.msg.cmd.release, e1.msg.cmd.node, e1.msg.cmd.size, e1.msg.cmd.digest⟩, e1.msg.entries⟩⟩ : Out)).map encOut) ((o.set i (⟨kk, ⟨kk + 1, kk + 2, kk + 3, kk + 4, kk + 5, kk + 6, ((kk + 7) % 3) == 0, kk + 8, e1.msg.part, e1.msg.bytes, ⟨e1.msg.cmd.kind, e1.msg.cmd.release, e1.msg.cmd.node, e1.msg.cmd.size, e1.msg.cmd.digest⟩, e1.msg.entries⟩⟩ : Out)).map encOut) [.int .i64 (kk + 8)] (.int .i64 (kk + 8)) (encOut (⟨kk, ⟨kk + 1, kk + 2, kk + 3, kk + 4, kk + 5, kk + 6, ((kk + 7) % 3) == 0, e1.msg.release, e1.msg.part, e1.msg.bytes, ⟨e1.msg.cmd.kind, e1.msg.cmd.release, e1.msg.cmd.node, e1.msg.cmd.size, e1.msg.cmd.digest⟩, e1.msg.entries⟩⟩ : Out)) (encOut (⟨kk, ⟨kk + 1, kk + 2, kk + 3, kk + 4, kk + 5, kk + 6, ((kk + 7) % 3) == 0, kk + 8, e1.msg.part, e1.msg.bytes, ⟨e1.msg.cmd.kind, e1.msg.cmd.release, e1.msg.cmd.node, e1.msg.cmd.size, e1.msg.cmd.digest⟩, e1.msg.entries⟩⟩ : Out)) (mapGet (setGet he1)) setSetV ?_
    refine At.done rfl ?_
    refine AW.r ?_
    refine At.a 2 ?_
    refine At.sJ 84 ((kk + 8) + 1) (kk + 9) (by omega) (by omega) ?_
    refine At.a 1 ?_
    refine At.done rfl ?_
    refine AW.r ?_
    refine At.a 3 ?_
    refine At.iRf 38 88 (.tmp 85) (.tmp 86) 0 ((o.set i (⟨kk, ⟨kk + 1, kk + 2, kk + 3, kk + 4, kk + 5, kk + 6, ((kk + 7) % 3) == 0, kk + 8, e1.msg.part, e1.msg.bytes, ⟨e1.msg.cmd.kind, e1.msg.cmd.release, e1.msg.cmd.node, e1.msg.cmd.size, e1.msg.cmd.digest⟩, e1.msg.entries⟩⟩ : Out)).map encOut) .i64 (i : Int) 51 17 (by omega) (by simp only [List.length_map, List.length_append, List.length_take, List.length_drop, List.length_replicate, List.length_set, List.length_cons, List.length_nil]; omega) ?_
    refine At.a 2 ?_
    refine At.sEl 3 0 51 17 i 9 (.tmp 90) (.tmp 87) ((o.set i (⟨kk, ⟨kk + 1, kk + 2, kk + 3, kk + 4, kk + 5, kk + 6, ((kk + 7) % 3) == 0, kk + 8, e1.msg.part, e1.msg.bytes, ⟨e1.msg.cmd.kind, e1.msg.cmd.release, e1.msg.cmd.node, e1.msg.cmd.size, e1.msg.cmd.digest⟩, e1.msg.entries⟩⟩ : Out)).map encOut) ((o.set i (⟨kk, ⟨kk + 1, kk + 2, kk + 3, kk + 4, kk + 5, kk + 6, ((kk + 7) % 3) == 0, kk + 8, kk + 9, e1.msg.bytes, ⟨e1.msg.cmd.kind, e1.msg.cmd.release, e1.msg.cmd.node, e1.msg.cmd.size, e1.msg.cmd.digest⟩, e1.msg.entries⟩⟩ : Out)).map encOut) [.int .i64 (kk + 9)] (.int .i64 (kk + 9)) (encOut (⟨kk, ⟨kk + 1, kk + 2, kk + 3, kk + 4, kk + 5, kk + 6, ((kk + 7) % 3) == 0, kk + 8, e1.msg.part, e1.msg.bytes, ⟨e1.msg.cmd.kind, e1.msg.cmd.release, e1.msg.cmd.node, e1.msg.cmd.size, e1.msg.cmd.digest⟩, e1.msg.entries⟩⟩ : Out)) (encOut (⟨kk, ⟨kk + 1, kk + 2, kk + 3, kk + 4, kk + 5, kk + 6, ((kk + 7) % 3) == 0, kk + 8, kk + 9, e1.msg.bytes, ⟨e1.msg.cmd.kind, e1.msg.cmd.release, e1.msg.cmd.node, e1.msg.cmd.size, e1.msg.cmd.digest⟩, e1.msg.entries⟩⟩ : Out)) (mapGet (setGet he1)) setSetV ?_
    refine At.done rfl ?_
    refine AW.r ?_
    refine At.a 2 ?_
    refine At.sJ 92 ((kk + 9) + 1) (kk + 10) (by omega) (by omega) ?_
    refine At.a 1 ?_
    refine At.done rfl ?_
    refine AW.r ?_
    refine At.a 3 ?_
    refine At.c (laws_markText_spec  (kk + 10) (by omega)) Tryz.call133 true [] [] [] trivial ?_
    refine At.iRf 38 97 (.tmp 93) (.tmp 94) 0 ((o.set i (⟨kk, ⟨kk + 1, kk + 2, kk + 3, kk + 4, kk + 5, kk + 6, ((kk + 7) % 3) == 0, kk + 8, kk + 9, e1.msg.bytes, ⟨e1.msg.cmd.kind, e1.msg.cmd.release, e1.msg.cmd.node, e1.msg.cmd.size, e1.msg.cmd.digest⟩, e1.msg.entries⟩⟩ : Out)).map encOut) .i64 (i : Int) 51 17 (by omega) (by simp only [List.length_map, List.length_append, List.length_take, List.length_drop, List.length_replicate, List.length_set, List.length_cons, List.length_nil]; omega) ?_
    refine At.a 2 ?_
    refine At.sEl 9 0 51 17 i 10 (.tmp 99) (.tmp 96) ((o.set i (⟨kk, ⟨kk + 1, kk + 2, kk + 3, kk + 4, kk + 5, kk + 6, ((kk + 7) % 3) == 0, kk + 8, kk + 9, e1.msg.bytes, ⟨e1.msg.cmd.kind, e1.msg.cmd.release, e1.msg.cmd.node, e1.msg.cmd.size, e1.msg.cmd.digest⟩, e1.msg.entries⟩⟩ : Out)).map encOut) ((o.set i (⟨kk, ⟨kk + 1, kk + 2, kk + 3, kk + 4, kk + 5, kk + 6, ((kk + 7) % 3) == 0, kk + 8, kk + 9, markT (kk + 10), ⟨e1.msg.cmd.kind, e1.msg.cmd.release, e1.msg.cmd.node, e1.msg.cmd.size, e1.msg.cmd.digest⟩, e1.msg.entries⟩⟩ : Out)).map encOut) [.str (markT (kk + 10))] (.str (markT (kk + 10))) (encOut (⟨kk, ⟨kk + 1, kk + 2, kk + 3, kk + 4, kk + 5, kk + 6, ((kk + 7) % 3) == 0, kk + 8, kk + 9, e1.msg.bytes, ⟨e1.msg.cmd.kind, e1.msg.cmd.release, e1.msg.cmd.node, e1.msg.cmd.size, e1.msg.cmd.digest⟩, e1.msg.entries⟩⟩ : Out)) (encOut (⟨kk, ⟨kk + 1, kk + 2, kk + 3, kk + 4, kk + 5, kk + 6, ((kk + 7) % 3) == 0, kk + 8, kk + 9, markT (kk + 10), ⟨e1.msg.cmd.kind, e1.msg.cmd.release, e1.msg.cmd.node, e1.msg.cmd.size, e1.msg.cmd.digest⟩, e1.msg.entries⟩⟩ : Out)) (mapGet (setGet he1)) setSetV ?_
    refine At.done rfl ?_
    refine AW.r ?_
    refine At.a 2 ?_
    refine At.sJ 101 ((kk + 10) + 1) (kk + 11) (by omega) (by omega) ?_
    refine At.a 1 ?_
    refine At.done rfl ?_
    refine AW.r ?_
    refine At.a 3 ?_
    refine At.iRf 38 105 (.tmp 102) (.tmp 103) 0 ((o.set i (⟨kk, ⟨kk + 1, kk + 2, kk + 3, kk + 4, kk + 5, kk + 6, ((kk + 7) % 3) == 0, kk + 8, kk + 9, markT (kk + 10), ⟨e1.msg.cmd.kind, e1.msg.cmd.release, e1.msg.cmd.node, e1.msg.cmd.size, e1.msg.cmd.digest⟩, e1.msg.entries⟩⟩ : Out)).map encOut) .i64 (i : Int) 51 17 (by omega) (by simp only [List.length_map, List.length_append, List.length_take, List.length_drop, List.length_replicate, List.length_set, List.length_cons, List.length_nil]; omega) ?_
    refine At.a 3 ?_
    refine At.sEl 3 0 51 17 i 11 (.tmp 108) (.tmp 104) ((o.set i (⟨kk, ⟨kk + 1, kk + 2, kk + 3, kk + 4, kk + 5, kk + 6, ((kk + 7) % 3) == 0, kk + 8, kk + 9, markT (kk + 10), ⟨e1.msg.cmd.kind, e1.msg.cmd.release, e1.msg.cmd.node, e1.msg.cmd.size, e1.msg.cmd.digest⟩, e1.msg.entries⟩⟩ : Out)).map encOut) ((o.set i (⟨kk, ⟨kk + 1, kk + 2, kk + 3, kk + 4, kk + 5, kk + 6, ((kk + 7) % 3) == 0, kk + 8, kk + 9, markT (kk + 10), ⟨kk + 11, e1.msg.cmd.release, e1.msg.cmd.node, e1.msg.cmd.size, e1.msg.cmd.digest⟩, e1.msg.entries⟩⟩ : Out)).map encOut) [.int .i64 (kk + 11)] (.int .i64 (kk + 11)) (encOut (⟨kk, ⟨kk + 1, kk + 2, kk + 3, kk + 4, kk + 5, kk + 6, ((kk + 7) % 3) == 0, kk + 8, kk + 9, markT (kk + 10), ⟨e1.msg.cmd.kind, e1.msg.cmd.release, e1.msg.cmd.node, e1.msg.cmd.size, e1.msg.cmd.digest⟩, e1.msg.entries⟩⟩ : Out)) (encOut (⟨kk, ⟨kk + 1, kk + 2, kk + 3, kk + 4, kk + 5, kk + 6, ((kk + 7) % 3) == 0, kk + 8, kk + 9, markT (kk + 10), ⟨kk + 11, e1.msg.cmd.release, e1.msg.cmd.node, e1.msg.cmd.size, e1.msg.cmd.digest⟩, e1.msg.entries⟩⟩ : Out)) (mapGet (setGet he1)) setSetV ?_
    refine At.done rfl ?_
    refine AW.r ?_
    refine At.a 2 ?_
    refine At.sJ 110 ((kk + 11) + 1) (kk + 12) (by omega) (by omega) ?_
    refine At.a 1 ?_
    refine At.done rfl ?_
    refine AW.r ?_
    refine At.a 3 ?_
    refine At.iRf 38 114 (.tmp 111) (.tmp 112) 0 ((o.set i (⟨kk, ⟨kk + 1, kk + 2, kk + 3, kk + 4, kk + 5, kk + 6, ((kk + 7) % 3) == 0, kk + 8, kk + 9, markT (kk + 10), ⟨kk + 11, e1.msg.cmd.release, e1.msg.cmd.node, e1.msg.cmd.size, e1.msg.cmd.digest⟩, e1.msg.entries⟩⟩ : Out)).map encOut) .i64 (i : Int) 51 17 (by omega) (by simp only [List.length_map, List.length_append, List.length_take, List.length_drop, List.length_replicate, List.length_set, List.length_cons, List.length_nil]; omega) ?_
    refine At.a 3 ?_
    refine At.sEl 3 0 51 17 i 12 (.tmp 117) (.tmp 113) ((o.set i (⟨kk, ⟨kk + 1, kk + 2, kk + 3, kk + 4, kk + 5, kk + 6, ((kk + 7) % 3) == 0, kk + 8, kk + 9, markT (kk + 10), ⟨kk + 11, e1.msg.cmd.release, e1.msg.cmd.node, e1.msg.cmd.size, e1.msg.cmd.digest⟩, e1.msg.entries⟩⟩ : Out)).map encOut) ((o.set i (⟨kk, ⟨kk + 1, kk + 2, kk + 3, kk + 4, kk + 5, kk + 6, ((kk + 7) % 3) == 0, kk + 8, kk + 9, markT (kk + 10), ⟨kk + 11, kk + 12, e1.msg.cmd.node, e1.msg.cmd.size, e1.msg.cmd.digest⟩, e1.msg.entries⟩⟩ : Out)).map encOut) [.int .i64 (kk + 12)] (.int .i64 (kk + 12)) (encOut (⟨kk, ⟨kk + 1, kk + 2, kk + 3, kk + 4, kk + 5, kk + 6, ((kk + 7) % 3) == 0, kk + 8, kk + 9, markT (kk + 10), ⟨kk + 11, e1.msg.cmd.release, e1.msg.cmd.node, e1.msg.cmd.size, e1.msg.cmd.digest⟩, e1.msg.entries⟩⟩ : Out)) (encOut (⟨kk, ⟨kk + 1, kk + 2, kk + 3, kk + 4, kk + 5, kk + 6, ((kk + 7) % 3) == 0, kk + 8, kk + 9, markT (kk + 10), ⟨kk + 11, kk + 12, e1.msg.cmd.node, e1.msg.cmd.size, e1.msg.cmd.digest⟩, e1.msg.entries⟩⟩ : Out)) (mapGet (setGet he1)) setSetV ?_
    refine At.done rfl ?_
    refine AW.r ?_
    refine At.a 2 ?_
    refine At.sJ 119 ((kk + 12) + 1) (kk + 13) (by omega) (by omega) ?_
    refine At.a 1 ?_
    refine At.done rfl ?_
    refine AW.r ?_
    refine At.a 3 ?_
    refine At.iRf 38 123 (.tmp 120) (.tmp 121) 0 ((o.set i (⟨kk, ⟨kk + 1, kk + 2, kk + 3, kk + 4, kk + 5, kk + 6, ((kk + 7) % 3) == 0, kk + 8, kk + 9, markT (kk + 10), ⟨kk + 11, kk + 12, e1.msg.cmd.node, e1.msg.cmd.size, e1.msg.cmd.digest⟩, e1.msg.entries⟩⟩ : Out)).map encOut) .i64 (i : Int) 51 17 (by omega) (by simp only [List.length_map, List.length_append, List.length_take, List.length_drop, List.length_replicate, List.length_set, List.length_cons, List.length_nil]; omega) ?_
    refine At.a 3 ?_
    refine At.sEl 3 0 51 17 i 13 (.tmp 126) (.tmp 122) ((o.set i (⟨kk, ⟨kk + 1, kk + 2, kk + 3, kk + 4, kk + 5, kk + 6, ((kk + 7) % 3) == 0, kk + 8, kk + 9, markT (kk + 10), ⟨kk + 11, kk + 12, e1.msg.cmd.node, e1.msg.cmd.size, e1.msg.cmd.digest⟩, e1.msg.entries⟩⟩ : Out)).map encOut) ((o.set i (⟨kk, ⟨kk + 1, kk + 2, kk + 3, kk + 4, kk + 5, kk + 6, ((kk + 7) % 3) == 0, kk + 8, kk + 9, markT (kk + 10), ⟨kk + 11, kk + 12, kk + 13, e1.msg.cmd.size, e1.msg.cmd.digest⟩, e1.msg.entries⟩⟩ : Out)).map encOut) [.int .i64 (kk + 13)] (.int .i64 (kk + 13)) (encOut (⟨kk, ⟨kk + 1, kk + 2, kk + 3, kk + 4, kk + 5, kk + 6, ((kk + 7) % 3) == 0, kk + 8, kk + 9, markT (kk + 10), ⟨kk + 11, kk + 12, e1.msg.cmd.node, e1.msg.cmd.size, e1.msg.cmd.digest⟩, e1.msg.entries⟩⟩ : Out)) (encOut (⟨kk, ⟨kk + 1, kk + 2, kk + 3, kk + 4, kk + 5, kk + 6, ((kk + 7) % 3) == 0, kk + 8, kk + 9, markT (kk + 10), ⟨kk + 11, kk + 12, kk + 13, e1.msg.cmd.size, e1.msg.cmd.digest⟩, e1.msg.entries⟩⟩ : Out)) (mapGet (setGet he1)) setSetV ?_
    refine At.done rfl ?_
    refine AW.r ?_
    refine At.a 2 ?_
    refine At.sJ 128 ((kk + 13) + 1) (kk + 14) (by omega) (by omega) ?_
    refine At.a 1 ?_
    refine At.done rfl ?_
    refine AW.r ?_
    refine At.a 3 ?_
    refine At.iRf 38 132 (.tmp 129) (.tmp 130) 0 ((o.set i (⟨kk, ⟨kk + 1, kk + 2, kk + 3, kk + 4, kk + 5, kk + 6, ((kk + 7) % 3) == 0, kk + 8, kk + 9, markT (kk + 10), ⟨kk + 11, kk + 12, kk + 13, e1.msg.cmd.size, e1.msg.cmd.digest⟩, e1.msg.entries⟩⟩ : Out)).map encOut) .i64 (i : Int) 51 17 (by omega) (by simp only [List.length_map, List.length_append, List.length_take, List.length_drop, List.length_replicate, List.length_set, List.length_cons, List.length_nil]; omega) ?_
    refine At.a 3 ?_
    refine At.sEl 3 0 51 17 i 14 (.tmp 135) (.tmp 131) ((o.set i (⟨kk, ⟨kk + 1, kk + 2, kk + 3, kk + 4, kk + 5, kk + 6, ((kk + 7) % 3) == 0, kk + 8, kk + 9, markT (kk + 10), ⟨kk + 11, kk + 12, kk + 13, e1.msg.cmd.size, e1.msg.cmd.digest⟩, e1.msg.entries⟩⟩ : Out)).map encOut) ((o.set i (⟨kk, ⟨kk + 1, kk + 2, kk + 3, kk + 4, kk + 5, kk + 6, ((kk + 7) % 3) == 0, kk + 8, kk + 9, markT (kk + 10), ⟨kk + 11, kk + 12, kk + 13, kk + 14, e1.msg.cmd.digest⟩, e1.msg.entries⟩⟩ : Out)).map encOut) [.int .i64 (kk + 14)] (.int .i64 (kk + 14)) (encOut (⟨kk, ⟨kk + 1, kk + 2, kk + 3, kk + 4, kk + 5, kk + 6, ((kk + 7) % 3) == 0, kk + 8, kk + 9, markT (kk + 10), ⟨kk + 11, kk + 12, kk + 13, e1.msg.cmd.size, e1.msg.cmd.digest⟩, e1.msg.entries⟩⟩ : Out)) (encOut (⟨kk, ⟨kk + 1, kk + 2, kk + 3, kk + 4, kk + 5, kk + 6, ((kk + 7) % 3) == 0, kk + 8, kk + 9, markT (kk + 10), ⟨kk + 11, kk + 12, kk + 13, kk + 14, e1.msg.cmd.digest⟩, e1.msg.entries⟩⟩ : Out)) (mapGet (setGet he1)) setSetV ?_
    refine At.done rfl ?_
    refine AW.r ?_
    refine At.a 2 ?_
    refine At.sJ 137 ((kk + 14) + 1) (kk + 15) (by omega) (by omega) ?_
    refine At.a 1 ?_
    refine At.done rfl ?_
    refine AW.r ?_
    refine At.a 3 ?_
    refine At.c (laws_markText_spec  (kk + 15) (by omega)) Tryz.call133 true [] [] [] trivial ?_
    refine At.iRf 38 142 (.tmp 138) (.tmp 139) 0 ((o.set i (⟨kk, ⟨kk + 1, kk + 2, kk + 3, kk + 4, kk + 5, kk + 6, ((kk + 7) % 3) == 0, kk + 8, kk + 9, markT (kk + 10), ⟨kk + 11, kk + 12, kk + 13, kk + 14, e1.msg.cmd.digest⟩, e1.msg.entries⟩⟩ : Out)).map encOut) .i64 (i : Int) 51 17 (by omega) (by simp only [List.length_map, List.length_append, List.length_take, List.length_drop, List.length_replicate, List.length_set, List.length_cons, List.length_nil]; omega) ?_
    refine At.a 3 ?_
    refine At.sEl 9 0 51 17 i 15 (.tmp 145) (.tmp 141) ((o.set i (⟨kk, ⟨kk + 1, kk + 2, kk + 3, kk + 4, kk + 5, kk + 6, ((kk + 7) % 3) == 0, kk + 8, kk + 9, markT (kk + 10), ⟨kk + 11, kk + 12, kk + 13, kk + 14, e1.msg.cmd.digest⟩, e1.msg.entries⟩⟩ : Out)).map encOut) ((o.set i (⟨kk, ⟨kk + 1, kk + 2, kk + 3, kk + 4, kk + 5, kk + 6, ((kk + 7) % 3) == 0, kk + 8, kk + 9, markT (kk + 10), ⟨kk + 11, kk + 12, kk + 13, kk + 14, markT (kk + 15)⟩, e1.msg.entries⟩⟩ : Out)).map encOut) [.str (markT (kk + 15))] (.str (markT (kk + 15))) (encOut (⟨kk, ⟨kk + 1, kk + 2, kk + 3, kk + 4, kk + 5, kk + 6, ((kk + 7) % 3) == 0, kk + 8, kk + 9, markT (kk + 10), ⟨kk + 11, kk + 12, kk + 13, kk + 14, e1.msg.cmd.digest⟩, e1.msg.entries⟩⟩ : Out)) (encOut (⟨kk, ⟨kk + 1, kk + 2, kk + 3, kk + 4, kk + 5, kk + 6, ((kk + 7) % 3) == 0, kk + 8, kk + 9, markT (kk + 10), ⟨kk + 11, kk + 12, kk + 13, kk + 14, markT (kk + 15)⟩, e1.msg.entries⟩⟩ : Out)) (mapGet (setGet he1)) setSetV ?_
    refine At.done rfl ?_
    refine AW.r ?_
    refine At.a 2 ?_
    refine At.sJ 147 ((kk + 15) + 1) (kk + 16) (by omega) (by omega) ?_
    refine At.a 1 ?_
    refine At.done rfl ?_
    refine AW.region (At.start ?_)
    refine At.a 2 ?_
    refine At.iRf 38 150 (.tmp 148) (.tmp 149) 0 ((o.set i (⟨kk, ⟨kk + 1, kk + 2, kk + 3, kk + 4, kk + 5, kk + 6, ((kk + 7) % 3) == 0, kk + 8, kk + 9, markT (kk + 10), ⟨kk + 11, kk + 12, kk + 13, kk + 14, markT (kk + 15)⟩, e1.msg.entries⟩⟩ : Out)).map encOut) .i64 (i : Int) 51 17 (by omega) (by simp only [List.length_map, List.length_append, List.length_take, List.length_drop, List.length_replicate, List.length_set, List.length_cons, List.length_nil]; omega) ?_
    refine At.a 2 ?_
    refine At.out (t := 24) (d := 153) (x := .tmp 152) (i := 0) (e := 51) (es := 17) (xs := ((o.set i (⟨kk, ⟨kk + 1, kk + 2, kk + 3, kk + 4, kk + 5, kk + 6, ((kk + 7) % 3) == 0, kk + 8, kk + 9, markT (kk + 10), ⟨kk + 11, kk + 12, kk + 13, kk + 14, markT (kk + 15)⟩, e1.msg.entries⟩⟩ : Out)).map encOut)) (xs' := (((o.set i (⟨kk, ⟨kk + 1, kk + 2, kk + 3, kk + 4, kk + 5, kk + 6, ((kk + 7) % 3) == 0, kk + 8, kk + 9, markT (kk + 10), ⟨kk + 11, kk + 12, kk + 13, kk + 14, markT (kk + 15)⟩, e1.msg.entries⟩⟩ : Out)).map encOut)).set i (.agg [.int .i64 kk, .int .i64 (kk + 1), .int .i64 (kk + 2), .int .i64 (kk + 3), .int .i64 (kk + 4), .int .i64 (kk + 5), .int .i64 (kk + 6), .bool (((kk + 7) % 3) == 0), .int .i64 (kk + 8), .int .i64 (kk + 9), .str (markT (kk + 10)), .int .i64 (kk + 11), .int .i64 (kk + 12), .int .i64 (kk + 13), .int .i64 (kk + 14), .str (markT (kk + 15)), .un])) (j := i) (off := 16) (ys := (e1.msg.entries.map encEnt)) (e' := 45) (es' := 6) 253 (encOut (⟨kk, ⟨kk + 1, kk + 2, kk + 3, kk + 4, kk + 5, kk + 6, ((kk + 7) % 3) == 0, kk + 8, kk + 9, markT (kk + 10), ⟨kk + 11, kk + 12, kk + 13, kk + 14, markT (kk + 15)⟩, e1.msg.entries⟩⟩ : Out)) (.agg [.int .i64 kk, .int .i64 (kk + 1), .int .i64 (kk + 2), .int .i64 (kk + 3), .int .i64 (kk + 4), .int .i64 (kk + 5), .int .i64 (kk + 6), .bool (((kk + 7) % 3) == 0), .int .i64 (kk + 8), .int .i64 (kk + 9), .str (markT (kk + 10)), .int .i64 (kk + 11), .int .i64 (kk + 12), .int .i64 (kk + 13), .int .i64 (kk + 14), .str (markT (kk + 15)), .un]) (by kernel_rfl) (by kernel_rfl) (by kernel_rfl) (by kernel_rfl) (by kernel_rfl) (mapGet (setGet he1)) (by kernel_rfl) (by decide) rfl ?_
    refine At.a 1 ?_
    refine At.c (laws_markEntryS_spec  e1.msg.entries (kk + 16) (by omega) (by omega) (by omega)) Tryz.call132 true [(253, 0)] [] [] trivial ?_
    refine At.a 1 ?_
    refine At.done rfl ?_
    refine AW.weak (Sub.close (i := 0) (e := 51) (es := 17) (j := i) (off := 16) (k := 253) (e' := 45) (es' := 6) (xs := (((o.set i (⟨kk, ⟨kk + 1, kk + 2, kk + 3, kk + 4, kk + 5, kk + 6, ((kk + 7) % 3) == 0, kk + 8, kk + 9, markT (kk + 10), ⟨kk + 11, kk + 12, kk + 13, kk + 14, markT (kk + 15)⟩, e1.msg.entries⟩⟩ : Out)).map encOut)).set i (.agg [.int .i64 kk, .int .i64 (kk + 1), .int .i64 (kk + 2), .int .i64 (kk + 3), .int .i64 (kk + 4), .int .i64 (kk + 5), .int .i64 (kk + 6), .bool (((kk + 7) % 3) == 0), .int .i64 (kk + 8), .int .i64 (kk + 9), .str (markT (kk + 10)), .int .i64 (kk + 11), .int .i64 (kk + 12), .int .i64 (kk + 13), .int .i64 (kk + 14), .str (markT (kk + 15)), .un])) (xs' := ((o.set i (⟨kk, ⟨kk + 1, kk + 2, kk + 3, kk + 4, kk + 5, kk + 6, ((kk + 7) % 3) == 0, kk + 8, kk + 9, markT (kk + 10), ⟨kk + 11, kk + 12, kk + 13, kk + 14, markT (kk + 15)⟩, marks markE nxE e1.msg.entries (kk + 16)⟩⟩ : Out)).map encOut)) (zs := ((marks markE nxE e1.msg.entries (kk + 16)).map encEnt)) (y := .agg [.int .i64 kk, .int .i64 (kk + 1), .int .i64 (kk + 2), .int .i64 (kk + 3), .int .i64 (kk + 4), .int .i64 (kk + 5), .int .i64 (kk + 6), .bool (((kk + 7) % 3) == 0), .int .i64 (kk + 8), .int .i64 (kk + 9), .str (markT (kk + 10)), .int .i64 (kk + 11), .int .i64 (kk + 12), .int .i64 (kk + 13), .int .i64 (kk + 14), .str (markT (kk + 15)), .un]) (y' := encOut (⟨kk, ⟨kk + 1, kk + 2, kk + 3, kk + 4, kk + 5, kk + 6, ((kk + 7) % 3) == 0, kk + 8, kk + 9, markT (kk + 10), ⟨kk + 11, kk + 12, kk + 13, kk + 14, markT (kk + 15)⟩, marks markE nxE e1.msg.entries (kk + 16)⟩⟩ : Out)) (by kernel_rfl) flatEnts (by decide) (setGet (mapGet (setGet he1))) (by kernel_rfl) (by rw [List.set_set, ← setSetV])) ?_
    refine AW.region (At.start ?_)
    refine At.a 2 ?_
    refine At.sI 11 ((i : Int) + 1) (by omega) ?_
    refine At.a 1 ?_
    refine At.done rfl ?_
    exact ⟨(i + 1, (ends nxE e1.msg.entries (kk + 16)), (o.set i (⟨kk, ⟨kk + 1, kk + 2, kk + 3, kk + 4, kk + 5, kk + 6, ((kk + 7) % 3) == 0, kk + 8, kk + 9, markT (kk + 10), ⟨kk + 11, kk + 12, kk + 13, kk + 14, markT (kk + 15)⟩, marks markE nxE e1.msg.entries (kk + 16)⟩⟩ : Out))), ⟨by omega, hR.step he1 rfl rfl⟩, (by simp only; omega), Sub.o [(0, 0)] [true, true, false, false, false, true]⟩
  · skip
    refine AW.exit ?_
    refine AW.r ?_
    refine At.a 2 ?_
    refine At.done rfl ?_
    refine AW.ret ?_
    refine ⟨_, Sub.refl _ _, ?_⟩
    refine KF.conv (fun w => .int .i64 w) (fun w => [.arr 51 17 ((marks markO nxO a k).map encOut)]) (show (kk) = (ends nxO a k) from (hR.done (by omega)).2) ?_
    refine KF.conv (fun w => .int .i64 kk) (fun w => [.arr 51 17 (w.map encOut)]) (show (o) = (marks markO nxO a k) from (hR.done (by omega)).1) ?_
    exact KF.m [(0, 0)] [.int .i64 kk]
set_option maxRecDepth 100000 in
set_option maxHeartbeats 4000000 in
theorem laws_heldEntryS_spec  (a : List Ent) (k : Int) (ha : a.length ≤ 1048576) (hk : 0 ≤ k ∧ k + 20 * a.length ≤ 4611686018427387904) : FnSpec Tryz.prog 136 [.sl false 6 (a.map encEnt), .int .i64 k] [] (.int .i64 (held okE nxE a k)) [] := by
  refine FnSpec.of 73 Tryz.func136 rfl Tryz.ntmps136 (by simp) (AW.weakK ?_)
  refine AW.r ?_
  refine At.a 1 ?_
  refine At.done rfl ?_
  refine AW.seq ?_
  refine AW.r ?_
  refine At.a 1 ?_
  refine At.done rfl ?_
  refine AW.block ?_
  refine AW.loopW (fun (x : Nat × Int) => match x with | (i, kk) => Go.Sy.mk [.sl false 6 (a.map encEnt), .int .i64 kk, .un, .un, .un, .int .i64 (i : Int)] []) (fun (x : Nat × Int) => match x with | (i, kk) => i ≤ a.length ∧ 0 ≤ kk ∧ kk + 20 * ((a.length : Int) - i) ≤ 4611686018427387904 ∧ held okE nxE a k = held okE nxE (a.drop i) kk) (fun (x : Nat × Int) => match x with | (i, kk) => a.length - i) (0, k) ⟨by omega, by omega, by omega, by rw [List.drop_zero]⟩ (Sub.o [] [true, true, false, false, false, true]) ?_
  rintro ⟨i, kk⟩ ⟨hi, hkk, hkb, hR⟩
  refine AW.seq ?_
  refine AW.r ?_
  refine At.a 3 ?_
  refine At.sL 8 encEnt a ?_
  refine At.a 1 ?_
  refine At.done rfl ?_
  refine AW.cD ((i : Int) < (a.length : Int)) (fun h1 => ?_) (fun h1 => ?_)
  · skip
    refine AW.skip ?_
    refine AW.seq ?_
    refine AW.block ?_
    refine AW.seq ?_
    refine AW.r ?_
    refine At.a 2 ?_
    refine At.iSl 24 14 (.tmp 12) (.tmp 13) false 6 (a.map encEnt) .i64 (i : Int) 45 (by omega) (by simp only [List.length_map, List.length_append, List.length_take, List.length_drop, List.length_replicate, List.length_set, List.length_cons, List.length_nil]; omega) ?_
    refine At.a 1 ?_
    refine Exists.elim (show ∃ e, a[i]? = some e from ⟨_, List.getElem?_eq_getElem (by omega)⟩) fun e1 he1 => ?_
    refine At.lVp 3 16 (.tmp 15) false 6 (a.map encEnt) i 0 false 1 (encEnt e1) (.int .i64 e1.term) (mapGet he1) ?_
    refine At.a 2 ?_
    refine At.done rfl ?_
    refine AW.cU e1.term kk (fun h2 => ?_) (fun h2 => ?_)
    · skip
      refine AW.r ?_
      refine At.a 1 ?_
      refine At.done rfl ?_
      refine AW.ret ?_
      refine ⟨_, Sub.refl _ _, ?_⟩
      refine KF.conv (fun w => .int .i64 w) (fun w => []) (show (-1) = (held okE nxE a k) from by rw [hR, dropCons he1, held, if_neg (by simp [okE, h1, h2])]) ?_
      exact KF.m [] [.int .i64 (-1)]
    · skip
      refine AW.skip ?_
      refine AW.r ?_
      refine At.a 2 ?_
      refine At.sI 20 (kk + 1) (by omega) ?_
      refine At.a 1 ?_
      refine At.done rfl ?_
      refine AW.seq ?_
      refine AW.r ?_
      refine At.a 2 ?_
      refine At.iSl 24 23 (.tmp 21) (.tmp 22) false 6 (a.map encEnt) .i64 (i : Int) 45 (by omega) (by simp only [List.length_map, List.length_append, List.length_take, List.length_drop, List.length_replicate, List.length_set, List.length_cons, List.length_nil]; omega) ?_
      refine At.a 2 ?_
      refine At.lVp 3 26 (.tmp 25) false 6 (a.map encEnt) i 1 false 1 (encEnt e1) (.int .i64 e1.cmd.kind) (mapGet he1) ?_
      refine At.a 2 ?_
      refine At.done rfl ?_
      refine AW.cU e1.cmd.kind (kk + 1) (fun h3 => ?_) (fun h3 => ?_)
      · skip
        refine AW.r ?_
        refine At.a 1 ?_
        refine At.done rfl ?_
        refine AW.ret ?_
        refine ⟨_, Sub.refl _ _, ?_⟩
        refine KF.conv (fun w => .int .i64 w) (fun w => []) (show (-1) = (held okE nxE a k) from by rw [hR, dropCons he1, held, if_neg (by simp [okE, h1, h2, h3])]) ?_
        exact KF.m [] [.int .i64 (-1)]
      · skip
        refine AW.skip ?_
        refine AW.r ?_
        refine At.a 2 ?_
        refine At.sJ 30 ((kk + 1) + 1) (kk + 2) (by omega) (by omega) ?_
        refine At.a 1 ?_
        refine At.done rfl ?_
        refine AW.seq ?_
        refine AW.r ?_
        refine At.a 2 ?_
        refine At.iSl 24 33 (.tmp 31) (.tmp 32) false 6 (a.map encEnt) .i64 (i : Int) 45 (by omega) (by simp only [List.length_map, List.length_append, List.length_take, List.length_drop, List.length_replicate, List.length_set, List.length_cons, List.length_nil]; omega) ?_
        refine At.a 2 ?_
        refine At.lVp 3 36 (.tmp 35) false 6 (a.map encEnt) i 2 false 1 (encEnt e1) (.int .i64 e1.cmd.release) (mapGet he1) ?_
        refine At.a 2 ?_
        refine At.done rfl ?_
        refine AW.cU e1.cmd.release (kk + 2) (fun h4 => ?_) (fun h4 => ?_)
        · skip
          refine AW.r ?_
          refine At.a 1 ?_
          refine At.done rfl ?_
          refine AW.ret ?_
          refine ⟨_, Sub.refl _ _, ?_⟩
          refine KF.conv (fun w => .int .i64 w) (fun w => []) (show (-1) = (held okE nxE a k) from by rw [hR, dropCons he1, held, if_neg (by simp [okE, h1, h2, h3, h4])]) ?_
          exact KF.m [] [.int .i64 (-1)]
        · skip
          refine AW.skip ?_
          refine AW.r ?_
          refine At.a 2 ?_
          refine At.sJ 40 ((kk + 2) + 1) (kk + 3) (by omega) (by omega) ?_
          refine At.a 1 ?_
          refine At.done rfl ?_
          refine AW.seq ?_
          refine AW.r ?_
          refine At.a 2 ?_
          refine At.iSl 24 43 (.tmp 41) (.tmp 42) false 6 (a.map encEnt) .i64 (i : Int) 45 (by omega) (by simp only [List.length_map, List.length_append, List.length_take, List.length_drop, List.length_replicate, List.length_set, List.length_cons, List.length_nil]; omega) ?_
          refine At.a 2 ?_
          refine At.lVp 3 46 (.tmp 45) false 6 (a.map encEnt) i 3 false 1 (encEnt e1) (.int .i64 e1.cmd.node) (mapGet he1) ?_
          refine At.a 2 ?_
          refine At.done rfl ?_
          refine AW.cU e1.cmd.node (kk + 3) (fun h5 => ?_) (fun h5 => ?_)
          · skip
            refine AW.r ?_
            refine At.a 1 ?_
            refine At.done rfl ?_
            refine AW.ret ?_
            refine ⟨_, Sub.refl _ _, ?_⟩
            refine KF.conv (fun w => .int .i64 w) (fun w => []) (show (-1) = (held okE nxE a k) from by rw [hR, dropCons he1, held, if_neg (by simp [okE, h1, h2, h3, h4, h5])]) ?_
            exact KF.m [] [.int .i64 (-1)]
          · skip
            refine AW.skip ?_
            refine AW.r ?_
            refine At.a 2 ?_
            refine At.sJ 50 ((kk + 3) + 1) (kk + 4) (by omega) (by omega) ?_
            refine At.a 1 ?_
            refine At.done rfl ?_
            refine AW.seq ?_
            refine AW.r ?_
            refine At.a 2 ?_
            refine At.iSl 24 53 (.tmp 51) (.tmp 52) false 6 (a.map encEnt) .i64 (i : Int) 45 (by omega) (by simp only [List.length_map, List.length_append, List.length_take, List.length_drop, List.length_replicate, List.length_set, List.length_cons, List.length_nil]; omega) ?_
            refine At.a 2 ?_
            refine At.lVp 3 56 (.tmp 55) false 6 (a.map encEnt) i 4 false 1 (encEnt e1) (.int .i64 e1.cmd.size) (mapGet he1) ?_
            refine At.a 2 ?_
            refine At.done rfl ?_
            refine AW.cU e1.cmd.size (kk + 4) (fun h6 => ?_) (fun h6 => ?_)
            · skip
              refine AW.r ?_
              refine At.a 1 ?_
              refine At.done rfl ?_
              refine AW.ret ?_
              refine ⟨_, Sub.refl _ _, ?_⟩
              refine KF.conv (fun w => .int .i64 w) (fun w => []) (show (-1) = (held okE nxE a k) from by rw [hR, dropCons he1, held, if_neg (by simp [okE, h1, h2, h3, h4, h5, h6])]) ?_
              exact KF.m [] [.int .i64 (-1)]
            · skip
              refine AW.skip ?_
              refine AW.r ?_
              refine At.a 2 ?_
              refine At.sJ 60 ((kk + 4) + 1) (kk + 5) (by omega) (by omega) ?_
              refine At.a 1 ?_
              refine At.done rfl ?_
              refine AW.seq ?_
              refine AW.seq ?_
              refine AW.regionD Tryz_mix (At.start ?_)
              refine At.a 2 ?_
              refine At.iSl 24 63 (.tmp 61) (.tmp 62) false 6 (a.map encEnt) .i64 (i : Int) 45 (by omega) (by simp only [List.length_map, List.length_append, List.length_take, List.length_drop, List.length_replicate, List.length_set, List.length_cons, List.length_nil]; omega) ?_
              refine At.a 2 ?_
              refine At.lVp 9 66 (.tmp 65) false 6 (a.map encEnt) i 5 false 1 (encEnt e1) (.str e1.cmd.digest) (mapGet he1) ?_
              refine At.a 1 ?_
              refine At.c (laws_markText_spec  (kk + 5) (by omega)) Tryz.call133 true [] [] [] trivial ?_
              refine At.a 1 ?_
              refine At.done rfl ⟨by kernel_rfl, ?_⟩
              refine AW.cNE (e1.cmd.digest.toList) ((markT (kk + 5)).toList) (fun h7 => ?_) (fun h7 => ?_)
              · skip
                refine AW.r ?_
                refine At.a 1 ?_
                refine At.done rfl ?_
                refine AW.ret ?_
                refine ⟨_, Sub.refl _ _, ?_⟩
                refine KF.conv (fun w => .int .i64 w) (fun w => []) (show (-1) = (held okE nxE a k) from by rw [hR, dropCons he1, held, if_neg (by simp [okE, h1, h2, h3, h4, h5, h6, h7])]) ?_
                exact KF.m [] [.int .i64 (-1)]
              · skip
                refine AW.skip ?_
                refine AW.region (At.start ?_)
                refine At.a 2 ?_
                refine At.sJ 71 ((kk + 5) + 1) (kk + 6) (by omega) (by omega) ?_
                refine At.a 1 ?_
                refine At.done rfl ?_
                refine AW.region (At.start ?_)
                refine At.a 2 ?_
                refine At.sI 11 ((i : Int) + 1) (by omega) ?_
                refine At.a 1 ?_
                refine At.done rfl ?_
                exact ⟨(i + 1, (kk + 6)), ⟨by omega, by omega, by omega, by rw [hR, dropCons he1, held, if_pos (by simp [okE, h1, h2, h3, h4, h5, h6, h7])]; rfl⟩, (by simp only; omega), Sub.o [] [true, true, false, false, false, true]⟩
  · skip
    refine AW.exit ?_
    refine AW.r ?_
    refine At.a 2 ?_
    refine At.done rfl ?_
    refine AW.ret ?_
    refine ⟨_, Sub.refl _ _, ?_⟩
    refine KF.conv (fun w => .int .i64 w) (fun w => []) (show (kk) = (held okE nxE a k) from by rw [hR, List.drop_of_length_le (by omega)]; rfl) ?_
    exact KF.m [] [.int .i64 kk]
set_option maxRecDepth 100000 in
set_option maxHeartbeats 4000000 in
theorem laws_heldHard_spec  (a : Hard) (k : Int) (ha : a.log.length ≤ 1048576) (hk : 0 ≤ k ∧ k ≤ 4611686018000000000) : FnSpec Tryz.prog 134 [.agg [.int .i64 a.term, .int .i64 a.vote, .sl false 6 (a.log.map encEnt)], .int .i64 k] [] (.int .i64 (held okE nxE a.log k)) [] := by
  refine FnSpec.of 12 Tryz.func134 rfl Tryz.ntmps134 (by simp) (AW.weakK ?_)
  refine AW.r ?_
  refine At.a 2 ?_
  refine At.done rfl ?_
  refine AW.r ?_
  refine At.a 3 ?_
  refine At.c (laws_heldEntryS_spec  a.log k (by omega) (by omega)) Tryz.call136 true [] [] [] trivial ?_
  have hhe := heldE_le a.log k (by omega)
  refine At.a 1 ?_
  refine At.done rfl ?_
  refine AW.seq ?_
  refine AW.r ?_
  refine At.a 2 ?_
  refine At.done rfl ?_
  refine AW.cD ((held okE nxE a.log k) < 0) (fun h1 => ?_) (fun h1 => ?_)
  · skip
    refine AW.r ?_
    refine At.a 1 ?_
    refine At.done rfl ?_
    refine AW.ret ?_
    refine ⟨_, Sub.refl _ _, ?_⟩
    refine KF.conv (fun w => .int .i64 w) (fun w => []) (show (-1) = (held okE nxE a.log k) from by exact (held_neg nxE_ge (by omega) (by assumption)).symm) ?_
    exact KF.m [] [.int .i64 (-1)]
  · skip
    refine AW.skip ?_
    refine AW.r ?_
    refine At.a 2 ?_
    refine At.done rfl ?_
    refine AW.ret ?_
    refine ⟨_, Sub.refl _ _, ?_⟩
    exact KF.m [] [.int .i64 (held okE nxE a.log k)]
set_option maxRecDepth 100000 in
set_option maxHeartbeats 4000000 in
theorem laws_heldIntS_spec  (a : List Int) (k : Int) (ha : a.length ≤ 1048576) (hk : 0 ≤ k ∧ k + 20 * a.length ≤ 4611686018427387904) : FnSpec Tryz.prog 135 [.sl false 1 (a.map encI), .int .i64 k] [] (.int .i64 (held okI nxI a k)) [] := by
  refine FnSpec.of 21 Tryz.func135 rfl Tryz.ntmps135 (by simp) (AW.weakK ?_)
  refine AW.r ?_
  refine At.a 1 ?_
  refine At.done rfl ?_
  refine AW.seq ?_
  refine AW.r ?_
  refine At.a 1 ?_
  refine At.done rfl ?_
  refine AW.block ?_
  refine AW.loopW (fun (x : Nat × Int) => match x with | (i, kk) => Go.Sy.mk [.sl false 1 (a.map encI), .int .i64 kk, .un, .un, .un, .int .i64 (i : Int)] []) (fun (x : Nat × Int) => match x with | (i, kk) => i ≤ a.length ∧ 0 ≤ kk ∧ kk + 20 * ((a.length : Int) - i) ≤ 4611686018427387904 ∧ held okI nxI a k = held okI nxI (a.drop i) kk) (fun (x : Nat × Int) => match x with | (i, kk) => a.length - i) (0, k) ⟨by omega, by omega, by omega, by rw [List.drop_zero]⟩ (Sub.o [] [true, true, false, false, false, true]) ?_
  rintro ⟨i, kk⟩ ⟨hi, hkk, hkb, hR⟩
  refine AW.seq ?_
  refine AW.r ?_
  refine At.a 3 ?_
  refine At.sL 8 encI a ?_
  refine At.a 1 ?_
  refine At.done rfl ?_
  refine AW.cD ((i : Int) < (a.length : Int)) (fun h1 => ?_) (fun h1 => ?_)
  · skip
    refine AW.skip ?_
    refine AW.seq ?_
    refine AW.block ?_
    refine AW.seq ?_
    refine AW.r ?_
    refine At.a 2 ?_
    refine At.iSl 27 14 (.tmp 12) (.tmp 13) false 1 (a.map encI) .i64 (i : Int) 3 (by omega) (by simp only [List.length_map, List.length_append, List.length_take, List.length_drop, List.length_replicate, List.length_set, List.length_cons, List.length_nil]; omega) ?_
    refine Exists.elim (show ∃ e, a[i]? = some e from ⟨_, List.getElem?_eq_getElem (by omega)⟩) fun e1 he1 => ?_
    refine At.lVp 3 15 (.tmp 14) false 1 (a.map encI) i 0 false 1 (encI e1) (.int .i64 e1) (mapGet he1) ?_
    refine At.a 2 ?_
    refine At.done rfl ?_
    refine AW.cU e1 kk (fun h2 => ?_) (fun h2 => ?_)
    · skip
      refine AW.r ?_
      refine At.a 1 ?_
      refine At.done rfl ?_
      refine AW.ret ?_
      refine ⟨_, Sub.refl _ _, ?_⟩
      refine KF.conv (fun w => .int .i64 w) (fun w => []) (show (-1) = (held okI nxI a k) from by rw [hR, dropCons he1, held, if_neg (by simp [okI, h1, h2])]) ?_
      exact KF.m [] [.int .i64 (-1)]
    · skip
      refine AW.skip ?_
      refine AW.region (At.start ?_)
      refine At.a 2 ?_
      refine At.sI 19 (kk + 1) (by omega) ?_
      refine At.a 1 ?_
      refine At.done rfl ?_
      refine AW.region (At.start ?_)
      refine At.a 2 ?_
      refine At.sI 11 ((i : Int) + 1) (by omega) ?_
      refine At.a 1 ?_
      refine At.done rfl ?_
      exact ⟨(i + 1, (kk + 1)), ⟨by omega, by omega, by omega, by rw [hR, dropCons he1, held, if_pos (by simp [okI, h1, h2])]; rfl⟩, (by simp only; omega), Sub.o [] [true, true, false, false, false, true]⟩
  · skip
    refine AW.exit ?_
    refine AW.r ?_
    refine At.a 2 ?_
    refine At.done rfl ?_
    refine AW.ret ?_
    refine ⟨_, Sub.refl _ _, ?_⟩
    refine KF.conv (fun w => .int .i64 w) (fun w => []) (show (kk) = (held okI nxI a k) from by rw [hR, List.drop_of_length_le (by omega)]; rfl) ?_
    exact KF.m [] [.int .i64 kk]
set_option maxRecDepth 100000 in
set_option maxHeartbeats 4000000 in
theorem laws_heldRaft_spec  (a : Raft) (k : Int) (hz : SmallR a) (hk : 0 ≤ k ∧ k ≤ 4611686017427387904) : FnSpec Tryz.prog 50 [.agg [.int .i64 a.id, .int .i64 a.of_, .int .i64 a.role, .int .i64 a.commit, .int .i64 a.hard.term, .int .i64 a.hard.vote, .sl false 6 (a.hard.log.map encEnt), .sl false 1 (a.yes.map encI), .sl false 1 (a.next.map encI), .sl false 1 (a.match_.map encI)], .int .i64 k] [] (.int .i64 (heldRaft a k)) [] := by
  obtain ⟨z1, z2, z3, z4⟩ := id hz
  refine FnSpec.of 30 Tryz.func50 rfl Tryz.ntmps50 (by simp) (AW.weakK ?_)
  refine AW.r ?_
  refine At.a 2 ?_
  refine At.done rfl ?_
  refine AW.r ?_
  refine At.a 3 ?_
  refine At.c (laws_heldHard_spec  a.hard k (by omega) (by omega)) Tryz.call134 true [] [] [] trivial ?_
  have hhh := heldE_le a.hard.log k (by omega)
  refine At.a 1 ?_
  refine At.done rfl ?_
  refine AW.seq ?_
  refine AW.r ?_
  refine At.a 2 ?_
  refine At.done rfl ?_
  refine AW.cD ((held okE nxE a.hard.log k) < 0) (fun h1 => ?_) (fun h1 => ?_)
  · skip
    refine AW.r ?_
    refine At.a 1 ?_
    refine At.done rfl ?_
    refine AW.ret ?_
    refine ⟨_, Sub.refl _ _, ?_⟩
    refine KF.conv (fun w => .int .i64 w) (fun w => []) (show (-1) = (heldRaft a k) from by unfold heldRaft; first | (simp [h1]; done) | (simp only [h1, if_false, if_true]; exact (held_neg nxI_ge (by omega) (by assumption)).symm)) ?_
    exact KF.m [] [.int .i64 (-1)]
  · skip
    refine AW.skip ?_
    refine AW.r ?_
    refine At.a 3 ?_
    refine At.c (laws_heldIntS_spec  a.yes (held okE nxE a.hard.log k) (by omega) (by omega)) Tryz.call135 true [] [] [] trivial ?_
    have hhi := heldI_le a.yes (held okE nxE a.hard.log k) (by omega)
    refine At.a 1 ?_
    refine At.done rfl ?_
    refine AW.seq ?_
    refine AW.r ?_
    refine At.a 2 ?_
    refine At.done rfl ?_
    refine AW.cD ((held okI nxI a.yes (held okE nxE a.hard.log k)) < 0) (fun h2 => ?_) (fun h2 => ?_)
    · skip
      refine AW.r ?_
      refine At.a 1 ?_
      refine At.done rfl ?_
      refine AW.ret ?_
      refine ⟨_, Sub.refl _ _, ?_⟩
      refine KF.conv (fun w => .int .i64 w) (fun w => []) (show (-1) = (heldRaft a k) from by unfold heldRaft; first | (simp [h1, h2]; done) | (simp only [h1, h2, if_false, if_true]; exact (held_neg nxI_ge (by omega) (by assumption)).symm)) ?_
      exact KF.m [] [.int .i64 (-1)]
    · skip
      refine AW.skip ?_
      refine AW.r ?_
      refine At.a 3 ?_
      refine At.c (laws_heldIntS_spec  a.next (held okI nxI a.yes (held okE nxE a.hard.log k)) (by omega) (by omega)) Tryz.call135 true [] [] [] trivial ?_
      have hhi := heldI_le a.next (held okI nxI a.yes (held okE nxE a.hard.log k)) (by omega)
      refine At.a 1 ?_
      refine At.done rfl ?_
      refine AW.seq ?_
      refine AW.r ?_
      refine At.a 2 ?_
      refine At.done rfl ?_
      refine AW.cD ((held okI nxI a.next (held okI nxI a.yes (held okE nxE a.hard.log k))) < 0) (fun h3 => ?_) (fun h3 => ?_)
      · skip
        refine AW.r ?_
        refine At.a 1 ?_
        refine At.done rfl ?_
        refine AW.ret ?_
        refine ⟨_, Sub.refl _ _, ?_⟩
        refine KF.conv (fun w => .int .i64 w) (fun w => []) (show (-1) = (heldRaft a k) from by unfold heldRaft; first | (simp [h1, h2, h3]; done) | (simp only [h1, h2, h3, if_false, if_true]; exact (held_neg nxI_ge (by omega) (by assumption)).symm)) ?_
        exact KF.m [] [.int .i64 (-1)]
      · skip
        refine AW.skip ?_
        refine AW.r ?_
        refine At.a 3 ?_
        refine At.c (laws_heldIntS_spec  a.match_ (held okI nxI a.next (held okI nxI a.yes (held okE nxE a.hard.log k))) (by omega) (by omega)) Tryz.call135 true [] [] [] trivial ?_
        have hhi := heldI_le a.match_ (held okI nxI a.next (held okI nxI a.yes (held okE nxE a.hard.log k))) (by omega)
        refine At.a 1 ?_
        refine At.done rfl ?_
        refine AW.seq ?_
        refine AW.r ?_
        refine At.a 2 ?_
        refine At.done rfl ?_
        refine AW.cD ((held okI nxI a.match_ (held okI nxI a.next (held okI nxI a.yes (held okE nxE a.hard.log k)))) < 0) (fun h4 => ?_) (fun h4 => ?_)
        · skip
          refine AW.r ?_
          refine At.a 1 ?_
          refine At.done rfl ?_
          refine AW.ret ?_
          refine ⟨_, Sub.refl _ _, ?_⟩
          refine KF.conv (fun w => .int .i64 w) (fun w => []) (show (-1) = (heldRaft a k) from by unfold heldRaft; first | (simp [h1, h2, h3, h4]; done) | (simp only [h1, h2, h3, h4, if_false, if_true]; exact (held_neg nxI_ge (by omega) (by assumption)).symm)) ?_
          exact KF.m [] [.int .i64 (-1)]
        · skip
          refine AW.skip ?_
          refine AW.r ?_
          refine At.a 2 ?_
          refine At.done rfl ?_
          refine AW.ret ?_
          refine ⟨_, Sub.refl _ _, ?_⟩
          refine KF.conv (fun w => .int .i64 w) (fun w => []) (show (held okI nxI a.match_ (held okI nxI a.next (held okI nxI a.yes (held okE nxE a.hard.log k)))) = (heldRaft a k) from by unfold heldRaft; first | (simp [h1, h2, h3, h4]; done) | (simp only [h1, h2, h3, h4, if_false, if_true]; exact (held_neg nxI_ge (by omega) (by assumption)).symm)) ?_
          exact KF.m [] [.int .i64 (held okI nxI a.match_ (held okI nxI a.next (held okI nxI a.yes (held okE nxE a.hard.log k))))]
set_option maxRecDepth 100000 in
set_option maxHeartbeats 4000000 in
theorem laws_heldRecS_spec  (a : List Rec) (k : Int) (ha : a.length ≤ 1048576) (hk : 0 ≤ k ∧ k + 20 * a.length ≤ 4611686018427387904) : FnSpec Tryz.prog 51 [.sl false 10 (a.map encRec), .int .i64 k] [] (.int .i64 (held okR nxR a k)) [] := by
  refine FnSpec.of 115 Tryz.func51 rfl Tryz.ntmps51 (by simp) (AW.weakK ?_)
  refine AW.r ?_
  refine At.a 1 ?_
  refine At.done rfl ?_
  refine AW.seq ?_
  refine AW.r ?_
  refine At.a 1 ?_
  refine At.done rfl ?_
  refine AW.block ?_
  refine AW.loopW (fun (x : Nat × Int) => match x with | (i, kk) => Go.Sy.mk [.sl false 10 (a.map encRec), .int .i64 kk, .un, .un, .un, .int .i64 (i : Int)] []) (fun (x : Nat × Int) => match x with | (i, kk) => i ≤ a.length ∧ 0 ≤ kk ∧ kk + 20 * ((a.length : Int) - i) ≤ 4611686018427387904 ∧ held okR nxR a k = held okR nxR (a.drop i) kk) (fun (x : Nat × Int) => match x with | (i, kk) => a.length - i) (0, k) ⟨by omega, by omega, by omega, by rw [List.drop_zero]⟩ (Sub.o [] [true, true, false, false, false, true]) ?_
  rintro ⟨i, kk⟩ ⟨hi, hkk, hkb, hR⟩
  refine AW.seq ?_
  refine AW.r ?_
  refine At.a 3 ?_
  refine At.sL 8 encRec a ?_
  refine At.a 1 ?_
  refine At.done rfl ?_
  refine AW.cD ((i : Int) < (a.length : Int)) (fun h1 => ?_) (fun h1 => ?_)
  · skip
    refine AW.skip ?_
    refine AW.seq ?_
    refine AW.block ?_
    refine AW.seq ?_
    refine AW.r ?_
    refine At.a 2 ?_
    refine At.iSl 37 14 (.tmp 12) (.tmp 13) false 10 (a.map encRec) .i64 (i : Int) 47 (by omega) (by simp only [List.length_map, List.length_append, List.length_take, List.length_drop, List.length_replicate, List.length_set, List.length_cons, List.length_nil]; omega) ?_
    refine At.a 1 ?_
    refine Exists.elim (show ∃ e, a[i]? = some e from ⟨_, List.getElem?_eq_getElem (by omega)⟩) fun e1 he1 => ?_
    refine At.lVp 3 16 (.tmp 15) false 10 (a.map encRec) i 0 false 1 (encRec e1) (.int .i64 e1.kind) (mapGet he1) ?_
    refine At.a 2 ?_
    refine At.done rfl ?_
    refine AW.cU e1.kind kk (fun h2 => ?_) (fun h2 => ?_)
    · skip
      refine AW.r ?_
      refine At.a 1 ?_
      refine At.done rfl ?_
      refine AW.ret ?_
      refine ⟨_, Sub.refl _ _, ?_⟩
      refine KF.conv (fun w => .int .i64 w) (fun w => []) (show (-1) = (held okR nxR a k) from by rw [hR, dropCons he1, held, if_neg (by simp [okR, h1, h2])]) ?_
      exact KF.m [] [.int .i64 (-1)]
    · skip
      refine AW.skip ?_
      refine AW.r ?_
      refine At.a 2 ?_
      refine At.sI 20 (kk + 1) (by omega) ?_
      refine At.a 1 ?_
      refine At.done rfl ?_
      refine AW.seq ?_
      refine AW.r ?_
      refine At.a 2 ?_
      refine At.iSl 37 23 (.tmp 21) (.tmp 22) false 10 (a.map encRec) .i64 (i : Int) 47 (by omega) (by simp only [List.length_map, List.length_append, List.length_take, List.length_drop, List.length_replicate, List.length_set, List.length_cons, List.length_nil]; omega) ?_
      refine At.a 1 ?_
      refine At.lVp 3 25 (.tmp 24) false 10 (a.map encRec) i 1 false 1 (encRec e1) (.int .i64 e1.term) (mapGet he1) ?_
      refine At.a 2 ?_
      refine At.done rfl ?_
      refine AW.cU e1.term (kk + 1) (fun h3 => ?_) (fun h3 => ?_)
      · skip
        refine AW.r ?_
        refine At.a 1 ?_
        refine At.done rfl ?_
        refine AW.ret ?_
        refine ⟨_, Sub.refl _ _, ?_⟩
        refine KF.conv (fun w => .int .i64 w) (fun w => []) (show (-1) = (held okR nxR a k) from by rw [hR, dropCons he1, held, if_neg (by simp [okR, h1, h2, h3])]) ?_
        exact KF.m [] [.int .i64 (-1)]
      · skip
        refine AW.skip ?_
        refine AW.r ?_
        refine At.a 2 ?_
        refine At.sJ 29 ((kk + 1) + 1) (kk + 2) (by omega) (by omega) ?_
        refine At.a 1 ?_
        refine At.done rfl ?_
        refine AW.seq ?_
        refine AW.r ?_
        refine At.a 2 ?_
        refine At.iSl 37 32 (.tmp 30) (.tmp 31) false 10 (a.map encRec) .i64 (i : Int) 47 (by omega) (by simp only [List.length_map, List.length_append, List.length_take, List.length_drop, List.length_replicate, List.length_set, List.length_cons, List.length_nil]; omega) ?_
        refine At.a 1 ?_
        refine At.lVp 3 34 (.tmp 33) false 10 (a.map encRec) i 2 false 1 (encRec e1) (.int .i64 e1.vote) (mapGet he1) ?_
        refine At.a 2 ?_
        refine At.done rfl ?_
        refine AW.cU e1.vote (kk + 2) (fun h4 => ?_) (fun h4 => ?_)
        · skip
          refine AW.r ?_
          refine At.a 1 ?_
          refine At.done rfl ?_
          refine AW.ret ?_
          refine ⟨_, Sub.refl _ _, ?_⟩
          refine KF.conv (fun w => .int .i64 w) (fun w => []) (show (-1) = (held okR nxR a k) from by rw [hR, dropCons he1, held, if_neg (by simp [okR, h1, h2, h3, h4])]) ?_
          exact KF.m [] [.int .i64 (-1)]
        · skip
          refine AW.skip ?_
          refine AW.r ?_
          refine At.a 2 ?_
          refine At.sJ 38 ((kk + 2) + 1) (kk + 3) (by omega) (by omega) ?_
          refine At.a 1 ?_
          refine At.done rfl ?_
          refine AW.seq ?_
          refine AW.r ?_
          refine At.a 2 ?_
          refine At.iSl 37 41 (.tmp 39) (.tmp 40) false 10 (a.map encRec) .i64 (i : Int) 47 (by omega) (by simp only [List.length_map, List.length_append, List.length_take, List.length_drop, List.length_replicate, List.length_set, List.length_cons, List.length_nil]; omega) ?_
          refine At.a 1 ?_
          refine At.lVp 3 43 (.tmp 42) false 10 (a.map encRec) i 3 false 1 (encRec e1) (.int .i64 e1.at_) (mapGet he1) ?_
          refine At.a 2 ?_
          refine At.done rfl ?_
          refine AW.cU e1.at_ (kk + 3) (fun h5 => ?_) (fun h5 => ?_)
          · skip
            refine AW.r ?_
            refine At.a 1 ?_
            refine At.done rfl ?_
            refine AW.ret ?_
            refine ⟨_, Sub.refl _ _, ?_⟩
            refine KF.conv (fun w => .int .i64 w) (fun w => []) (show (-1) = (held okR nxR a k) from by rw [hR, dropCons he1, held, if_neg (by simp [okR, h1, h2, h3, h4, h5])]) ?_
            exact KF.m [] [.int .i64 (-1)]
          · skip
            refine AW.skip ?_
            refine AW.r ?_
            refine At.a 2 ?_
            refine At.sJ 47 ((kk + 3) + 1) (kk + 4) (by omega) (by omega) ?_
            refine At.a 1 ?_
            refine At.done rfl ?_
            refine AW.seq ?_
            refine AW.r ?_
            refine At.a 2 ?_
            refine At.iSl 37 50 (.tmp 48) (.tmp 49) false 10 (a.map encRec) .i64 (i : Int) 47 (by omega) (by simp only [List.length_map, List.length_append, List.length_take, List.length_drop, List.length_replicate, List.length_set, List.length_cons, List.length_nil]; omega) ?_
            refine At.a 2 ?_
            refine At.lVp 3 53 (.tmp 52) false 10 (a.map encRec) i 4 false 1 (encRec e1) (.int .i64 e1.entry.term) (mapGet he1) ?_
            refine At.a 2 ?_
            refine At.done rfl ?_
            refine AW.cU e1.entry.term (kk + 4) (fun h6 => ?_) (fun h6 => ?_)
            · skip
              refine AW.r ?_
              refine At.a 1 ?_
              refine At.done rfl ?_
              refine AW.ret ?_
              refine ⟨_, Sub.refl _ _, ?_⟩
              refine KF.conv (fun w => .int .i64 w) (fun w => []) (show (-1) = (held okR nxR a k) from by rw [hR, dropCons he1, held, if_neg (by simp [okR, h1, h2, h3, h4, h5, h6])]) ?_
              exact KF.m [] [.int .i64 (-1)]
            · skip
              refine AW.skip ?_
              refine AW.r ?_
              refine At.a 2 ?_
              refine At.sJ 57 ((kk + 4) + 1) (kk + 5) (by omega) (by omega) ?_
              refine At.a 1 ?_
              refine At.done rfl ?_
              refine AW.seq ?_
              refine AW.r ?_
              refine At.a 2 ?_
              refine At.iSl 37 60 (.tmp 58) (.tmp 59) false 10 (a.map encRec) .i64 (i : Int) 47 (by omega) (by simp only [List.length_map, List.length_append, List.length_take, List.length_drop, List.length_replicate, List.length_set, List.length_cons, List.length_nil]; omega) ?_
              refine At.a 3 ?_
              refine At.lVp 3 64 (.tmp 63) false 10 (a.map encRec) i 5 false 1 (encRec e1) (.int .i64 e1.entry.cmd.kind) (mapGet he1) ?_
              refine At.a 2 ?_
              refine At.done rfl ?_
              refine AW.cU e1.entry.cmd.kind (kk + 5) (fun h7 => ?_) (fun h7 => ?_)
              · skip
                refine AW.r ?_
                refine At.a 1 ?_
                refine At.done rfl ?_
                refine AW.ret ?_
                refine ⟨_, Sub.refl _ _, ?_⟩
                refine KF.conv (fun w => .int .i64 w) (fun w => []) (show (-1) = (held okR nxR a k) from by rw [hR, dropCons he1, held, if_neg (by simp [okR, h1, h2, h3, h4, h5, h6, h7])]) ?_
                exact KF.m [] [.int .i64 (-1)]
              · skip
                refine AW.skip ?_
                refine AW.r ?_
                refine At.a 2 ?_
                refine At.sJ 68 ((kk + 5) + 1) (kk + 6) (by omega) (by omega) ?_
                refine At.a 1 ?_
                refine At.done rfl ?_
                refine AW.seq ?_
                refine AW.r ?_
                refine At.a 2 ?_
                refine At.iSl 37 71 (.tmp 69) (.tmp 70) false 10 (a.map encRec) .i64 (i : Int) 47 (by omega) (by simp only [List.length_map, List.length_append, List.length_take, List.length_drop, List.length_replicate, List.length_set, List.length_cons, List.length_nil]; omega) ?_
                refine At.a 3 ?_
                refine At.lVp 3 75 (.tmp 74) false 10 (a.map encRec) i 6 false 1 (encRec e1) (.int .i64 e1.entry.cmd.release) (mapGet he1) ?_
                refine At.a 2 ?_
                refine At.done rfl ?_
                refine AW.cU e1.entry.cmd.release (kk + 6) (fun h8 => ?_) (fun h8 => ?_)
                · skip
                  refine AW.r ?_
                  refine At.a 1 ?_
                  refine At.done rfl ?_
                  refine AW.ret ?_
                  refine ⟨_, Sub.refl _ _, ?_⟩
                  refine KF.conv (fun w => .int .i64 w) (fun w => []) (show (-1) = (held okR nxR a k) from by rw [hR, dropCons he1, held, if_neg (by simp [okR, h1, h2, h3, h4, h5, h6, h7, h8])]) ?_
                  exact KF.m [] [.int .i64 (-1)]
                · skip
                  refine AW.skip ?_
                  refine AW.r ?_
                  refine At.a 2 ?_
                  refine At.sJ 79 ((kk + 6) + 1) (kk + 7) (by omega) (by omega) ?_
                  refine At.a 1 ?_
                  refine At.done rfl ?_
                  refine AW.seq ?_
                  refine AW.r ?_
                  refine At.a 2 ?_
                  refine At.iSl 37 82 (.tmp 80) (.tmp 81) false 10 (a.map encRec) .i64 (i : Int) 47 (by omega) (by simp only [List.length_map, List.length_append, List.length_take, List.length_drop, List.length_replicate, List.length_set, List.length_cons, List.length_nil]; omega) ?_
                  refine At.a 3 ?_
                  refine At.lVp 3 86 (.tmp 85) false 10 (a.map encRec) i 7 false 1 (encRec e1) (.int .i64 e1.entry.cmd.node) (mapGet he1) ?_
                  refine At.a 2 ?_
                  refine At.done rfl ?_
                  refine AW.cU e1.entry.cmd.node (kk + 7) (fun h9 => ?_) (fun h9 => ?_)
                  · skip
                    refine AW.r ?_
                    refine At.a 1 ?_
                    refine At.done rfl ?_
                    refine AW.ret ?_
                    refine ⟨_, Sub.refl _ _, ?_⟩
                    refine KF.conv (fun w => .int .i64 w) (fun w => []) (show (-1) = (held okR nxR a k) from by rw [hR, dropCons he1, held, if_neg (by simp [okR, h1, h2, h3, h4, h5, h6, h7, h8, h9])]) ?_
                    exact KF.m [] [.int .i64 (-1)]
                  · skip
                    refine AW.skip ?_
                    refine AW.r ?_
                    refine At.a 2 ?_
                    refine At.sJ 90 ((kk + 7) + 1) (kk + 8) (by omega) (by omega) ?_
                    refine At.a 1 ?_
                    refine At.done rfl ?_
                    refine AW.seq ?_
                    refine AW.r ?_
                    refine At.a 2 ?_
                    refine At.iSl 37 93 (.tmp 91) (.tmp 92) false 10 (a.map encRec) .i64 (i : Int) 47 (by omega) (by simp only [List.length_map, List.length_append, List.length_take, List.length_drop, List.length_replicate, List.length_set, List.length_cons, List.length_nil]; omega) ?_
                    refine At.a 3 ?_
                    refine At.lVp 3 97 (.tmp 96) false 10 (a.map encRec) i 8 false 1 (encRec e1) (.int .i64 e1.entry.cmd.size) (mapGet he1) ?_
                    refine At.a 2 ?_
                    refine At.done rfl ?_
                    refine AW.cU e1.entry.cmd.size (kk + 8) (fun h10 => ?_) (fun h10 => ?_)
                    · skip
                      refine AW.r ?_
                      refine At.a 1 ?_
                      refine At.done rfl ?_
                      refine AW.ret ?_
                      refine ⟨_, Sub.refl _ _, ?_⟩
                      refine KF.conv (fun w => .int .i64 w) (fun w => []) (show (-1) = (held okR nxR a k) from by rw [hR, dropCons he1, held, if_neg (by simp [okR, h1, h2, h3, h4, h5, h6, h7, h8, h9, h10])]) ?_
                      exact KF.m [] [.int .i64 (-1)]
                    · skip
                      refine AW.skip ?_
                      refine AW.r ?_
                      refine At.a 2 ?_
                      refine At.sJ 101 ((kk + 8) + 1) (kk + 9) (by omega) (by omega) ?_
                      refine At.a 1 ?_
                      refine At.done rfl ?_
                      refine AW.seq ?_
                      refine AW.seq ?_
                      refine AW.regionD Tryz_mix (At.start ?_)
                      refine At.a 2 ?_
                      refine At.iSl 37 104 (.tmp 102) (.tmp 103) false 10 (a.map encRec) .i64 (i : Int) 47 (by omega) (by simp only [List.length_map, List.length_append, List.length_take, List.length_drop, List.length_replicate, List.length_set, List.length_cons, List.length_nil]; omega) ?_
                      refine At.a 3 ?_
                      refine At.lVp 9 108 (.tmp 107) false 10 (a.map encRec) i 9 false 1 (encRec e1) (.str e1.entry.cmd.digest) (mapGet he1) ?_
                      refine At.a 1 ?_
                      refine At.c (laws_markText_spec  (kk + 9) (by omega)) Tryz.call133 true [] [] [] trivial ?_
                      refine At.a 1 ?_
                      refine At.done rfl ⟨by kernel_rfl, ?_⟩
                      refine AW.cNE (e1.entry.cmd.digest.toList) ((markT (kk + 9)).toList) (fun h11 => ?_) (fun h11 => ?_)
                      · skip
                        refine AW.r ?_
                        refine At.a 1 ?_
                        refine At.done rfl ?_
                        refine AW.ret ?_
                        refine ⟨_, Sub.refl _ _, ?_⟩
                        refine KF.conv (fun w => .int .i64 w) (fun w => []) (show (-1) = (held okR nxR a k) from by rw [hR, dropCons he1, held, if_neg (by simp [okR, h1, h2, h3, h4, h5, h6, h7, h8, h9, h10, h11])]) ?_
                        exact KF.m [] [.int .i64 (-1)]
                      · skip
                        refine AW.skip ?_
                        refine AW.region (At.start ?_)
                        refine At.a 2 ?_
                        refine At.sJ 113 ((kk + 9) + 1) (kk + 10) (by omega) (by omega) ?_
                        refine At.a 1 ?_
                        refine At.done rfl ?_
                        refine AW.region (At.start ?_)
                        refine At.a 2 ?_
                        refine At.sI 11 ((i : Int) + 1) (by omega) ?_
                        refine At.a 1 ?_
                        refine At.done rfl ?_
                        exact ⟨(i + 1, (kk + 10)), ⟨by omega, by omega, by omega, by rw [hR, dropCons he1, held, if_pos (by simp [okR, h1, h2, h3, h4, h5, h6, h7, h8, h9, h10, h11])]; rfl⟩, (by simp only; omega), Sub.o [] [true, true, false, false, false, true]⟩
  · skip
    refine AW.exit ?_
    refine AW.r ?_
    refine At.a 2 ?_
    refine At.done rfl ?_
    refine AW.ret ?_
    refine ⟨_, Sub.refl _ _, ?_⟩
    refine KF.conv (fun w => .int .i64 w) (fun w => []) (show (kk) = (held okR nxR a k) from by rw [hR, List.drop_of_length_le (by omega)]; rfl) ?_
    exact KF.m [] [.int .i64 kk]
end Go.Proofs.YtlmadhahghiedaaGreat
