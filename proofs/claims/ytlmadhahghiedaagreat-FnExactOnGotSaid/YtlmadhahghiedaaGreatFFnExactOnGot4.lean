/- The contracts of the functions that FnExactOnGot reaches (each: what it answers, said over values), printed by a program of this session (wip/sy/g/gen.py). -/
import Derived.Test.YtlmadhahghiedaaGreatFFnExactOnGot3
set_option linter.unusedVariables false
set_option linter.unusedSimpArgs false
namespace Go.Proofs.YtlmadhahghiedaaGreat
open Go Go.Sy Go.Proofs
set_option maxRecDepth 100000 in
set_option maxHeartbeats 4000000 in
theorem impl_OnGot_spec  (r : Raft) (m : Msg) (hz : SmallR r) (hm : m.entries.length ≤ 1048576) : FnSpec Tryz.prog 34 [.agg [.int .i64 r.id, .int .i64 r.of_, .int .i64 r.role, .int .i64 r.commit, .int .i64 r.hard.term, .int .i64 r.hard.vote, .sl false 6 (r.hard.log.map encEnt), .sl false 1 (r.yes.map encI), .sl false 1 (r.next.map encI), .sl false 1 (r.match_.map encI)], .agg [.int .i64 m.kind, .int .i64 m.from_, .int .i64 m.term, .int .i64 m.at_, .int .i64 m.atTerm, .int .i64 m.commit, .bool m.yes, .int .i64 m.release, .int .i64 m.part, .str m.bytes, .int .i64 m.cmd.kind, .int .i64 m.cmd.release, .int .i64 m.cmd.node, .int .i64 m.cmd.size, .str m.cmd.digest, .sl false 6 (m.entries.map encEnt)]] [] (.tup [.agg [.int .i64 (((gots r m).1).id), .int .i64 (((gots r m).1).of_), .int .i64 (((gots r m).1).role), .int .i64 (((gots r m).1).commit), .int .i64 (((gots r m).1).hard.term), .int .i64 (((gots r m).1).hard.vote), .ref 0, .ref 1, .ref 2, .ref 3], .ref 4, .ref 5]) [.arr 45 6 ((((gots r m).1).hard.log).map encEnt), .arr 3 1 ((((gots r m).1).yes).map encI), .arr 3 1 ((((gots r m).1).next).map encI), .arr 3 1 ((((gots r m).1).match_).map encI), .arr 47 10 (((gots r m).2.1).map encRec), .arr 51 17 (((gots r m).2.2).map encOut)] := by
  obtain ⟨z1, z2, z3, z4⟩ := id hz
  refine FnSpec.of 115 Tryz.func34 rfl Tryz.ntmps34 (by simp) (AW.weakK ?_)
  by_cases hok : raftOk r = true
  · skip
    have hokn := raftOk1_nums (raftOk_1 hok)
    refine AW.r ?_
    refine At.a 5 ?_
    refine At.done rfl ?_
    refine AW.seq ?_
    refine AW.weak (Sub.nils [⟨true, 104, some 6, 5001, 45, 6⟩, ⟨true, 104, some 7, 5002, 3, 1⟩, ⟨true, 104, some 8, 5003, 3, 1⟩, ⟨true, 104, some 9, 5004, 3, 1⟩] (by kernel_rfl)) ?_
    refine AW.region (At.start ?_)
    refine At.a 1 ?_
    refine At.c (impl_stepOf_spec  r (by exact hz)) Tryz.call80 true [] [(1200, 0), (1201, 1), (1202, 2), (1203, 3), (1204, 4), (1205, 5), (1206, 6)] [] trivial ?_
    refine At.a 1 ?_
    refine At.done rfl ?_
    refine AW.seq ?_
    refine AW.r ?_
    refine At.a 2 ?_
    refine At.c (impl_stepper_mayHear_spec  (⟨r, r, [], []⟩ : Stepper) m 4 (by exact hz) hm) Tryz.call85 true [(1200, 0), (1201, 1), (1202, 2), (1203, 3), (1204, 4), (1205, 5), (1206, 6)] [] [] trivial ?_
    refine At.a 1 ?_
    refine At.done rfl ?_
    refine AW.cNB (hears r m 4) (fun h1 => ?_) (fun h1 => ?_)
    · skip
      refine AW.r ?_
      refine At.a 1 ?_
      refine At.c (impl_stepper_none_T_spec  (⟨r, r, [], []⟩ : Stepper) (by exact hz) hok) Tryz.call88 true [(1200, 0), (1201, 1), (1202, 2), (1203, 3), (1204, 4), (1205, 5), (1206, 6)] [(1320, 7), (1321, 8), (1322, 9), (1323, 10), (1324, 11), (1325, 12)] [] trivial ?_
      refine At.a 6 ?_
      refine At.done rfl ?_
      refine AW.ret ?_
      refine ⟨_, Sub.refl _ _, ?_⟩
      refine KF.conv (fun w => .tup [.agg [.int .i64 w.id, .int .i64 w.of_, .int .i64 w.role, .int .i64 w.commit, .int .i64 w.hard.term, .int .i64 w.hard.vote, .ref 0, .ref 1, .ref 2, .ref 3], .ref 4, .ref 5]) (fun w => [.arr 45 6 (w.hard.log.map encEnt), .arr 3 1 (w.yes.map encI), .arr 3 1 (w.next.map encI), .arr 3 1 (w.match_.map encI), .arr 47 10 (((gots r m).2.1).map encRec), .arr 51 17 (((gots r m).2.2).map encOut)]) (show (r) = ((gots r m).1) from by rw [gots_un (by assumption) hok]; first | done | rfl | (rw [endRecs_ne (by dsimp only; omega)]; rfl) | (rw [endRecs_eq rfl rfl]; done) | (rw [endRecs_eq rfl rfl]; rfl)) ?_
      refine KF.conv (fun w => .tup [.agg [.int .i64 r.id, .int .i64 r.of_, .int .i64 r.role, .int .i64 r.commit, .int .i64 r.hard.term, .int .i64 r.hard.vote, .ref 0, .ref 1, .ref 2, .ref 3], .ref 4, .ref 5]) (fun w => [.arr 45 6 (r.hard.log.map encEnt), .arr 3 1 (r.yes.map encI), .arr 3 1 (r.next.map encI), .arr 3 1 (r.match_.map encI), .arr 47 10 (w.map encRec), .arr 51 17 (((gots r m).2.2).map encOut)]) (show ([]) = ((gots r m).2.1) from by rw [gots_un (by assumption) hok]; first | done | rfl | (rw [endRecs_ne (by dsimp only; omega)]; rfl) | (rw [endRecs_eq rfl rfl]; done) | (rw [endRecs_eq rfl rfl]; rfl)) ?_
      refine KF.conv (fun w => .tup [.agg [.int .i64 r.id, .int .i64 r.of_, .int .i64 r.role, .int .i64 r.commit, .int .i64 r.hard.term, .int .i64 r.hard.vote, .ref 0, .ref 1, .ref 2, .ref 3], .ref 4, .ref 5]) (fun w => [.arr 45 6 (r.hard.log.map encEnt), .arr 3 1 (r.yes.map encI), .arr 3 1 (r.next.map encI), .arr 3 1 (r.match_.map encI), .arr 47 10 [], .arr 51 17 (w.map encOut)]) (show ([]) = ((gots r m).2.2) from by rw [gots_un (by assumption) hok]; first | done | rfl | (rw [endRecs_ne (by dsimp only; omega)]; rfl) | (rw [endRecs_eq rfl rfl]; done) | (rw [endRecs_eq rfl rfl]; rfl)) ?_
      exact KF.m [(1320, 0), (1321, 1), (1322, 2), (1323, 3), (1324, 4), (1325, 5)] [.agg [.int .i64 r.id, .int .i64 r.of_, .int .i64 r.role, .int .i64 r.commit, .int .i64 r.hard.term, .int .i64 r.hard.vote, .ref 1320, .ref 1321, .ref 1322, .ref 1323], .ref 1324, .ref 1325]
    · skip
      have hhr := hears_ok h1
      have hnu := msgFits_nums hhr.2.1
      refine AW.skip ?_
      refine AW.seq ?_
      refine AW.r ?_
      refine At.a 3 ?_
      by_cases h2 : m.term ≤ r.hard.term
      · skip
        refine At.c (impl_stepper_followTerm_T_spec  (⟨r, r, [], []⟩ : Stepper) m.term h2) Tryz.call91 true [(1200, 0), (1201, 1), (1202, 2), (1203, 3), (1204, 4), (1205, 5), (1206, 6)] [] [] trivial ?_
        refine At.a 6 ?_
        by_cases h3 : r.role = 3
        · refine At.sB 29 (r.role != 3) false (sayUF h3) ?_
          have hnx := raftOk_next hok h3
          have hmx := raftOk_match hok h3
          refine At.a 7 ?_
          refine At.done rfl ?_
          refine AW.cU m.term r.hard.term (fun h4 => ?_) (fun h4 => ?_)
          · skip
            refine AW.r ?_
            refine At.a 1 ?_
            refine At.c (impl_stepper_end_spec  (⟨r, r, [], []⟩ : Stepper) (by simp)) Tryz.call90 true [(1200, 0), (1201, 1), (1202, 2), (1203, 3), (1204, 4), (1205, 5), (1206, 6)] [(1760, 7)] [] trivial ?_
            refine At.a 6 ?_
            refine At.done rfl ?_
            refine AW.ret ?_
            refine ⟨_, Sub.refl _ _, ?_⟩
            refine KF.conv (fun w => .tup [.agg [.int .i64 w.id, .int .i64 w.of_, .int .i64 w.role, .int .i64 w.commit, .int .i64 w.hard.term, .int .i64 w.hard.vote, .ref 0, .ref 1, .ref 2, .ref 3], .ref 4, .ref 5]) (fun w => [.arr 45 6 (w.hard.log.map encEnt), .arr 3 1 (w.yes.map encI), .arr 3 1 (w.next.map encI), .arr 3 1 (w.match_.map encI), .arr 47 10 (((gots r m).2.1).map encRec), .arr 51 17 (((gots r m).2.2).map encOut)]) (show (r) = ((gots r m).1) from by rw [gots_not h1 (by omega) (by omega)]; first | done | rfl | (rw [endRecs_ne (by dsimp only; omega)]; rfl) | (rw [endRecs_eq rfl rfl]; done) | (rw [endRecs_eq rfl rfl]; rfl)) ?_
            refine KF.conv (fun w => .tup [.agg [.int .i64 r.id, .int .i64 r.of_, .int .i64 r.role, .int .i64 r.commit, .int .i64 r.hard.term, .int .i64 r.hard.vote, .ref 0, .ref 1, .ref 2, .ref 3], .ref 4, .ref 5]) (fun w => [.arr 45 6 (r.hard.log.map encEnt), .arr 3 1 (r.yes.map encI), .arr 3 1 (r.next.map encI), .arr 3 1 (r.match_.map encI), .arr 47 10 (w.map encRec), .arr 51 17 (((gots r m).2.2).map encOut)]) (show (endRecs (⟨r, r, [], []⟩ : Stepper)) = ((gots r m).2.1) from by rw [gots_not h1 (by omega) (by omega)]; first | done | rfl | (rw [endRecs_ne (by dsimp only; omega)]; rfl) | (rw [endRecs_eq rfl rfl]; done) | (rw [endRecs_eq rfl rfl]; rfl)) ?_
            refine KF.conv (fun w => .tup [.agg [.int .i64 r.id, .int .i64 r.of_, .int .i64 r.role, .int .i64 r.commit, .int .i64 r.hard.term, .int .i64 r.hard.vote, .ref 0, .ref 1, .ref 2, .ref 3], .ref 4, .ref 5]) (fun w => [.arr 45 6 (r.hard.log.map encEnt), .arr 3 1 (r.yes.map encI), .arr 3 1 (r.next.map encI), .arr 3 1 (r.match_.map encI), .arr 47 10 ((endRecs (⟨r, r, [], []⟩ : Stepper)).map encRec), .arr 51 17 (w.map encOut)]) (show ([]) = ((gots r m).2.2) from by rw [gots_not h1 (by omega) (by omega)]; first | done | rfl | (rw [endRecs_ne (by dsimp only; omega)]; rfl) | (rw [endRecs_eq rfl rfl]; done) | (rw [endRecs_eq rfl rfl]; rfl)) ?_
            exact KF.m [(1201, 0), (1202, 1), (1203, 2), (1204, 3), (1760, 4), (1206, 5)] [.agg [.int .i64 r.id, .int .i64 r.of_, .int .i64 r.role, .int .i64 r.commit, .int .i64 r.hard.term, .int .i64 r.hard.vote, .ref 1201, .ref 1202, .ref 1203, .ref 1204], .ref 1760, .ref 1206]
          · skip
            refine AW.skip ?_
            refine AW.r ?_
            refine At.a 3 ?_
            refine At.done rfl ?_
            refine AW.seq ?_
            refine AW.block ?_
            refine AW.r ?_
            refine At.a 4 ?_
            refine At.done rfl ?_
            refine AW.cNB (m.yes) (fun h5 => ?_) (fun h5 => ?_)
            · skip
              refine AW.seq ?_
              refine AW.regionD Tryz_mix (At.start ?_)
              refine At.a 9 ?_
              refine At.iSl 27 57 (.tmp 55) (.tmp 56) false 1 (r.next.map encI) .i64 m.from_ 3 (by omega) (by simp only [List.length_map, List.length_append, List.length_take, List.length_drop, List.length_replicate, List.length_set, List.length_cons, List.length_nil]; omega) ?_
              refine Exists.elim (show ∃ e, r.next[(m.from_).toNat]? = some e from ⟨_, List.getElem?_eq_getElem (by omega)⟩) fun e1 he1 => ?_
              have hxe1 := hnx.2.1 _ (List.mem_of_getElem? he1)
              refine At.lVp 3 58 (.tmp 57) false 1 (r.next.map encI) ((m.from_).toNat) 0 false 1 (encI e1) (.int .i64 e1) (mapGet he1) ?_
              refine At.a 1 ?_
              refine At.sI 59 (e1 - 1) (by omega) ?_
              refine At.a 3 ?_
              refine At.sI 62 (m.at_ + 1) (by omega) ?_
              refine At.mm (d := 63) (b := .min) (x := .tmp 59) (y := .tmp 62) (ats := #[3, 3]) (q := .i64) (m := e1 - 1) (n := m.at_ + 1) (if (m.at_ + 1) < (e1 - 1) then m.at_ + 1 else e1 - 1) (by kernel_rfl) (by kernel_rfl) (by kernel_rfl) (by kernel_rfl) (.inl ⟨rfl, rfl⟩) ?_
              refine At.say 63 (.int .i64 (if (m.at_ + 1) < (e1 - 1) then m.at_ + 1 else e1 - 1)) (.int .i64 (min (e1 - 1) (m.at_ + 1))) (by kernel_rfl) (congrArg (V.int .i64) (by omega)) ?_
              refine At.mm (d := 64) (b := .max) (x := .const (.int .i64 1)) (y := .tmp 63) (ats := #[3, 3]) (q := .i64) (m := 1) (n := min (e1 - 1) (m.at_ + 1)) (if (min (e1 - 1) (m.at_ + 1)) > 1 then min (e1 - 1) (m.at_ + 1) else 1) (by kernel_rfl) (by kernel_rfl) (by kernel_rfl) (by kernel_rfl) (.inr ⟨rfl, rfl⟩) ?_
              refine At.say 64 (.int .i64 (if (min (e1 - 1) (m.at_ + 1)) > 1 then min (e1 - 1) (m.at_ + 1) else 1)) (.int .i64 (max 1 (min (e1 - 1) (m.at_ + 1)))) (by kernel_rfl) (congrArg (V.int .i64) (by omega)) ?_
              refine At.iRf 27 65 (.tmp 52) (.tmp 53) 1203 (r.next.map encI) .i64 m.from_ 3 1 (by omega) (by simp only [List.length_map, List.length_append, List.length_take, List.length_drop, List.length_replicate, List.length_set, List.length_cons, List.length_nil]; omega) ?_
              refine At.sEl 3 1203 3 1 ((m.from_).toNat) 0 (.tmp 65) (.tmp 64) (r.next.map encI) ((r.next.set ((m.from_).toNat) (max 1 (min (e1 - 1) (m.at_ + 1)))).map encI) [.int .i64 (max 1 (min (e1 - 1) (m.at_ + 1)))] (.int .i64 (max 1 (min (e1 - 1) (m.at_ + 1)))) (encI e1) (encI (max 1 (min (e1 - 1) (m.at_ + 1)))) (mapGet he1) setV ?_
              refine At.done rfl ⟨by kernel_rfl, ?_⟩
              refine AW.region (At.start ?_)
              refine At.a 2 ?_
              refine At.c (impl_stepper_send_spec  (⟨⟨r.id, r.of_, r.role, r.commit, ⟨r.hard.term, r.hard.vote, r.hard.log⟩, r.yes, r.next.set ((m.from_).toNat) (max 1 (min (e1 - 1) (m.at_ + 1))), r.match_⟩, r, [], []⟩ : Stepper) m.from_ (by unfold SmallR; simp only [List.length_set]; omega) (by dsimp only; simp only [List.length_set]; omega) (nextOk_set hnx.2.1 rfl rfl (by omega)) (by simp)) Tryz.call106 true [(1200, 0), (1201, 1), (1202, 2), (1203, 3), (1204, 4), (1205, 5), (1206, 6)] [(2360, 7)] [] trivial ?_
              refine At.done rfl ?_
              refine AW.r ?_
              refine At.a 1 ?_
              refine At.c (impl_stepper_end_spec  (⟨⟨r.id, r.of_, r.role, r.commit, ⟨r.hard.term, r.hard.vote, r.hard.log⟩, r.yes, r.next.set ((m.from_).toNat) (max 1 (min (e1 - 1) (m.at_ + 1))), r.match_⟩, r, [], ([]) ++ [sendOf (⟨r.id, r.of_, r.role, r.commit, ⟨r.hard.term, r.hard.vote, r.hard.log⟩, r.yes, r.next.set ((m.from_).toNat) (max 1 (min (e1 - 1) (m.at_ + 1))), r.match_⟩) m.from_]⟩ : Stepper) (by simp)) Tryz.call90 true [(1200, 0), (1201, 1), (1202, 2), (1203, 3), (1204, 4), (1205, 5), (2360, 6)] [(3220, 7)] [] trivial ?_
              refine At.a 6 ?_
              refine At.done rfl ?_
              refine AW.ret ?_
              refine ⟨_, Sub.refl _ _, ?_⟩
              refine KF.conv (fun w => .tup [.agg [.int .i64 w.id, .int .i64 w.of_, .int .i64 w.role, .int .i64 w.commit, .int .i64 w.hard.term, .int .i64 w.hard.vote, .ref 0, .ref 1, .ref 2, .ref 3], .ref 4, .ref 5]) (fun w => [.arr 45 6 (w.hard.log.map encEnt), .arr 3 1 (w.yes.map encI), .arr 3 1 (w.next.map encI), .arr 3 1 (w.match_.map encI), .arr 47 10 (((gots r m).2.1).map encRec), .arr 51 17 (((gots r m).2.2).map encOut)]) (show ((⟨r.id, r.of_, r.role, r.commit, r.hard, r.yes, r.next.set ((m.from_).toNat) (max 1 (min (e1 - 1) (m.at_ + 1))), r.match_⟩ : Raft)) = ((gots r m).1) from by rw [gots_no h1 (by omega) (by omega) (by omega) (by assumption) (by assumption)]; first | done | rfl | (rw [endRecs_ne (by dsimp only; omega)]; rfl) | (rw [endRecs_eq rfl rfl]; done) | (rw [endRecs_eq rfl rfl]; rfl)) ?_
              refine KF.conv (fun w => .tup [.agg [.int .i64 r.id, .int .i64 r.of_, .int .i64 r.role, .int .i64 r.commit, .int .i64 r.hard.term, .int .i64 r.hard.vote, .ref 0, .ref 1, .ref 2, .ref 3], .ref 4, .ref 5]) (fun w => [.arr 45 6 (r.hard.log.map encEnt), .arr 3 1 (r.yes.map encI), .arr 3 1 ((r.next.set ((m.from_).toNat) (max 1 (min (e1 - 1) (m.at_ + 1)))).map encI), .arr 3 1 (r.match_.map encI), .arr 47 10 (w.map encRec), .arr 51 17 (((gots r m).2.2).map encOut)]) (show (endRecs (⟨⟨r.id, r.of_, r.role, r.commit, ⟨r.hard.term, r.hard.vote, r.hard.log⟩, r.yes, r.next.set ((m.from_).toNat) (max 1 (min (e1 - 1) (m.at_ + 1))), r.match_⟩, r, [], ([]) ++ [sendOf (⟨r.id, r.of_, r.role, r.commit, ⟨r.hard.term, r.hard.vote, r.hard.log⟩, r.yes, r.next.set ((m.from_).toNat) (max 1 (min (e1 - 1) (m.at_ + 1))), r.match_⟩) m.from_]⟩ : Stepper)) = ((gots r m).2.1) from by rw [gots_no h1 (by omega) (by omega) (by omega) (by assumption) (by assumption)]; first | done | rfl | (rw [endRecs_ne (by dsimp only; omega)]; rfl) | (rw [endRecs_eq rfl rfl]; done) | (rw [endRecs_eq rfl rfl]; rfl)) ?_
              refine KF.conv (fun w => .tup [.agg [.int .i64 r.id, .int .i64 r.of_, .int .i64 r.role, .int .i64 r.commit, .int .i64 r.hard.term, .int .i64 r.hard.vote, .ref 0, .ref 1, .ref 2, .ref 3], .ref 4, .ref 5]) (fun w => [.arr 45 6 (r.hard.log.map encEnt), .arr 3 1 (r.yes.map encI), .arr 3 1 ((r.next.set ((m.from_).toNat) (max 1 (min (e1 - 1) (m.at_ + 1)))).map encI), .arr 3 1 (r.match_.map encI), .arr 47 10 ((endRecs (⟨⟨r.id, r.of_, r.role, r.commit, ⟨r.hard.term, r.hard.vote, r.hard.log⟩, r.yes, r.next.set ((m.from_).toNat) (max 1 (min (e1 - 1) (m.at_ + 1))), r.match_⟩, r, [], ([]) ++ [sendOf (⟨r.id, r.of_, r.role, r.commit, ⟨r.hard.term, r.hard.vote, r.hard.log⟩, r.yes, r.next.set ((m.from_).toNat) (max 1 (min (e1 - 1) (m.at_ + 1))), r.match_⟩) m.from_]⟩ : Stepper)).map encRec), .arr 51 17 (w.map encOut)]) (show (([]) ++ [sendOf (⟨r.id, r.of_, r.role, r.commit, ⟨r.hard.term, r.hard.vote, r.hard.log⟩, r.yes, r.next.set ((m.from_).toNat) (max 1 (min (e1 - 1) (m.at_ + 1))), r.match_⟩) m.from_]) = ((gots r m).2.2) from by rw [gots_no h1 (by omega) (by omega) (by omega) (by assumption) (by assumption)]; first | done | rfl | (rw [endRecs_ne (by dsimp only; omega)]; rfl) | (rw [endRecs_eq rfl rfl]; done) | (rw [endRecs_eq rfl rfl]; rfl)) ?_
              exact KF.m [(1201, 0), (1202, 1), (1203, 2), (1204, 3), (3220, 4), (2360, 5)] [.agg [.int .i64 r.id, .int .i64 r.of_, .int .i64 r.role, .int .i64 r.commit, .int .i64 r.hard.term, .int .i64 r.hard.vote, .ref 1201, .ref 1202, .ref 1203, .ref 1204], .ref 3220, .ref 2360]
            · skip
              refine AW.r ?_
              refine At.a 6 ?_
              refine At.sL 75 encEnt r.hard.log ?_
              refine At.a 2 ?_
              refine At.done rfl ?_
              refine AW.cD (m.at_ ≤ (r.hard.log.length : Int)) (fun h6 => ?_) (fun h6 => ?_)
              · skip
                refine AW.seq ?_
                refine AW.regionD Tryz_mix (At.start ?_)
                refine At.a 9 ?_
                refine At.iSl 27 86 (.tmp 84) (.tmp 85) false 1 (r.match_.map encI) .i64 m.from_ 3 (by omega) (by simp only [List.length_map, List.length_append, List.length_take, List.length_drop, List.length_replicate, List.length_set, List.length_cons, List.length_nil]; omega) ?_
                refine Exists.elim (show ∃ e, r.match_[(m.from_).toNat]? = some e from ⟨_, List.getElem?_eq_getElem (by omega)⟩) fun e2 he2 => ?_
                have hxe2 := hmx _ (List.mem_of_getElem? he2)
                refine At.lVp 3 87 (.tmp 86) false 1 (r.match_.map encI) ((m.from_).toNat) 0 false 1 (encI e2) (.int .i64 e2) (mapGet he2) ?_
                refine At.a 2 ?_
                refine At.mm (d := 90) (b := .max) (x := .tmp 87) (y := .tmp 89) (ats := #[3, 3]) (q := .i64) (m := e2) (n := m.at_) (if m.at_ > e2 then m.at_ else e2) (by kernel_rfl) (by kernel_rfl) (by kernel_rfl) (by kernel_rfl) (.inr ⟨rfl, rfl⟩) ?_
                refine At.say 90 (.int .i64 (if m.at_ > e2 then m.at_ else e2)) (.int .i64 (max e2 m.at_)) (by kernel_rfl) (congrArg (V.int .i64) (by omega)) ?_
                refine At.iRf 27 91 (.tmp 81) (.tmp 82) 1204 (r.match_.map encI) .i64 m.from_ 3 1 (by omega) (by simp only [List.length_map, List.length_append, List.length_take, List.length_drop, List.length_replicate, List.length_set, List.length_cons, List.length_nil]; omega) ?_
                refine At.sEl 3 1204 3 1 ((m.from_).toNat) 0 (.tmp 91) (.tmp 90) (r.match_.map encI) ((r.match_.set ((m.from_).toNat) (max e2 m.at_)).map encI) [.int .i64 (max e2 m.at_)] (.int .i64 (max e2 m.at_)) (encI e2) (encI (max e2 m.at_)) (mapGet he2) setV ?_
                refine At.done rfl ⟨by kernel_rfl, ?_⟩
                refine AW.seq ?_
                refine AW.regionD Tryz_mix (At.start ?_)
                refine At.a 12 ?_
                refine At.iRf 27 104 (.tmp 102) (.tmp 103) 1204 ((r.match_.set ((m.from_).toNat) (max e2 m.at_)).map encI) .i64 m.from_ 3 1 (by omega) (by simp only [List.length_map, List.length_append, List.length_take, List.length_drop, List.length_replicate, List.length_set, List.length_cons, List.length_nil]; omega) ?_
                refine At.lEl 3 105 (.tmp 104) 1204 3 1 ((r.match_.set ((m.from_).toNat) (max e2 m.at_)).map encI) ((m.from_).toNat) 0 false 1 (encI (max e2 m.at_)) (.int .i64 (max e2 m.at_)) (mapGet (setGet he2)) ?_
                refine At.a 1 ?_
                refine At.sI 106 ((max e2 m.at_) + 1) (by omega) ?_
                refine At.iRf 27 107 (.tmp 96) (.tmp 97) 1203 (r.next.map encI) .i64 m.from_ 3 1 (by omega) (by simp only [List.length_map, List.length_append, List.length_take, List.length_drop, List.length_replicate, List.length_set, List.length_cons, List.length_nil]; omega) ?_
                refine Exists.elim (show ∃ e, r.next[(m.from_).toNat]? = some e from ⟨_, List.getElem?_eq_getElem (by omega)⟩) fun e3 he3 => ?_
                have hxe3 := hnx.2.1 _ (List.mem_of_getElem? he3)
                refine At.sEl 3 1203 3 1 ((m.from_).toNat) 0 (.tmp 107) (.tmp 106) (r.next.map encI) ((r.next.set ((m.from_).toNat) ((max e2 m.at_) + 1)).map encI) [.int .i64 ((max e2 m.at_) + 1)] (.int .i64 ((max e2 m.at_) + 1)) (encI e3) (encI ((max e2 m.at_) + 1)) (mapGet he3) setV ?_
                refine At.done rfl ⟨by kernel_rfl, ?_⟩
                refine AW.region (At.start ?_)
                refine At.a 1 ?_
                refine At.c (impl_stepper_commit_spec  (⟨⟨r.id, r.of_, r.role, r.commit, ⟨r.hard.term, r.hard.vote, r.hard.log⟩, r.yes, r.next.set ((m.from_).toNat) ((max e2 m.at_) + 1), r.match_.set ((m.from_).toNat) (max e2 m.at_)⟩, r, [], []⟩ : Stepper) (by unfold SmallR; simp only [List.length_set]; omega) (by dsimp only; omega) (by dsimp only; omega) (by dsimp only; simp only [List.length_set]; omega)) Tryz.call107 true [(1200, 0), (1201, 1), (1202, 2), (1203, 3), (1204, 4), (1205, 5), (1206, 6)] [] [] trivial ?_
                refine At.done rfl ?_
                refine AW.r ?_
                refine At.a 1 ?_
                refine At.c (impl_stepper_end_spec  (⟨⟨r.id, r.of_, r.role, commitOf (⟨r.id, r.of_, r.role, r.commit, ⟨r.hard.term, r.hard.vote, r.hard.log⟩, r.yes, r.next.set ((m.from_).toNat) ((max e2 m.at_) + 1), r.match_.set ((m.from_).toNat) (max e2 m.at_)⟩), ⟨r.hard.term, r.hard.vote, r.hard.log⟩, r.yes, r.next.set ((m.from_).toNat) ((max e2 m.at_) + 1), r.match_.set ((m.from_).toNat) (max e2 m.at_)⟩, r, [], []⟩ : Stepper) (by simp)) Tryz.call90 true [(1200, 0), (1201, 1), (1202, 2), (1203, 3), (1204, 4), (1205, 5), (1206, 6)] [(3220, 7)] [] trivial ?_
                refine At.a 6 ?_
                refine At.done rfl ?_
                refine AW.ret ?_
                refine ⟨_, Sub.refl _ _, ?_⟩
                refine KF.conv (fun w => .tup [.agg [.int .i64 w.id, .int .i64 w.of_, .int .i64 w.role, .int .i64 w.commit, .int .i64 w.hard.term, .int .i64 w.hard.vote, .ref 0, .ref 1, .ref 2, .ref 3], .ref 4, .ref 5]) (fun w => [.arr 45 6 (w.hard.log.map encEnt), .arr 3 1 (w.yes.map encI), .arr 3 1 (w.next.map encI), .arr 3 1 (w.match_.map encI), .arr 47 10 (((gots r m).2.1).map encRec), .arr 51 17 (((gots r m).2.2).map encOut)]) (show ((⟨r.id, r.of_, r.role, commitOf (⟨r.id, r.of_, r.role, r.commit, ⟨r.hard.term, r.hard.vote, r.hard.log⟩, r.yes, r.next.set ((m.from_).toNat) ((max e2 m.at_) + 1), r.match_.set ((m.from_).toNat) (max e2 m.at_)⟩), r.hard, r.yes, r.next.set ((m.from_).toNat) ((max e2 m.at_) + 1), r.match_.set ((m.from_).toNat) (max e2 m.at_)⟩ : Raft)) = ((gots r m).1) from by rw [gots_yes h1 (by omega) (by omega) (by omega) (by assumption) (by omega) (by assumption)]; first | done | rfl | (rw [endRecs_ne (by dsimp only; omega)]; rfl) | (rw [endRecs_eq rfl rfl]; done) | (rw [endRecs_eq rfl rfl]; rfl)) ?_
                refine KF.conv (fun w => .tup [.agg [.int .i64 r.id, .int .i64 r.of_, .int .i64 r.role, .int .i64 (commitOf (⟨r.id, r.of_, r.role, r.commit, ⟨r.hard.term, r.hard.vote, r.hard.log⟩, r.yes, r.next.set ((m.from_).toNat) ((max e2 m.at_) + 1), r.match_.set ((m.from_).toNat) (max e2 m.at_)⟩)), .int .i64 r.hard.term, .int .i64 r.hard.vote, .ref 0, .ref 1, .ref 2, .ref 3], .ref 4, .ref 5]) (fun w => [.arr 45 6 (r.hard.log.map encEnt), .arr 3 1 (r.yes.map encI), .arr 3 1 ((r.next.set ((m.from_).toNat) ((max e2 m.at_) + 1)).map encI), .arr 3 1 ((r.match_.set ((m.from_).toNat) (max e2 m.at_)).map encI), .arr 47 10 (w.map encRec), .arr 51 17 (((gots r m).2.2).map encOut)]) (show (endRecs (⟨⟨r.id, r.of_, r.role, commitOf (⟨r.id, r.of_, r.role, r.commit, ⟨r.hard.term, r.hard.vote, r.hard.log⟩, r.yes, r.next.set ((m.from_).toNat) ((max e2 m.at_) + 1), r.match_.set ((m.from_).toNat) (max e2 m.at_)⟩), ⟨r.hard.term, r.hard.vote, r.hard.log⟩, r.yes, r.next.set ((m.from_).toNat) ((max e2 m.at_) + 1), r.match_.set ((m.from_).toNat) (max e2 m.at_)⟩, r, [], []⟩ : Stepper)) = ((gots r m).2.1) from by rw [gots_yes h1 (by omega) (by omega) (by omega) (by assumption) (by omega) (by assumption)]; first | done | rfl | (rw [endRecs_ne (by dsimp only; omega)]; rfl) | (rw [endRecs_eq rfl rfl]; done) | (rw [endRecs_eq rfl rfl]; rfl)) ?_
                refine KF.conv (fun w => .tup [.agg [.int .i64 r.id, .int .i64 r.of_, .int .i64 r.role, .int .i64 (commitOf (⟨r.id, r.of_, r.role, r.commit, ⟨r.hard.term, r.hard.vote, r.hard.log⟩, r.yes, r.next.set ((m.from_).toNat) ((max e2 m.at_) + 1), r.match_.set ((m.from_).toNat) (max e2 m.at_)⟩)), .int .i64 r.hard.term, .int .i64 r.hard.vote, .ref 0, .ref 1, .ref 2, .ref 3], .ref 4, .ref 5]) (fun w => [.arr 45 6 (r.hard.log.map encEnt), .arr 3 1 (r.yes.map encI), .arr 3 1 ((r.next.set ((m.from_).toNat) ((max e2 m.at_) + 1)).map encI), .arr 3 1 ((r.match_.set ((m.from_).toNat) (max e2 m.at_)).map encI), .arr 47 10 ((endRecs (⟨⟨r.id, r.of_, r.role, commitOf (⟨r.id, r.of_, r.role, r.commit, ⟨r.hard.term, r.hard.vote, r.hard.log⟩, r.yes, r.next.set ((m.from_).toNat) ((max e2 m.at_) + 1), r.match_.set ((m.from_).toNat) (max e2 m.at_)⟩), ⟨r.hard.term, r.hard.vote, r.hard.log⟩, r.yes, r.next.set ((m.from_).toNat) ((max e2 m.at_) + 1), r.match_.set ((m.from_).toNat) (max e2 m.at_)⟩, r, [], []⟩ : Stepper)).map encRec), .arr 51 17 (w.map encOut)]) (show ([]) = ((gots r m).2.2) from by rw [gots_yes h1 (by omega) (by omega) (by omega) (by assumption) (by omega) (by assumption)]; first | done | rfl | (rw [endRecs_ne (by dsimp only; omega)]; rfl) | (rw [endRecs_eq rfl rfl]; done) | (rw [endRecs_eq rfl rfl]; rfl)) ?_
                exact KF.m [(1201, 0), (1202, 1), (1203, 2), (1204, 3), (3220, 4), (1206, 5)] [.agg [.int .i64 r.id, .int .i64 r.of_, .int .i64 r.role, .int .i64 (commitOf (⟨r.id, r.of_, r.role, r.commit, ⟨r.hard.term, r.hard.vote, r.hard.log⟩, r.yes, r.next.set ((m.from_).toNat) ((max e2 m.at_) + 1), r.match_.set ((m.from_).toNat) (max e2 m.at_)⟩)), .int .i64 r.hard.term, .int .i64 r.hard.vote, .ref 1201, .ref 1202, .ref 1203, .ref 1204], .ref 3220, .ref 1206]
              · skip
                refine AW.skip ?_
                refine AW.r ?_
                refine At.a 1 ?_
                refine At.c (impl_stepper_end_spec  (⟨r, r, [], []⟩ : Stepper) (by simp)) Tryz.call90 true [(1200, 0), (1201, 1), (1202, 2), (1203, 3), (1204, 4), (1205, 5), (1206, 6)] [(3220, 7)] [] trivial ?_
                refine At.a 6 ?_
                refine At.done rfl ?_
                refine AW.ret ?_
                refine ⟨_, Sub.refl _ _, ?_⟩
                refine KF.conv (fun w => .tup [.agg [.int .i64 w.id, .int .i64 w.of_, .int .i64 w.role, .int .i64 w.commit, .int .i64 w.hard.term, .int .i64 w.hard.vote, .ref 0, .ref 1, .ref 2, .ref 3], .ref 4, .ref 5]) (fun w => [.arr 45 6 (w.hard.log.map encEnt), .arr 3 1 (w.yes.map encI), .arr 3 1 (w.next.map encI), .arr 3 1 (w.match_.map encI), .arr 47 10 (((gots r m).2.1).map encRec), .arr 51 17 (((gots r m).2.2).map encOut)]) (show (r) = ((gots r m).1) from by rw [gots_far h1 (by omega) (by omega) (by omega) (by assumption) (by omega)]; first | done | rfl | (rw [endRecs_ne (by dsimp only; omega)]; rfl) | (rw [endRecs_eq rfl rfl]; done) | (rw [endRecs_eq rfl rfl]; rfl)) ?_
                refine KF.conv (fun w => .tup [.agg [.int .i64 r.id, .int .i64 r.of_, .int .i64 r.role, .int .i64 r.commit, .int .i64 r.hard.term, .int .i64 r.hard.vote, .ref 0, .ref 1, .ref 2, .ref 3], .ref 4, .ref 5]) (fun w => [.arr 45 6 (r.hard.log.map encEnt), .arr 3 1 (r.yes.map encI), .arr 3 1 (r.next.map encI), .arr 3 1 (r.match_.map encI), .arr 47 10 (w.map encRec), .arr 51 17 (((gots r m).2.2).map encOut)]) (show (endRecs (⟨r, r, [], []⟩ : Stepper)) = ((gots r m).2.1) from by rw [gots_far h1 (by omega) (by omega) (by omega) (by assumption) (by omega)]; first | done | rfl | (rw [endRecs_ne (by dsimp only; omega)]; rfl) | (rw [endRecs_eq rfl rfl]; done) | (rw [endRecs_eq rfl rfl]; rfl)) ?_
                refine KF.conv (fun w => .tup [.agg [.int .i64 r.id, .int .i64 r.of_, .int .i64 r.role, .int .i64 r.commit, .int .i64 r.hard.term, .int .i64 r.hard.vote, .ref 0, .ref 1, .ref 2, .ref 3], .ref 4, .ref 5]) (fun w => [.arr 45 6 (r.hard.log.map encEnt), .arr 3 1 (r.yes.map encI), .arr 3 1 (r.next.map encI), .arr 3 1 (r.match_.map encI), .arr 47 10 ((endRecs (⟨r, r, [], []⟩ : Stepper)).map encRec), .arr 51 17 (w.map encOut)]) (show ([]) = ((gots r m).2.2) from by rw [gots_far h1 (by omega) (by omega) (by omega) (by assumption) (by omega)]; first | done | rfl | (rw [endRecs_ne (by dsimp only; omega)]; rfl) | (rw [endRecs_eq rfl rfl]; done) | (rw [endRecs_eq rfl rfl]; rfl)) ?_
                exact KF.m [(1201, 0), (1202, 1), (1203, 2), (1204, 3), (3220, 4), (1206, 5)] [.agg [.int .i64 r.id, .int .i64 r.of_, .int .i64 r.role, .int .i64 r.commit, .int .i64 r.hard.term, .int .i64 r.hard.vote, .ref 1201, .ref 1202, .ref 1203, .ref 1204], .ref 3220, .ref 1206]
        · refine At.sB 29 (r.role != 3) true (sayUT h3) ?_
          refine At.a 7 ?_
          refine At.done rfl ?_
          refine AW.cond true (by kernel_rfl) (fun _ => ?_) (fun h => by cases h)
          refine AW.r ?_
          refine At.a 1 ?_
          refine At.c (impl_stepper_end_spec  (⟨r, r, [], []⟩ : Stepper) (by simp)) Tryz.call90 true [(1200, 0), (1201, 1), (1202, 2), (1203, 3), (1204, 4), (1205, 5), (1206, 6)] [(1760, 7)] [] trivial ?_
          refine At.a 6 ?_
          refine At.done rfl ?_
          refine AW.ret ?_
          refine ⟨_, Sub.refl _ _, ?_⟩
          refine KF.conv (fun w => .tup [.agg [.int .i64 w.id, .int .i64 w.of_, .int .i64 w.role, .int .i64 w.commit, .int .i64 w.hard.term, .int .i64 w.hard.vote, .ref 0, .ref 1, .ref 2, .ref 3], .ref 4, .ref 5]) (fun w => [.arr 45 6 (w.hard.log.map encEnt), .arr 3 1 (w.yes.map encI), .arr 3 1 (w.next.map encI), .arr 3 1 (w.match_.map encI), .arr 47 10 (((gots r m).2.1).map encRec), .arr 51 17 (((gots r m).2.2).map encOut)]) (show (r) = ((gots r m).1) from by rw [gots_not h1 (by omega) (by omega)]; first | done | rfl | (rw [endRecs_ne (by dsimp only; omega)]; rfl) | (rw [endRecs_eq rfl rfl]; done) | (rw [endRecs_eq rfl rfl]; rfl)) ?_
          refine KF.conv (fun w => .tup [.agg [.int .i64 r.id, .int .i64 r.of_, .int .i64 r.role, .int .i64 r.commit, .int .i64 r.hard.term, .int .i64 r.hard.vote, .ref 0, .ref 1, .ref 2, .ref 3], .ref 4, .ref 5]) (fun w => [.arr 45 6 (r.hard.log.map encEnt), .arr 3 1 (r.yes.map encI), .arr 3 1 (r.next.map encI), .arr 3 1 (r.match_.map encI), .arr 47 10 (w.map encRec), .arr 51 17 (((gots r m).2.2).map encOut)]) (show (endRecs (⟨r, r, [], []⟩ : Stepper)) = ((gots r m).2.1) from by rw [gots_not h1 (by omega) (by omega)]; first | done | rfl | (rw [endRecs_ne (by dsimp only; omega)]; rfl) | (rw [endRecs_eq rfl rfl]; done) | (rw [endRecs_eq rfl rfl]; rfl)) ?_
          refine KF.conv (fun w => .tup [.agg [.int .i64 r.id, .int .i64 r.of_, .int .i64 r.role, .int .i64 r.commit, .int .i64 r.hard.term, .int .i64 r.hard.vote, .ref 0, .ref 1, .ref 2, .ref 3], .ref 4, .ref 5]) (fun w => [.arr 45 6 (r.hard.log.map encEnt), .arr 3 1 (r.yes.map encI), .arr 3 1 (r.next.map encI), .arr 3 1 (r.match_.map encI), .arr 47 10 ((endRecs (⟨r, r, [], []⟩ : Stepper)).map encRec), .arr 51 17 (w.map encOut)]) (show ([]) = ((gots r m).2.2) from by rw [gots_not h1 (by omega) (by omega)]; first | done | rfl | (rw [endRecs_ne (by dsimp only; omega)]; rfl) | (rw [endRecs_eq rfl rfl]; done) | (rw [endRecs_eq rfl rfl]; rfl)) ?_
          exact KF.m [(1201, 0), (1202, 1), (1203, 2), (1204, 3), (1760, 4), (1206, 5)] [.agg [.int .i64 r.id, .int .i64 r.of_, .int .i64 r.role, .int .i64 r.commit, .int .i64 r.hard.term, .int .i64 r.hard.vote, .ref 1201, .ref 1202, .ref 1203, .ref 1204], .ref 1760, .ref 1206]
      · skip
        refine At.c (impl_stepper_followTerm_F_spec  (⟨r, r, [], []⟩ : Stepper) m.term h2) Tryz.call91 true [(1200, 0), (1201, 1), (1202, 2), (1203, 3), (1204, 4), (1205, 5), (1206, 6)] [(1460, 7), (1461, 8), (1462, 9)] [] trivial ?_
        refine At.a 13 ?_
        refine At.done rfl ?_
        refine AW.cond true (by kernel_rfl) (fun _ => ?_) (fun h => by cases h)
        refine AW.r ?_
        refine At.a 1 ?_
        refine At.c (impl_stepper_end_spec  (⟨⟨r.id, r.of_, 1, r.commit, ⟨m.term, 0, r.hard.log⟩, [], [], []⟩, r, [], []⟩ : Stepper) (by simp)) Tryz.call90 true [(1200, 0), (1201, 1), (1460, 2), (1461, 3), (1462, 4), (1205, 5), (1206, 6)] [(1760, 7)] [] trivial ?_
        refine At.a 6 ?_
        refine At.done rfl ?_
        refine AW.ret ?_
        refine ⟨_, Sub.refl _ _, ?_⟩
        refine KF.conv (fun w => .tup [.agg [.int .i64 w.id, .int .i64 w.of_, .int .i64 w.role, .int .i64 w.commit, .int .i64 w.hard.term, .int .i64 w.hard.vote, .ref 0, .ref 1, .ref 2, .ref 3], .ref 4, .ref 5]) (fun w => [.arr 45 6 (w.hard.log.map encEnt), .arr 3 1 (w.yes.map encI), .arr 3 1 (w.next.map encI), .arr 3 1 (w.match_.map encI), .arr 47 10 (((gots r m).2.1).map encRec), .arr 51 17 (((gots r m).2.2).map encOut)]) (show ((⟨r.id, r.of_, 1, r.commit, ⟨m.term, 0, r.hard.log⟩, [], [], []⟩ : Raft)) = ((gots r m).1) from by rw [gots_term h1 (by omega)]; first | done | rfl | (rw [endRecs_ne (by dsimp only; omega)]; rfl) | (rw [endRecs_eq rfl rfl]; done) | (rw [endRecs_eq rfl rfl]; rfl)) ?_
        refine KF.conv (fun w => .tup [.agg [.int .i64 r.id, .int .i64 r.of_, .int .i64 1, .int .i64 r.commit, .int .i64 m.term, .int .i64 0, .ref 0, .ref 1, .ref 2, .ref 3], .ref 4, .ref 5]) (fun w => [.arr 45 6 (r.hard.log.map encEnt), .arr 3 1 [], .arr 3 1 [], .arr 3 1 [], .arr 47 10 (w.map encRec), .arr 51 17 (((gots r m).2.2).map encOut)]) (show (endRecs (⟨⟨r.id, r.of_, 1, r.commit, ⟨m.term, 0, r.hard.log⟩, [], [], []⟩, r, [], []⟩ : Stepper)) = ((gots r m).2.1) from by rw [gots_term h1 (by omega)]; first | done | rfl | (rw [endRecs_ne (by dsimp only; omega)]; rfl) | (rw [endRecs_eq rfl rfl]; done) | (rw [endRecs_eq rfl rfl]; rfl)) ?_
        refine KF.conv (fun w => .tup [.agg [.int .i64 r.id, .int .i64 r.of_, .int .i64 1, .int .i64 r.commit, .int .i64 m.term, .int .i64 0, .ref 0, .ref 1, .ref 2, .ref 3], .ref 4, .ref 5]) (fun w => [.arr 45 6 (r.hard.log.map encEnt), .arr 3 1 [], .arr 3 1 [], .arr 3 1 [], .arr 47 10 ((endRecs (⟨⟨r.id, r.of_, 1, r.commit, ⟨m.term, 0, r.hard.log⟩, [], [], []⟩, r, [], []⟩ : Stepper)).map encRec), .arr 51 17 (w.map encOut)]) (show ([]) = ((gots r m).2.2) from by rw [gots_term h1 (by omega)]; first | done | rfl | (rw [endRecs_ne (by dsimp only; omega)]; rfl) | (rw [endRecs_eq rfl rfl]; done) | (rw [endRecs_eq rfl rfl]; rfl)) ?_
        exact KF.m [(1201, 0), (1460, 1), (1461, 2), (1462, 3), (1760, 4), (1206, 5)] [.agg [.int .i64 r.id, .int .i64 r.of_, .int .i64 1, .int .i64 r.commit, .int .i64 m.term, .int .i64 0, .ref 1201, .ref 1460, .ref 1461, .ref 1462], .ref 1760, .ref 1206]
  · skip
    refine AW.r ?_
    refine At.a 5 ?_
    refine At.done rfl ?_
    refine AW.seq ?_
    refine AW.weak (Sub.nils [⟨true, 104, some 6, 5001, 45, 6⟩, ⟨true, 104, some 7, 5002, 3, 1⟩, ⟨true, 104, some 8, 5003, 3, 1⟩, ⟨true, 104, some 9, 5004, 3, 1⟩] (by kernel_rfl)) ?_
    refine AW.region (At.start ?_)
    refine At.a 1 ?_
    refine At.c (impl_stepOf_spec  r (by exact hz)) Tryz.call80 true [] [(1200, 0), (1201, 1), (1202, 2), (1203, 3), (1204, 4), (1205, 5), (1206, 6)] [] trivial ?_
    refine At.a 1 ?_
    refine At.done rfl ?_
    refine AW.seq ?_
    refine AW.r ?_
    refine At.a 2 ?_
    refine At.c (impl_stepper_mayHear_spec  (⟨r, r, [], []⟩ : Stepper) m 4 (by exact hz) hm) Tryz.call85 true [(1200, 0), (1201, 1), (1202, 2), (1203, 3), (1204, 4), (1205, 5), (1206, 6)] [] [] trivial ?_
    refine At.a 1 ?_
    refine At.done rfl ?_
    refine AW.condT (!(hears r m 4)) (by kernel_rfl) (by rw [show (hears r m 4) = false from (hears_no hok)]; rfl) ?_
    refine AW.r ?_
    refine At.a 1 ?_
    refine At.c (impl_stepper_none_F_spec  (⟨r, r, [], []⟩ : Stepper) (by exact hz) hok) Tryz.call88 true [(1200, 0), (1201, 1), (1202, 2), (1203, 3), (1204, 4), (1205, 5), (1206, 6)] [(1320, 7), (1321, 8), (1322, 9), (1323, 10), (1324, 11), (1325, 12)] [] trivial ?_
    refine At.a 6 ?_
    refine At.done rfl ?_
    refine AW.ret ?_
    refine ⟨_, Sub.refl _ _, ?_⟩
    refine KF.conv (fun w => .tup [.agg [.int .i64 w.id, .int .i64 w.of_, .int .i64 w.role, .int .i64 w.commit, .int .i64 w.hard.term, .int .i64 w.hard.vote, .ref 0, .ref 1, .ref 2, .ref 3], .ref 4, .ref 5]) (fun w => [.arr 45 6 (w.hard.log.map encEnt), .arr 3 1 (w.yes.map encI), .arr 3 1 (w.next.map encI), .arr 3 1 (w.match_.map encI), .arr 47 10 (((gots r m).2.1).map encRec), .arr 51 17 (((gots r m).2.2).map encOut)]) (show ((⟨0, 0, 0, 0, ⟨0, 0, []⟩, [], [], []⟩ : Raft)) = ((gots r m).1) from by simp [gots, same, hok, hears_no hok]; try rfl) ?_
    refine KF.conv (fun w => .tup [.agg [.int .i64 0, .int .i64 0, .int .i64 0, .int .i64 0, .int .i64 0, .int .i64 0, .ref 0, .ref 1, .ref 2, .ref 3], .ref 4, .ref 5]) (fun w => [.arr 45 6 [], .arr 3 1 [], .arr 3 1 [], .arr 3 1 [], .arr 47 10 (w.map encRec), .arr 51 17 (((gots r m).2.2).map encOut)]) (show ([]) = ((gots r m).2.1) from by simp [gots, same, hok, hears_no hok]; try rfl) ?_
    refine KF.conv (fun w => .tup [.agg [.int .i64 0, .int .i64 0, .int .i64 0, .int .i64 0, .int .i64 0, .int .i64 0, .ref 0, .ref 1, .ref 2, .ref 3], .ref 4, .ref 5]) (fun w => [.arr 45 6 [], .arr 3 1 [], .arr 3 1 [], .arr 3 1 [], .arr 47 10 [], .arr 51 17 (w.map encOut)]) (show ([]) = ((gots r m).2.2) from by simp [gots, same, hok, hears_no hok]; try rfl) ?_
    exact KF.m [(1320, 0), (1321, 1), (1322, 2), (1323, 3), (1324, 4), (1325, 5)] [.agg [.int .i64 0, .int .i64 0, .int .i64 0, .int .i64 0, .int .i64 0, .int .i64 0, .ref 1320, .ref 1321, .ref 1322, .ref 1323], .ref 1324, .ref 1325]
set_option maxRecDepth 100000 in
set_option maxHeartbeats 4000000 in
theorem laws_eqCmd_spec  (a : Cmd) (b : Cmd) : FnSpec Tryz.prog 128 [.agg [.int .i64 a.kind, .int .i64 a.release, .int .i64 a.node, .int .i64 a.size, .str a.digest], .agg [.int .i64 b.kind, .int .i64 b.release, .int .i64 b.node, .int .i64 b.size, .str b.digest]] [] (.bool (cmdEq a b)) [] := by
  refine FnSpec.of 30 Tryz.func128 rfl Tryz.ntmps128 (by simp) (AW.weakK ?_)
  refine AW.r ?_
  refine At.a 3 ?_
  refine At.done rfl ?_
  refine AW.seq ?_
  refine AW.r ?_
  refine At.a 5 ?_
  refine At.done rfl ?_
  refine AW.cU a.kind b.kind (fun h1 => ?_) (fun h1 => ?_)
  · skip
    refine AW.r ?_
    refine At.a 1 ?_
    refine At.done rfl ?_
    refine AW.ret ?_
    refine ⟨_, Sub.refl _ _, ?_⟩
    refine KF.conv (fun w => .bool w) (fun w => []) (show (false) = (cmdEq a b) from by simp [cmdEq, *]) ?_
    exact KF.m [] [.bool false]
  · skip
    refine AW.skip ?_
    refine AW.seq ?_
    refine AW.r ?_
    refine At.a 5 ?_
    refine At.done rfl ?_
    refine AW.cU a.release b.release (fun h2 => ?_) (fun h2 => ?_)
    · skip
      refine AW.r ?_
      refine At.a 1 ?_
      refine At.done rfl ?_
      refine AW.ret ?_
      refine ⟨_, Sub.refl _ _, ?_⟩
      refine KF.conv (fun w => .bool w) (fun w => []) (show (false) = (cmdEq a b) from by simp [cmdEq, *]) ?_
      exact KF.m [] [.bool false]
    · skip
      refine AW.skip ?_
      refine AW.seq ?_
      refine AW.r ?_
      refine At.a 5 ?_
      refine At.done rfl ?_
      refine AW.cU a.node b.node (fun h3 => ?_) (fun h3 => ?_)
      · skip
        refine AW.r ?_
        refine At.a 1 ?_
        refine At.done rfl ?_
        refine AW.ret ?_
        refine ⟨_, Sub.refl _ _, ?_⟩
        refine KF.conv (fun w => .bool w) (fun w => []) (show (false) = (cmdEq a b) from by simp [cmdEq, *]) ?_
        exact KF.m [] [.bool false]
      · skip
        refine AW.skip ?_
        refine AW.seq ?_
        refine AW.r ?_
        refine At.a 5 ?_
        refine At.done rfl ?_
        refine AW.cU a.size b.size (fun h4 => ?_) (fun h4 => ?_)
        · skip
          refine AW.r ?_
          refine At.a 1 ?_
          refine At.done rfl ?_
          refine AW.ret ?_
          refine ⟨_, Sub.refl _ _, ?_⟩
          refine KF.conv (fun w => .bool w) (fun w => []) (show (false) = (cmdEq a b) from by simp [cmdEq, *]) ?_
          exact KF.m [] [.bool false]
        · skip
          refine AW.skip ?_
          refine AW.seq ?_
          refine AW.r ?_
          refine At.a 5 ?_
          refine At.done rfl ?_
          refine AW.cNE (a.digest.toList) (b.digest.toList) (fun h5 => ?_) (fun h5 => ?_)
          · skip
            refine AW.r ?_
            refine At.a 1 ?_
            refine At.done rfl ?_
            refine AW.ret ?_
            refine ⟨_, Sub.refl _ _, ?_⟩
            refine KF.conv (fun w => .bool w) (fun w => []) (show (false) = (cmdEq a b) from by simp [cmdEq, *]) ?_
            exact KF.m [] [.bool false]
          · skip
            refine AW.skip ?_
            refine AW.r ?_
            refine At.a 1 ?_
            refine At.done rfl ?_
            refine AW.ret ?_
            refine ⟨_, Sub.refl _ _, ?_⟩
            refine KF.conv (fun w => .bool w) (fun w => []) (show (true) = (cmdEq a b) from by simp [cmdEq, *]) ?_
            exact KF.m [] [.bool true]
set_option maxRecDepth 100000 in
set_option maxHeartbeats 4000000 in
theorem laws_eqEntry_spec  (a : Ent) (b : Ent) : FnSpec Tryz.prog 166 [.agg [.int .i64 a.term, .int .i64 a.cmd.kind, .int .i64 a.cmd.release, .int .i64 a.cmd.node, .int .i64 a.cmd.size, .str a.cmd.digest], .agg [.int .i64 b.term, .int .i64 b.cmd.kind, .int .i64 b.cmd.release, .int .i64 b.cmd.node, .int .i64 b.cmd.size, .str b.cmd.digest]] [] (.bool (entEq a b)) [] := by
  refine FnSpec.of 16 Tryz.func166 rfl Tryz.ntmps166 (by simp) (AW.weakK ?_)
  refine AW.r ?_
  refine At.a 3 ?_
  refine At.done rfl ?_
  refine AW.seq ?_
  refine AW.r ?_
  refine At.a 5 ?_
  refine At.done rfl ?_
  refine AW.cU a.term b.term (fun h1 => ?_) (fun h1 => ?_)
  · skip
    refine AW.r ?_
    refine At.a 1 ?_
    refine At.done rfl ?_
    refine AW.ret ?_
    refine ⟨_, Sub.refl _ _, ?_⟩
    refine KF.conv (fun w => .bool w) (fun w => []) (show (false) = (entEq a b) from by simp [entEq, *]) ?_
    exact KF.m [] [.bool false]
  · skip
    refine AW.skip ?_
    refine AW.seq ?_
    refine AW.r ?_
    refine At.a 4 ?_
    refine At.c (laws_eqCmd_spec  a.cmd b.cmd ) Tryz.call128 true [] [] [] trivial ?_
    refine At.a 1 ?_
    refine At.done rfl ?_
    refine AW.cNB (cmdEq a.cmd b.cmd) (fun h2 => ?_) (fun h2 => ?_)
    · skip
      refine AW.r ?_
      refine At.a 1 ?_
      refine At.done rfl ?_
      refine AW.ret ?_
      refine ⟨_, Sub.refl _ _, ?_⟩
      refine KF.conv (fun w => .bool w) (fun w => []) (show (false) = (entEq a b) from by simp [entEq, *]) ?_
      exact KF.m [] [.bool false]
    · skip
      refine AW.skip ?_
      refine AW.r ?_
      refine At.a 1 ?_
      refine At.done rfl ?_
      refine AW.ret ?_
      refine ⟨_, Sub.refl _ _, ?_⟩
      refine KF.conv (fun w => .bool w) (fun w => []) (show (true) = (entEq a b) from by simp [entEq, *]) ?_
      exact KF.m [] [.bool true]
set_option maxRecDepth 100000 in
set_option maxHeartbeats 4000000 in
theorem laws_eqEntryS_spec  (a : List Ent) (b : List Ent) (ha : a.length ≤ 1048576) (hb : b.length ≤ 1048576) : FnSpec Tryz.prog 129 [.sl false 6 (a.map encEnt), .sl false 6 (b.map encEnt)] [] (.bool (listEq entEq a b)) [] := by
  refine FnSpec.of 27 Tryz.func129 rfl Tryz.ntmps129 (by simp) (AW.weakK ?_)
  refine AW.r ?_
  refine At.a 1 ?_
  refine At.done rfl ?_
  refine AW.seq ?_
  refine AW.r ?_
  refine At.a 2 ?_
  refine At.sL 7 encEnt a ?_
  refine At.a 2 ?_
  refine At.sL 9 encEnt b ?_
  refine At.a 1 ?_
  refine At.done rfl ?_
  refine AW.cU (a.length : Int) (b.length : Int) (fun h1 => ?_) (fun h1 => ?_)
  · skip
    refine AW.r ?_
    refine At.a 1 ?_
    refine At.done rfl ?_
    refine AW.ret ?_
    refine ⟨_, Sub.refl _ _, ?_⟩
    refine KF.conv (fun w => .bool w) (fun w => []) (show (false) = (listEq entEq a b) from by rw [listEq_len (by omega)]) ?_
    exact KF.m [] [.bool false]
  · skip
    refine AW.skip ?_
    refine AW.seq ?_
    refine AW.r ?_
    refine At.a 1 ?_
    refine At.done rfl ?_
    refine AW.block ?_
    refine AW.loopW (fun (k : Nat) => Go.Sy.mk [.sl false 6 (a.map encEnt), .sl false 6 (b.map encEnt), .un, .un, .un, .int .i64 (k : Int)] []) (fun (k : Nat) => k ≤ a.length ∧ listEq entEq a b = listEq entEq (a.drop k) (b.drop k)) (fun (k : Nat) => a.length - k) 0 ⟨by omega, by rw [List.drop_zero, List.drop_zero]⟩ (Sub.o [] [true, true, false, false, false, true]) ?_
    rintro k ⟨hk, hR⟩
    refine AW.seq ?_
    refine AW.r ?_
    refine At.a 3 ?_
    refine At.sL 13 encEnt a ?_
    refine At.a 1 ?_
    refine At.done rfl ?_
    refine AW.cD ((k : Int) < (a.length : Int)) (fun h2 => ?_) (fun h2 => ?_)
    · skip
      refine AW.skip ?_
      refine AW.seq ?_
      refine AW.block ?_
      refine AW.seq ?_
      refine AW.regionD Tryz_mix (At.start ?_)
      refine At.a 2 ?_
      refine At.iSl 24 19 (.tmp 17) (.tmp 18) false 6 (a.map encEnt) .i64 (k : Int) 45 (by omega) (by simp only [List.length_map, List.length_append, List.length_take, List.length_drop, List.length_replicate, List.length_set, List.length_cons, List.length_nil]; omega) ?_
      refine Exists.elim (show ∃ e, a[k]? = some e from ⟨_, List.getElem?_eq_getElem (by omega)⟩) fun e1 he1 => ?_
      refine At.lVp 45 20 (.tmp 19) false 6 (a.map encEnt) k 0 true 6 (encEnt e1) (.agg [.int .i64 e1.term, .int .i64 e1.cmd.kind, .int .i64 e1.cmd.release, .int .i64 e1.cmd.node, .int .i64 e1.cmd.size, .str e1.cmd.digest]) (mapGet he1) ?_
      refine At.a 2 ?_
      refine At.iSl 24 23 (.tmp 21) (.tmp 22) false 6 (b.map encEnt) .i64 (k : Int) 45 (by omega) (by simp only [List.length_map, List.length_append, List.length_take, List.length_drop, List.length_replicate, List.length_set, List.length_cons, List.length_nil]; omega) ?_
      refine Exists.elim (show ∃ e, b[k]? = some e from ⟨_, List.getElem?_eq_getElem (by omega)⟩) fun e2 he2 => ?_
      refine At.lVp 45 24 (.tmp 23) false 6 (b.map encEnt) k 0 true 6 (encEnt e2) (.agg [.int .i64 e2.term, .int .i64 e2.cmd.kind, .int .i64 e2.cmd.release, .int .i64 e2.cmd.node, .int .i64 e2.cmd.size, .str e2.cmd.digest]) (mapGet he2) ?_
      refine At.c (laws_eqEntry_spec  e1 e2 ) Tryz.call166 true [] [] [] trivial ?_
      refine At.a 1 ?_
      refine At.done rfl ⟨by kernel_rfl, ?_⟩
      refine AW.cNB (entEq e1 e2) (fun h3 => ?_) (fun h3 => ?_)
      · skip
        refine AW.r ?_
        refine At.a 1 ?_
        refine At.done rfl ?_
        refine AW.ret ?_
        refine ⟨_, Sub.refl _ _, ?_⟩
        refine KF.conv (fun w => .bool w) (fun w => []) (show (false) = (listEq entEq a b) from by rw [hR, dropCons he1, dropCons he2, listEq]; simp [eqI, *]) ?_
        exact KF.m [] [.bool false]
      · skip
        refine AW.skip ?_
        refine AW.region (At.start ?_)
        refine At.a 2 ?_
        refine At.sI 16 ((k : Int) + 1) (by omega) ?_
        refine At.a 1 ?_
        refine At.done rfl ?_
        exact ⟨k + 1, ⟨by omega, by rw [hR, dropCons he1, dropCons he2, listEq]; simp [eqI, *]⟩, (by omega), Sub.o [] [true, true, false, false, false, true]⟩
    · skip
      refine AW.exit ?_
      refine AW.r ?_
      refine At.a 1 ?_
      refine At.done rfl ?_
      refine AW.ret ?_
      refine ⟨_, Sub.refl _ _, ?_⟩
      refine KF.conv (fun w => .bool w) (fun w => []) (show (true) = (listEq entEq a b) from by rw [hR, List.drop_of_length_le (by omega), List.drop_of_length_le (by omega)]; rfl) ?_
      exact KF.m [] [.bool true]
set_option maxRecDepth 100000 in
set_option maxHeartbeats 4000000 in
theorem laws_eqHard_spec  (a : Hard) (b : Hard) (ha : a.log.length ≤ 1048576) (hb : b.log.length ≤ 1048576) : FnSpec Tryz.prog 124 [.agg [.int .i64 a.term, .int .i64 a.vote, .sl false 6 (a.log.map encEnt)], .agg [.int .i64 b.term, .int .i64 b.vote, .sl false 6 (b.log.map encEnt)]] [] (.bool (hardEq a b)) [] := by
  refine FnSpec.of 21 Tryz.func124 rfl Tryz.ntmps124 (by simp) (AW.weakK ?_)
  refine AW.r ?_
  refine At.a 3 ?_
  refine At.done rfl ?_
  refine AW.seq ?_
  refine AW.r ?_
  refine At.a 5 ?_
  refine At.done rfl ?_
  refine AW.cU a.term b.term (fun h1 => ?_) (fun h1 => ?_)
  · skip
    refine AW.r ?_
    refine At.a 1 ?_
    refine At.done rfl ?_
    refine AW.ret ?_
    refine ⟨_, Sub.refl _ _, ?_⟩
    refine KF.conv (fun w => .bool w) (fun w => []) (show (false) = (hardEq a b) from by simp [hardEq, *]) ?_
    exact KF.m [] [.bool false]
  · skip
    refine AW.skip ?_
    refine AW.seq ?_
    refine AW.r ?_
    refine At.a 5 ?_
    refine At.done rfl ?_
    refine AW.cU a.vote b.vote (fun h2 => ?_) (fun h2 => ?_)
    · skip
      refine AW.r ?_
      refine At.a 1 ?_
      refine At.done rfl ?_
      refine AW.ret ?_
      refine ⟨_, Sub.refl _ _, ?_⟩
      refine KF.conv (fun w => .bool w) (fun w => []) (show (false) = (hardEq a b) from by simp [hardEq, *]) ?_
      exact KF.m [] [.bool false]
    · skip
      refine AW.skip ?_
      refine AW.seq ?_
      refine AW.r ?_
      refine At.a 4 ?_
      refine At.c (laws_eqEntryS_spec  a.log b.log (by omega) (by omega)) Tryz.call129 true [] [] [] trivial ?_
      refine At.a 1 ?_
      refine At.done rfl ?_
      refine AW.cNB (listEq entEq a.log b.log) (fun h3 => ?_) (fun h3 => ?_)
      · skip
        refine AW.r ?_
        refine At.a 1 ?_
        refine At.done rfl ?_
        refine AW.ret ?_
        refine ⟨_, Sub.refl _ _, ?_⟩
        refine KF.conv (fun w => .bool w) (fun w => []) (show (false) = (hardEq a b) from by simp [hardEq, *]) ?_
        exact KF.m [] [.bool false]
      · skip
        refine AW.skip ?_
        refine AW.r ?_
        refine At.a 1 ?_
        refine At.done rfl ?_
        refine AW.ret ?_
        refine ⟨_, Sub.refl _ _, ?_⟩
        refine KF.conv (fun w => .bool w) (fun w => []) (show (true) = (hardEq a b) from by simp [hardEq, *]) ?_
        exact KF.m [] [.bool true]
set_option maxRecDepth 100000 in
set_option maxHeartbeats 4000000 in
theorem laws_eqIntS_spec  (a : List Int) (b : List Int) (ha : a.length ≤ 1048576) (hb : b.length ≤ 1048576) : FnSpec Tryz.prog 125 [.sl false 1 (a.map encI), .sl false 1 (b.map encI)] [] (.bool (listEq eqI a b)) [] := by
  refine FnSpec.of 26 Tryz.func125 rfl Tryz.ntmps125 (by simp) (AW.weakK ?_)
  refine AW.r ?_
  refine At.a 1 ?_
  refine At.done rfl ?_
  refine AW.seq ?_
  refine AW.r ?_
  refine At.a 2 ?_
  refine At.sL 7 encI a ?_
  refine At.a 2 ?_
  refine At.sL 9 encI b ?_
  refine At.a 1 ?_
  refine At.done rfl ?_
  refine AW.cU (a.length : Int) (b.length : Int) (fun h1 => ?_) (fun h1 => ?_)
  · skip
    refine AW.r ?_
    refine At.a 1 ?_
    refine At.done rfl ?_
    refine AW.ret ?_
    refine ⟨_, Sub.refl _ _, ?_⟩
    refine KF.conv (fun w => .bool w) (fun w => []) (show (false) = (listEq eqI a b) from by rw [listEq_len (by omega)]) ?_
    exact KF.m [] [.bool false]
  · skip
    refine AW.skip ?_
    refine AW.seq ?_
    refine AW.r ?_
    refine At.a 1 ?_
    refine At.done rfl ?_
    refine AW.block ?_
    refine AW.loopW (fun (k : Nat) => Go.Sy.mk [.sl false 1 (a.map encI), .sl false 1 (b.map encI), .un, .un, .un, .int .i64 (k : Int)] []) (fun (k : Nat) => k ≤ a.length ∧ listEq eqI a b = listEq eqI (a.drop k) (b.drop k)) (fun (k : Nat) => a.length - k) 0 ⟨by omega, by rw [List.drop_zero, List.drop_zero]⟩ (Sub.o [] [true, true, false, false, false, true]) ?_
    rintro k ⟨hk, hR⟩
    refine AW.seq ?_
    refine AW.r ?_
    refine At.a 3 ?_
    refine At.sL 13 encI a ?_
    refine At.a 1 ?_
    refine At.done rfl ?_
    refine AW.cD ((k : Int) < (a.length : Int)) (fun h2 => ?_) (fun h2 => ?_)
    · skip
      refine AW.skip ?_
      refine AW.seq ?_
      refine AW.block ?_
      refine AW.seq ?_
      refine AW.regionD Tryz_mix (At.start ?_)
      refine At.a 2 ?_
      refine At.iSl 27 19 (.tmp 17) (.tmp 18) false 1 (a.map encI) .i64 (k : Int) 3 (by omega) (by simp only [List.length_map, List.length_append, List.length_take, List.length_drop, List.length_replicate, List.length_set, List.length_cons, List.length_nil]; omega) ?_
      refine Exists.elim (show ∃ e, a[k]? = some e from ⟨_, List.getElem?_eq_getElem (by omega)⟩) fun e1 he1 => ?_
      refine At.lVp 3 20 (.tmp 19) false 1 (a.map encI) k 0 false 1 (encI e1) (.int .i64 e1) (mapGet he1) ?_
      refine At.a 2 ?_
      refine At.iSl 27 23 (.tmp 21) (.tmp 22) false 1 (b.map encI) .i64 (k : Int) 3 (by omega) (by simp only [List.length_map, List.length_append, List.length_take, List.length_drop, List.length_replicate, List.length_set, List.length_cons, List.length_nil]; omega) ?_
      refine Exists.elim (show ∃ e, b[k]? = some e from ⟨_, List.getElem?_eq_getElem (by omega)⟩) fun e2 he2 => ?_
      refine At.lVp 3 24 (.tmp 23) false 1 (b.map encI) k 0 false 1 (encI e2) (.int .i64 e2) (mapGet he2) ?_
      refine At.a 1 ?_
      refine At.done rfl ⟨by kernel_rfl, ?_⟩
      refine AW.cU e1 e2 (fun h3 => ?_) (fun h3 => ?_)
      · skip
        refine AW.r ?_
        refine At.a 1 ?_
        refine At.done rfl ?_
        refine AW.ret ?_
        refine ⟨_, Sub.refl _ _, ?_⟩
        refine KF.conv (fun w => .bool w) (fun w => []) (show (false) = (listEq eqI a b) from by rw [hR, dropCons he1, dropCons he2, listEq]; simp [eqI, *]) ?_
        exact KF.m [] [.bool false]
      · skip
        refine AW.skip ?_
        refine AW.region (At.start ?_)
        refine At.a 2 ?_
        refine At.sI 16 ((k : Int) + 1) (by omega) ?_
        refine At.a 1 ?_
        refine At.done rfl ?_
        exact ⟨k + 1, ⟨by omega, by rw [hR, dropCons he1, dropCons he2, listEq]; simp [eqI, *]⟩, (by omega), Sub.o [] [true, true, false, false, false, true]⟩
    · skip
      refine AW.exit ?_
      refine AW.r ?_
      refine At.a 1 ?_
      refine At.done rfl ?_
      refine AW.ret ?_
      refine ⟨_, Sub.refl _ _, ?_⟩
      refine KF.conv (fun w => .bool w) (fun w => []) (show (true) = (listEq eqI a b) from by rw [hR, List.drop_of_length_le (by omega), List.drop_of_length_le (by omega)]; rfl) ?_
      exact KF.m [] [.bool true]
set_option maxRecDepth 100000 in
set_option maxHeartbeats 4000000 in
theorem laws_eqRaft_spec  (a : Raft) (b : Raft) (ha : SmallR a) (hb : SmallR b) : FnSpec Tryz.prog 42 [.agg [.int .i64 a.id, .int .i64 a.of_, .int .i64 a.role, .int .i64 a.commit, .int .i64 a.hard.term, .int .i64 a.hard.vote, .sl false 6 (a.hard.log.map encEnt), .sl false 1 (a.yes.map encI), .sl false 1 (a.next.map encI), .sl false 1 (a.match_.map encI)], .agg [.int .i64 b.id, .int .i64 b.of_, .int .i64 b.role, .int .i64 b.commit, .int .i64 b.hard.term, .int .i64 b.hard.vote, .sl false 6 (b.hard.log.map encEnt), .sl false 1 (b.yes.map encI), .sl false 1 (b.next.map encI), .sl false 1 (b.match_.map encI)]] [] (.bool (raftEq a b)) [] := by
  obtain ⟨z1, z2, z3, z4⟩ := id ha
  obtain ⟨y1, y2, y3, y4⟩ := id hb
  refine FnSpec.of 49 Tryz.func42 rfl Tryz.ntmps42 (by simp) (AW.weakK ?_)
  refine AW.r ?_
  refine At.a 3 ?_
  refine At.done rfl ?_
  refine AW.seq ?_
  refine AW.r ?_
  refine At.a 5 ?_
  refine At.done rfl ?_
  refine AW.cU a.id b.id (fun h1 => ?_) (fun h1 => ?_)
  · skip
    refine AW.r ?_
    refine At.a 1 ?_
    refine At.done rfl ?_
    refine AW.ret ?_
    refine ⟨_, Sub.refl _ _, ?_⟩
    refine KF.conv (fun w => .bool w) (fun w => []) (show (false) = (raftEq a b) from by simp [raftEq, h1]) ?_
    exact KF.m [] [.bool false]
  · skip
    refine AW.skip ?_
    refine AW.seq ?_
    refine AW.r ?_
    refine At.a 5 ?_
    refine At.done rfl ?_
    refine AW.cU a.of_ b.of_ (fun h2 => ?_) (fun h2 => ?_)
    · skip
      refine AW.r ?_
      refine At.a 1 ?_
      refine At.done rfl ?_
      refine AW.ret ?_
      refine ⟨_, Sub.refl _ _, ?_⟩
      refine KF.conv (fun w => .bool w) (fun w => []) (show (false) = (raftEq a b) from by simp [raftEq, h1, h2]) ?_
      exact KF.m [] [.bool false]
    · skip
      refine AW.skip ?_
      refine AW.seq ?_
      refine AW.r ?_
      refine At.a 5 ?_
      refine At.done rfl ?_
      refine AW.cU a.role b.role (fun h3 => ?_) (fun h3 => ?_)
      · skip
        refine AW.r ?_
        refine At.a 1 ?_
        refine At.done rfl ?_
        refine AW.ret ?_
        refine ⟨_, Sub.refl _ _, ?_⟩
        refine KF.conv (fun w => .bool w) (fun w => []) (show (false) = (raftEq a b) from by simp [raftEq, h1, h2, h3]) ?_
        exact KF.m [] [.bool false]
      · skip
        refine AW.skip ?_
        refine AW.seq ?_
        refine AW.r ?_
        refine At.a 5 ?_
        refine At.done rfl ?_
        refine AW.cU a.commit b.commit (fun h4 => ?_) (fun h4 => ?_)
        · skip
          refine AW.r ?_
          refine At.a 1 ?_
          refine At.done rfl ?_
          refine AW.ret ?_
          refine ⟨_, Sub.refl _ _, ?_⟩
          refine KF.conv (fun w => .bool w) (fun w => []) (show (false) = (raftEq a b) from by simp [raftEq, h1, h2, h3, h4]) ?_
          exact KF.m [] [.bool false]
        · skip
          refine AW.skip ?_
          refine AW.seq ?_
          refine AW.r ?_
          refine At.a 4 ?_
          refine At.c (laws_eqHard_spec  a.hard b.hard (by omega) (by omega)) Tryz.call124 true [] [] [] trivial ?_
          refine At.a 1 ?_
          refine At.done rfl ?_
          refine AW.cNB (hardEq a.hard b.hard) (fun h5 => ?_) (fun h5 => ?_)
          · skip
            refine AW.r ?_
            refine At.a 1 ?_
            refine At.done rfl ?_
            refine AW.ret ?_
            refine ⟨_, Sub.refl _ _, ?_⟩
            refine KF.conv (fun w => .bool w) (fun w => []) (show (false) = (raftEq a b) from by simp [raftEq, h1, h2, h3, h4, h5]) ?_
            exact KF.m [] [.bool false]
          · skip
            refine AW.skip ?_
            refine AW.seq ?_
            refine AW.r ?_
            refine At.a 4 ?_
            refine At.c (laws_eqIntS_spec  a.yes b.yes (by omega) (by omega)) Tryz.call125 true [] [] [] trivial ?_
            refine At.a 1 ?_
            refine At.done rfl ?_
            refine AW.cNB (listEq eqI a.yes b.yes) (fun h6 => ?_) (fun h6 => ?_)
            · skip
              refine AW.r ?_
              refine At.a 1 ?_
              refine At.done rfl ?_
              refine AW.ret ?_
              refine ⟨_, Sub.refl _ _, ?_⟩
              refine KF.conv (fun w => .bool w) (fun w => []) (show (false) = (raftEq a b) from by simp [raftEq, h1, h2, h3, h4, h5, h6]) ?_
              exact KF.m [] [.bool false]
            · skip
              refine AW.skip ?_
              refine AW.seq ?_
              refine AW.r ?_
              refine At.a 4 ?_
              refine At.c (laws_eqIntS_spec  a.next b.next (by omega) (by omega)) Tryz.call125 true [] [] [] trivial ?_
              refine At.a 1 ?_
              refine At.done rfl ?_
              refine AW.cNB (listEq eqI a.next b.next) (fun h7 => ?_) (fun h7 => ?_)
              · skip
                refine AW.r ?_
                refine At.a 1 ?_
                refine At.done rfl ?_
                refine AW.ret ?_
                refine ⟨_, Sub.refl _ _, ?_⟩
                refine KF.conv (fun w => .bool w) (fun w => []) (show (false) = (raftEq a b) from by simp [raftEq, h1, h2, h3, h4, h5, h6, h7]) ?_
                exact KF.m [] [.bool false]
              · skip
                refine AW.skip ?_
                refine AW.seq ?_
                refine AW.r ?_
                refine At.a 4 ?_
                refine At.c (laws_eqIntS_spec  a.match_ b.match_ (by omega) (by omega)) Tryz.call125 true [] [] [] trivial ?_
                refine At.a 1 ?_
                refine At.done rfl ?_
                refine AW.cNB (listEq eqI a.match_ b.match_) (fun h8 => ?_) (fun h8 => ?_)
                · skip
                  refine AW.r ?_
                  refine At.a 1 ?_
                  refine At.done rfl ?_
                  refine AW.ret ?_
                  refine ⟨_, Sub.refl _ _, ?_⟩
                  refine KF.conv (fun w => .bool w) (fun w => []) (show (false) = (raftEq a b) from by simp [raftEq, h1, h2, h3, h4, h5, h6, h7, h8]) ?_
                  exact KF.m [] [.bool false]
                · skip
                  refine AW.skip ?_
                  refine AW.r ?_
                  refine At.a 1 ?_
                  refine At.done rfl ?_
                  refine AW.ret ?_
                  refine ⟨_, Sub.refl _ _, ?_⟩
                  refine KF.conv (fun w => .bool w) (fun w => []) (show (true) = (raftEq a b) from by simp [raftEq, h1, h2, h3, h4, h5, h6, h7, h8]) ?_
                  exact KF.m [] [.bool true]
set_option maxRecDepth 100000 in
set_option maxHeartbeats 4000000 in
theorem laws_eqRec_spec  (a : Rec) (b : Rec) : FnSpec Tryz.prog 126 [.agg [.int .i64 a.kind, .int .i64 a.term, .int .i64 a.vote, .int .i64 a.at_, .int .i64 a.entry.term, .int .i64 a.entry.cmd.kind, .int .i64 a.entry.cmd.release, .int .i64 a.entry.cmd.node, .int .i64 a.entry.cmd.size, .str a.entry.cmd.digest], .agg [.int .i64 b.kind, .int .i64 b.term, .int .i64 b.vote, .int .i64 b.at_, .int .i64 b.entry.term, .int .i64 b.entry.cmd.kind, .int .i64 b.entry.cmd.release, .int .i64 b.entry.cmd.node, .int .i64 b.entry.cmd.size, .str b.entry.cmd.digest]] [] (.bool (recEq a b)) [] := by
  refine FnSpec.of 31 Tryz.func126 rfl Tryz.ntmps126 (by simp) (AW.weakK ?_)
  refine AW.r ?_
  refine At.a 3 ?_
  refine At.done rfl ?_
  refine AW.seq ?_
  refine AW.r ?_
  refine At.a 5 ?_
  refine At.done rfl ?_
  refine AW.cU a.kind b.kind (fun h1 => ?_) (fun h1 => ?_)
  · skip
    refine AW.r ?_
    refine At.a 1 ?_
    refine At.done rfl ?_
    refine AW.ret ?_
    refine ⟨_, Sub.refl _ _, ?_⟩
    refine KF.conv (fun w => .bool w) (fun w => []) (show (false) = (recEq a b) from by simp [recEq, *]) ?_
    exact KF.m [] [.bool false]
  · skip
    refine AW.skip ?_
    refine AW.seq ?_
    refine AW.r ?_
    refine At.a 5 ?_
    refine At.done rfl ?_
    refine AW.cU a.term b.term (fun h2 => ?_) (fun h2 => ?_)
    · skip
      refine AW.r ?_
      refine At.a 1 ?_
      refine At.done rfl ?_
      refine AW.ret ?_
      refine ⟨_, Sub.refl _ _, ?_⟩
      refine KF.conv (fun w => .bool w) (fun w => []) (show (false) = (recEq a b) from by simp [recEq, *]) ?_
      exact KF.m [] [.bool false]
    · skip
      refine AW.skip ?_
      refine AW.seq ?_
      refine AW.r ?_
      refine At.a 5 ?_
      refine At.done rfl ?_
      refine AW.cU a.vote b.vote (fun h3 => ?_) (fun h3 => ?_)
      · skip
        refine AW.r ?_
        refine At.a 1 ?_
        refine At.done rfl ?_
        refine AW.ret ?_
        refine ⟨_, Sub.refl _ _, ?_⟩
        refine KF.conv (fun w => .bool w) (fun w => []) (show (false) = (recEq a b) from by simp [recEq, *]) ?_
        exact KF.m [] [.bool false]
      · skip
        refine AW.skip ?_
        refine AW.seq ?_
        refine AW.r ?_
        refine At.a 5 ?_
        refine At.done rfl ?_
        refine AW.cU a.at_ b.at_ (fun h4 => ?_) (fun h4 => ?_)
        · skip
          refine AW.r ?_
          refine At.a 1 ?_
          refine At.done rfl ?_
          refine AW.ret ?_
          refine ⟨_, Sub.refl _ _, ?_⟩
          refine KF.conv (fun w => .bool w) (fun w => []) (show (false) = (recEq a b) from by simp [recEq, *]) ?_
          exact KF.m [] [.bool false]
        · skip
          refine AW.skip ?_
          refine AW.seq ?_
          refine AW.r ?_
          refine At.a 4 ?_
          refine At.c (laws_eqEntry_spec  a.entry b.entry ) Tryz.call166 true [] [] [] trivial ?_
          refine At.a 1 ?_
          refine At.done rfl ?_
          refine AW.cNB (entEq a.entry b.entry) (fun h5 => ?_) (fun h5 => ?_)
          · skip
            refine AW.r ?_
            refine At.a 1 ?_
            refine At.done rfl ?_
            refine AW.ret ?_
            refine ⟨_, Sub.refl _ _, ?_⟩
            refine KF.conv (fun w => .bool w) (fun w => []) (show (false) = (recEq a b) from by simp [recEq, *]) ?_
            exact KF.m [] [.bool false]
          · skip
            refine AW.skip ?_
            refine AW.r ?_
            refine At.a 1 ?_
            refine At.done rfl ?_
            refine AW.ret ?_
            refine ⟨_, Sub.refl _ _, ?_⟩
            refine KF.conv (fun w => .bool w) (fun w => []) (show (true) = (recEq a b) from by simp [recEq, *]) ?_
            exact KF.m [] [.bool true]
set_option maxRecDepth 100000 in
set_option maxHeartbeats 4000000 in
theorem laws_eqRecS_spec  (a : List Rec) (b : List Rec) (ha : a.length ≤ 1048576) (hb : b.length ≤ 1048576) : FnSpec Tryz.prog 43 [.sl false 10 (a.map encRec), .sl false 10 (b.map encRec)] [] (.bool (listEq recEq a b)) [] := by
  refine FnSpec.of 27 Tryz.func43 rfl Tryz.ntmps43 (by simp) (AW.weakK ?_)
  refine AW.r ?_
  refine At.a 1 ?_
  refine At.done rfl ?_
  refine AW.seq ?_
  refine AW.r ?_
  refine At.a 2 ?_
  refine At.sL 7 encRec a ?_
  refine At.a 2 ?_
  refine At.sL 9 encRec b ?_
  refine At.a 1 ?_
  refine At.done rfl ?_
  refine AW.cU (a.length : Int) (b.length : Int) (fun h1 => ?_) (fun h1 => ?_)
  · skip
    refine AW.r ?_
    refine At.a 1 ?_
    refine At.done rfl ?_
    refine AW.ret ?_
    refine ⟨_, Sub.refl _ _, ?_⟩
    refine KF.conv (fun w => .bool w) (fun w => []) (show (false) = (listEq recEq a b) from by rw [listEq_len (by omega)]) ?_
    exact KF.m [] [.bool false]
  · skip
    refine AW.skip ?_
    refine AW.seq ?_
    refine AW.r ?_
    refine At.a 1 ?_
    refine At.done rfl ?_
    refine AW.block ?_
    refine AW.loopW (fun (k : Nat) => Go.Sy.mk [.sl false 10 (a.map encRec), .sl false 10 (b.map encRec), .un, .un, .un, .int .i64 (k : Int)] []) (fun (k : Nat) => k ≤ a.length ∧ listEq recEq a b = listEq recEq (a.drop k) (b.drop k)) (fun (k : Nat) => a.length - k) 0 ⟨by omega, by rw [List.drop_zero, List.drop_zero]⟩ (Sub.o [] [true, true, false, false, false, true]) ?_
    rintro k ⟨hk, hR⟩
    refine AW.seq ?_
    refine AW.r ?_
    refine At.a 3 ?_
    refine At.sL 13 encRec a ?_
    refine At.a 1 ?_
    refine At.done rfl ?_
    refine AW.cD ((k : Int) < (a.length : Int)) (fun h2 => ?_) (fun h2 => ?_)
    · skip
      refine AW.skip ?_
      refine AW.seq ?_
      refine AW.block ?_
      refine AW.seq ?_
      refine AW.regionD Tryz_mix (At.start ?_)
      refine At.a 2 ?_
      refine At.iSl 37 19 (.tmp 17) (.tmp 18) false 10 (a.map encRec) .i64 (k : Int) 47 (by omega) (by simp only [List.length_map, List.length_append, List.length_take, List.length_drop, List.length_replicate, List.length_set, List.length_cons, List.length_nil]; omega) ?_
      refine Exists.elim (show ∃ e, a[k]? = some e from ⟨_, List.getElem?_eq_getElem (by omega)⟩) fun e1 he1 => ?_
      refine At.lVp 47 20 (.tmp 19) false 10 (a.map encRec) k 0 true 10 (encRec e1) (.agg [.int .i64 e1.kind, .int .i64 e1.term, .int .i64 e1.vote, .int .i64 e1.at_, .int .i64 e1.entry.term, .int .i64 e1.entry.cmd.kind, .int .i64 e1.entry.cmd.release, .int .i64 e1.entry.cmd.node, .int .i64 e1.entry.cmd.size, .str e1.entry.cmd.digest]) (mapGet he1) ?_
      refine At.a 2 ?_
      refine At.iSl 37 23 (.tmp 21) (.tmp 22) false 10 (b.map encRec) .i64 (k : Int) 47 (by omega) (by simp only [List.length_map, List.length_append, List.length_take, List.length_drop, List.length_replicate, List.length_set, List.length_cons, List.length_nil]; omega) ?_
      refine Exists.elim (show ∃ e, b[k]? = some e from ⟨_, List.getElem?_eq_getElem (by omega)⟩) fun e2 he2 => ?_
      refine At.lVp 47 24 (.tmp 23) false 10 (b.map encRec) k 0 true 10 (encRec e2) (.agg [.int .i64 e2.kind, .int .i64 e2.term, .int .i64 e2.vote, .int .i64 e2.at_, .int .i64 e2.entry.term, .int .i64 e2.entry.cmd.kind, .int .i64 e2.entry.cmd.release, .int .i64 e2.entry.cmd.node, .int .i64 e2.entry.cmd.size, .str e2.entry.cmd.digest]) (mapGet he2) ?_
      refine At.c (laws_eqRec_spec  e1 e2 ) Tryz.call126 true [] [] [] trivial ?_
      refine At.a 1 ?_
      refine At.done rfl ⟨by kernel_rfl, ?_⟩
      refine AW.cNB (recEq e1 e2) (fun h3 => ?_) (fun h3 => ?_)
      · skip
        refine AW.r ?_
        refine At.a 1 ?_
        refine At.done rfl ?_
        refine AW.ret ?_
        refine ⟨_, Sub.refl _ _, ?_⟩
        refine KF.conv (fun w => .bool w) (fun w => []) (show (false) = (listEq recEq a b) from by rw [hR, dropCons he1, dropCons he2, listEq]; simp [eqI, *]) ?_
        exact KF.m [] [.bool false]
      · skip
        refine AW.skip ?_
        refine AW.region (At.start ?_)
        refine At.a 2 ?_
        refine At.sI 16 ((k : Int) + 1) (by omega) ?_
        refine At.a 1 ?_
        refine At.done rfl ?_
        exact ⟨k + 1, ⟨by omega, by rw [hR, dropCons he1, dropCons he2, listEq]; simp [eqI, *]⟩, (by omega), Sub.o [] [true, true, false, false, false, true]⟩
    · skip
      refine AW.exit ?_
      refine AW.r ?_
      refine At.a 1 ?_
      refine At.done rfl ?_
      refine AW.ret ?_
      refine ⟨_, Sub.refl _ _, ?_⟩
      refine KF.conv (fun w => .bool w) (fun w => []) (show (true) = (listEq recEq a b) from by rw [hR, List.drop_of_length_le (by omega), List.drop_of_length_le (by omega)]; rfl) ?_
      exact KF.m [] [.bool true]
set_option maxRecDepth 100000 in
set_option maxHeartbeats 4000000 in
theorem laws_eqMsg_spec  (a : Msg) (b : Msg) (ha : a.entries.length ≤ 1048576) (hb : b.entries.length ≤ 1048576) : FnSpec Tryz.prog 45 [.agg [.int .i64 a.kind, .int .i64 a.from_, .int .i64 a.term, .int .i64 a.at_, .int .i64 a.atTerm, .int .i64 a.commit, .bool a.yes, .int .i64 a.release, .int .i64 a.part, .str a.bytes, .int .i64 a.cmd.kind, .int .i64 a.cmd.release, .int .i64 a.cmd.node, .int .i64 a.cmd.size, .str a.cmd.digest, .sl false 6 (a.entries.map encEnt)], .agg [.int .i64 b.kind, .int .i64 b.from_, .int .i64 b.term, .int .i64 b.at_, .int .i64 b.atTerm, .int .i64 b.commit, .bool b.yes, .int .i64 b.release, .int .i64 b.part, .str b.bytes, .int .i64 b.cmd.kind, .int .i64 b.cmd.release, .int .i64 b.cmd.node, .int .i64 b.cmd.size, .str b.cmd.digest, .sl false 6 (b.entries.map encEnt)]] [] (.bool (msgEq a b)) [] := by
  refine FnSpec.of 67 Tryz.func45 rfl Tryz.ntmps45 (by simp) (AW.weakK ?_)
  refine AW.r ?_
  refine At.a 3 ?_
  refine At.done rfl ?_
  refine AW.seq ?_
  refine AW.r ?_
  refine At.a 5 ?_
  refine At.done rfl ?_
  refine AW.cU a.kind b.kind (fun h1 => ?_) (fun h1 => ?_)
  · skip
    refine AW.r ?_
    refine At.a 1 ?_
    refine At.done rfl ?_
    refine AW.ret ?_
    refine ⟨_, Sub.refl _ _, ?_⟩
    refine KF.conv (fun w => .bool w) (fun w => []) (show (false) = (msgEq a b) from by simp [msgEq, h1]) ?_
    exact KF.m [] [.bool false]
  · skip
    refine AW.skip ?_
    refine AW.seq ?_
    refine AW.r ?_
    refine At.a 5 ?_
    refine At.done rfl ?_
    refine AW.cU a.from_ b.from_ (fun h2 => ?_) (fun h2 => ?_)
    · skip
      refine AW.r ?_
      refine At.a 1 ?_
      refine At.done rfl ?_
      refine AW.ret ?_
      refine ⟨_, Sub.refl _ _, ?_⟩
      refine KF.conv (fun w => .bool w) (fun w => []) (show (false) = (msgEq a b) from by simp [msgEq, h1, h2]) ?_
      exact KF.m [] [.bool false]
    · skip
      refine AW.skip ?_
      refine AW.seq ?_
      refine AW.r ?_
      refine At.a 5 ?_
      refine At.done rfl ?_
      refine AW.cU a.term b.term (fun h3 => ?_) (fun h3 => ?_)
      · skip
        refine AW.r ?_
        refine At.a 1 ?_
        refine At.done rfl ?_
        refine AW.ret ?_
        refine ⟨_, Sub.refl _ _, ?_⟩
        refine KF.conv (fun w => .bool w) (fun w => []) (show (false) = (msgEq a b) from by simp [msgEq, h1, h2, h3]) ?_
        exact KF.m [] [.bool false]
      · skip
        refine AW.skip ?_
        refine AW.seq ?_
        refine AW.r ?_
        refine At.a 5 ?_
        refine At.done rfl ?_
        refine AW.cU a.at_ b.at_ (fun h4 => ?_) (fun h4 => ?_)
        · skip
          refine AW.r ?_
          refine At.a 1 ?_
          refine At.done rfl ?_
          refine AW.ret ?_
          refine ⟨_, Sub.refl _ _, ?_⟩
          refine KF.conv (fun w => .bool w) (fun w => []) (show (false) = (msgEq a b) from by simp [msgEq, h1, h2, h3, h4]) ?_
          exact KF.m [] [.bool false]
        · skip
          refine AW.skip ?_
          refine AW.seq ?_
          refine AW.r ?_
          refine At.a 5 ?_
          refine At.done rfl ?_
          refine AW.cU a.atTerm b.atTerm (fun h5 => ?_) (fun h5 => ?_)
          · skip
            refine AW.r ?_
            refine At.a 1 ?_
            refine At.done rfl ?_
            refine AW.ret ?_
            refine ⟨_, Sub.refl _ _, ?_⟩
            refine KF.conv (fun w => .bool w) (fun w => []) (show (false) = (msgEq a b) from by simp [msgEq, h1, h2, h3, h4, h5]) ?_
            exact KF.m [] [.bool false]
          · skip
            refine AW.skip ?_
            refine AW.seq ?_
            refine AW.r ?_
            refine At.a 5 ?_
            refine At.done rfl ?_
            refine AW.cU a.commit b.commit (fun h6 => ?_) (fun h6 => ?_)
            · skip
              refine AW.r ?_
              refine At.a 1 ?_
              refine At.done rfl ?_
              refine AW.ret ?_
              refine ⟨_, Sub.refl _ _, ?_⟩
              refine KF.conv (fun w => .bool w) (fun w => []) (show (false) = (msgEq a b) from by simp [msgEq, h1, h2, h3, h4, h5, h6]) ?_
              exact KF.m [] [.bool false]
            · skip
              refine AW.skip ?_
              refine AW.seq ?_
              refine AW.r ?_
              refine At.a 4 ?_
              refine At.eqB (t := 4) (u := 4) (d := 39) (op := .neq) (x := .tmp 36) (y := .tmp 38) (a := a.yes) (b := b.yes) (by kernel_rfl) (by kernel_rfl) (by kernel_rfl) (by kernel_rfl) (by kernel_rfl) (.bool (!(a.yes == b.yes))) (.inr ⟨rfl, rfl⟩) ?_
              refine At.done rfl ?_
              refine AW.cNB (a.yes == b.yes) (fun h7 => ?_) (fun h7 => ?_)
              · skip
                refine AW.r ?_
                refine At.a 1 ?_
                refine At.done rfl ?_
                refine AW.ret ?_
                refine ⟨_, Sub.refl _ _, ?_⟩
                refine KF.conv (fun w => .bool w) (fun w => []) (show (false) = (msgEq a b) from by simp [msgEq, h1, h2, h3, h4, h5, h6, h7]) ?_
                exact KF.m [] [.bool false]
              · skip
                refine AW.skip ?_
                refine AW.seq ?_
                refine AW.r ?_
                refine At.a 5 ?_
                refine At.done rfl ?_
                refine AW.cU a.release b.release (fun h8 => ?_) (fun h8 => ?_)
                · skip
                  refine AW.r ?_
                  refine At.a 1 ?_
                  refine At.done rfl ?_
                  refine AW.ret ?_
                  refine ⟨_, Sub.refl _ _, ?_⟩
                  refine KF.conv (fun w => .bool w) (fun w => []) (show (false) = (msgEq a b) from by simp [msgEq, h1, h2, h3, h4, h5, h6, h7, h8]) ?_
                  exact KF.m [] [.bool false]
                · skip
                  refine AW.skip ?_
                  refine AW.seq ?_
                  refine AW.r ?_
                  refine At.a 5 ?_
                  refine At.done rfl ?_
                  refine AW.cU a.part b.part (fun h9 => ?_) (fun h9 => ?_)
                  · skip
                    refine AW.r ?_
                    refine At.a 1 ?_
                    refine At.done rfl ?_
                    refine AW.ret ?_
                    refine ⟨_, Sub.refl _ _, ?_⟩
                    refine KF.conv (fun w => .bool w) (fun w => []) (show (false) = (msgEq a b) from by simp [msgEq, h1, h2, h3, h4, h5, h6, h7, h8, h9]) ?_
                    exact KF.m [] [.bool false]
                  · skip
                    refine AW.skip ?_
                    refine AW.seq ?_
                    refine AW.r ?_
                    refine At.a 5 ?_
                    refine At.done rfl ?_
                    refine AW.cNE (a.bytes.toList) (b.bytes.toList) (fun h10 => ?_) (fun h10 => ?_)
                    · skip
                      refine AW.r ?_
                      refine At.a 1 ?_
                      refine At.done rfl ?_
                      refine AW.ret ?_
                      refine ⟨_, Sub.refl _ _, ?_⟩
                      refine KF.conv (fun w => .bool w) (fun w => []) (show (false) = (msgEq a b) from by simp [msgEq, h1, h2, h3, h4, h5, h6, h7, h8, h9, h10]) ?_
                      exact KF.m [] [.bool false]
                    · skip
                      refine AW.skip ?_
                      refine AW.seq ?_
                      refine AW.r ?_
                      refine At.a 4 ?_
                      refine At.c (laws_eqCmd_spec  a.cmd b.cmd ) Tryz.call128 true [] [] [] trivial ?_
                      refine At.a 1 ?_
                      refine At.done rfl ?_
                      refine AW.cNB (cmdEq a.cmd b.cmd) (fun h11 => ?_) (fun h11 => ?_)
                      · skip
                        refine AW.r ?_
                        refine At.a 1 ?_
                        refine At.done rfl ?_
                        refine AW.ret ?_
                        refine ⟨_, Sub.refl _ _, ?_⟩
                        refine KF.conv (fun w => .bool w) (fun w => []) (show (false) = (msgEq a b) from by simp [msgEq, h1, h2, h3, h4, h5, h6, h7, h8, h9, h10, h11]) ?_
                        exact KF.m [] [.bool false]
                      · skip
                        refine AW.skip ?_
                        refine AW.seq ?_
                        refine AW.r ?_
                        refine At.a 4 ?_
                        refine At.c (laws_eqEntryS_spec  a.entries b.entries (by omega) (by omega)) Tryz.call129 true [] [] [] trivial ?_
                        refine At.a 1 ?_
                        refine At.done rfl ?_
                        refine AW.cNB (listEq entEq a.entries b.entries) (fun h12 => ?_) (fun h12 => ?_)
                        · skip
                          refine AW.r ?_
                          refine At.a 1 ?_
                          refine At.done rfl ?_
                          refine AW.ret ?_
                          refine ⟨_, Sub.refl _ _, ?_⟩
                          refine KF.conv (fun w => .bool w) (fun w => []) (show (false) = (msgEq a b) from by simp [msgEq, h1, h2, h3, h4, h5, h6, h7, h8, h9, h10, h11, h12]) ?_
                          exact KF.m [] [.bool false]
                        · skip
                          refine AW.skip ?_
                          refine AW.r ?_
                          refine At.a 1 ?_
                          refine At.done rfl ?_
                          refine AW.ret ?_
                          refine ⟨_, Sub.refl _ _, ?_⟩
                          refine KF.conv (fun w => .bool w) (fun w => []) (show (true) = (msgEq a b) from by simp [msgEq, h1, h2, h3, h4, h5, h6, h7, h8, h9, h10, h11, h12]) ?_
                          exact KF.m [] [.bool true]
set_option maxRecDepth 100000 in
set_option maxHeartbeats 4000000 in
theorem laws_eqOut_spec  (a : Out) (b : Out) (ha : a.msg.entries.length ≤ 1048576) (hb : b.msg.entries.length ≤ 1048576) : FnSpec Tryz.prog 127 [.agg [.int .i64 a.to, .int .i64 a.msg.kind, .int .i64 a.msg.from_, .int .i64 a.msg.term, .int .i64 a.msg.at_, .int .i64 a.msg.atTerm, .int .i64 a.msg.commit, .bool a.msg.yes, .int .i64 a.msg.release, .int .i64 a.msg.part, .str a.msg.bytes, .int .i64 a.msg.cmd.kind, .int .i64 a.msg.cmd.release, .int .i64 a.msg.cmd.node, .int .i64 a.msg.cmd.size, .str a.msg.cmd.digest, .sl false 6 (a.msg.entries.map encEnt)], .agg [.int .i64 b.to, .int .i64 b.msg.kind, .int .i64 b.msg.from_, .int .i64 b.msg.term, .int .i64 b.msg.at_, .int .i64 b.msg.atTerm, .int .i64 b.msg.commit, .bool b.msg.yes, .int .i64 b.msg.release, .int .i64 b.msg.part, .str b.msg.bytes, .int .i64 b.msg.cmd.kind, .int .i64 b.msg.cmd.release, .int .i64 b.msg.cmd.node, .int .i64 b.msg.cmd.size, .str b.msg.cmd.digest, .sl false 6 (b.msg.entries.map encEnt)]] [] (.bool (outEq a b)) [] := by
  refine FnSpec.of 16 Tryz.func127 rfl Tryz.ntmps127 (by simp) (AW.weakK ?_)
  refine AW.r ?_
  refine At.a 3 ?_
  refine At.done rfl ?_
  refine AW.seq ?_
  refine AW.r ?_
  refine At.a 5 ?_
  refine At.done rfl ?_
  refine AW.cU a.to b.to (fun h1 => ?_) (fun h1 => ?_)
  · skip
    refine AW.r ?_
    refine At.a 1 ?_
    refine At.done rfl ?_
    refine AW.ret ?_
    refine ⟨_, Sub.refl _ _, ?_⟩
    refine KF.conv (fun w => .bool w) (fun w => []) (show (false) = (outEq a b) from by simp [outEq, h1]) ?_
    exact KF.m [] [.bool false]
  · skip
    refine AW.skip ?_
    refine AW.seq ?_
    refine AW.r ?_
    refine At.a 4 ?_
    refine At.c (laws_eqMsg_spec  a.msg b.msg (by omega) (by omega)) Tryz.call45 true [] [] [] trivial ?_
    refine At.a 1 ?_
    refine At.done rfl ?_
    refine AW.cNB (msgEq a.msg b.msg) (fun h2 => ?_) (fun h2 => ?_)
    · skip
      refine AW.r ?_
      refine At.a 1 ?_
      refine At.done rfl ?_
      refine AW.ret ?_
      refine ⟨_, Sub.refl _ _, ?_⟩
      refine KF.conv (fun w => .bool w) (fun w => []) (show (false) = (outEq a b) from by simp [outEq, h1, h2]) ?_
      exact KF.m [] [.bool false]
    · skip
      refine AW.skip ?_
      refine AW.r ?_
      refine At.a 1 ?_
      refine At.done rfl ?_
      refine AW.ret ?_
      refine ⟨_, Sub.refl _ _, ?_⟩
      refine KF.conv (fun w => .bool w) (fun w => []) (show (true) = (outEq a b) from by simp [outEq, h1, h2]) ?_
      exact KF.m [] [.bool true]
set_option maxRecDepth 100000 in
set_option maxHeartbeats 4000000 in
theorem laws_eqOutS_spec  (a : List Out) (b : List Out) (ha : a.length ≤ 1048576) (hb : b.length ≤ 1048576) (hea : ∀ o ∈ a, o.msg.entries.length ≤ 1048576) (heb : ∀ o ∈ b, o.msg.entries.length ≤ 1048576) : FnSpec Tryz.prog 44 [.sl false 17 (a.map encOutV), .sl false 17 (b.map encOutV)] [] (.bool (listEq outEq a b)) [] := by
  refine FnSpec.of 27 Tryz.func44 rfl Tryz.ntmps44 (by simp) (AW.weakK ?_)
  refine AW.r ?_
  refine At.a 1 ?_
  refine At.done rfl ?_
  refine AW.seq ?_
  refine AW.r ?_
  refine At.a 2 ?_
  refine At.sL 7 encOutV a ?_
  refine At.a 2 ?_
  refine At.sL 9 encOutV b ?_
  refine At.a 1 ?_
  refine At.done rfl ?_
  refine AW.cU (a.length : Int) (b.length : Int) (fun h1 => ?_) (fun h1 => ?_)
  · skip
    refine AW.r ?_
    refine At.a 1 ?_
    refine At.done rfl ?_
    refine AW.ret ?_
    refine ⟨_, Sub.refl _ _, ?_⟩
    refine KF.conv (fun w => .bool w) (fun w => []) (show (false) = (listEq outEq a b) from by rw [listEq_len (by omega)]) ?_
    exact KF.m [] [.bool false]
  · skip
    refine AW.skip ?_
    refine AW.seq ?_
    refine AW.r ?_
    refine At.a 1 ?_
    refine At.done rfl ?_
    refine AW.block ?_
    refine AW.loopW (fun (k : Nat) => Go.Sy.mk [.sl false 17 (a.map encOutV), .sl false 17 (b.map encOutV), .un, .un, .un, .int .i64 (k : Int)] []) (fun (k : Nat) => k ≤ a.length ∧ listEq outEq a b = listEq outEq (a.drop k) (b.drop k)) (fun (k : Nat) => a.length - k) 0 ⟨by omega, by rw [List.drop_zero, List.drop_zero]⟩ (Sub.o [] [true, true, false, false, false, true]) ?_
    rintro k ⟨hk, hR⟩
    refine AW.seq ?_
    refine AW.r ?_
    refine At.a 3 ?_
    refine At.sL 13 encOutV a ?_
    refine At.a 1 ?_
    refine At.done rfl ?_
    refine AW.cD ((k : Int) < (a.length : Int)) (fun h2 => ?_) (fun h2 => ?_)
    · skip
      refine AW.skip ?_
      refine AW.seq ?_
      refine AW.block ?_
      refine AW.seq ?_
      refine AW.regionD Tryz_mix (At.start ?_)
      refine At.a 2 ?_
      refine At.iSl 38 19 (.tmp 17) (.tmp 18) false 17 (a.map encOutV) .i64 (k : Int) 51 (by omega) (by simp only [List.length_map, List.length_append, List.length_take, List.length_drop, List.length_replicate, List.length_set, List.length_cons, List.length_nil]; omega) ?_
      refine Exists.elim (show ∃ e, a[k]? = some e from ⟨_, List.getElem?_eq_getElem (by omega)⟩) fun e1 he1 => ?_
      refine At.lVp 51 20 (.tmp 19) false 17 (a.map encOutV) k 0 true 17 (encOutV e1) (.agg [.int .i64 e1.to, .int .i64 e1.msg.kind, .int .i64 e1.msg.from_, .int .i64 e1.msg.term, .int .i64 e1.msg.at_, .int .i64 e1.msg.atTerm, .int .i64 e1.msg.commit, .bool e1.msg.yes, .int .i64 e1.msg.release, .int .i64 e1.msg.part, .str e1.msg.bytes, .int .i64 e1.msg.cmd.kind, .int .i64 e1.msg.cmd.release, .int .i64 e1.msg.cmd.node, .int .i64 e1.msg.cmd.size, .str e1.msg.cmd.digest, .sl false 6 (e1.msg.entries.map encEnt)]) (mapGet he1) ?_
      refine At.a 2 ?_
      refine At.iSl 38 23 (.tmp 21) (.tmp 22) false 17 (b.map encOutV) .i64 (k : Int) 51 (by omega) (by simp only [List.length_map, List.length_append, List.length_take, List.length_drop, List.length_replicate, List.length_set, List.length_cons, List.length_nil]; omega) ?_
      refine Exists.elim (show ∃ e, b[k]? = some e from ⟨_, List.getElem?_eq_getElem (by omega)⟩) fun e2 he2 => ?_
      refine At.lVp 51 24 (.tmp 23) false 17 (b.map encOutV) k 0 true 17 (encOutV e2) (.agg [.int .i64 e2.to, .int .i64 e2.msg.kind, .int .i64 e2.msg.from_, .int .i64 e2.msg.term, .int .i64 e2.msg.at_, .int .i64 e2.msg.atTerm, .int .i64 e2.msg.commit, .bool e2.msg.yes, .int .i64 e2.msg.release, .int .i64 e2.msg.part, .str e2.msg.bytes, .int .i64 e2.msg.cmd.kind, .int .i64 e2.msg.cmd.release, .int .i64 e2.msg.cmd.node, .int .i64 e2.msg.cmd.size, .str e2.msg.cmd.digest, .sl false 6 (e2.msg.entries.map encEnt)]) (mapGet he2) ?_
      refine At.c (laws_eqOut_spec  e1 e2 (hea _ (List.mem_of_getElem? he1)) (heb _ (List.mem_of_getElem? he2))) Tryz.call127 true [] [] [] trivial ?_
      refine At.a 1 ?_
      refine At.done rfl ⟨by kernel_rfl, ?_⟩
      refine AW.cNB (outEq e1 e2) (fun h3 => ?_) (fun h3 => ?_)
      · skip
        refine AW.r ?_
        refine At.a 1 ?_
        refine At.done rfl ?_
        refine AW.ret ?_
        refine ⟨_, Sub.refl _ _, ?_⟩
        refine KF.conv (fun w => .bool w) (fun w => []) (show (false) = (listEq outEq a b) from by rw [hR, dropCons he1, dropCons he2, listEq]; simp [*]) ?_
        exact KF.m [] [.bool false]
      · skip
        refine AW.skip ?_
        refine AW.region (At.start ?_)
        refine At.a 2 ?_
        refine At.sI 16 ((k : Int) + 1) (by omega) ?_
        refine At.a 1 ?_
        refine At.done rfl ?_
        exact ⟨k + 1, ⟨by omega, by rw [hR, dropCons he1, dropCons he2, listEq]; simp [*]⟩, (by omega), Sub.o [] [true, true, false, false, false, true]⟩
    · skip
      refine AW.exit ?_
      refine AW.r ?_
      refine At.a 1 ?_
      refine At.done rfl ?_
      refine AW.ret ?_
      refine ⟨_, Sub.refl _ _, ?_⟩
      refine KF.conv (fun w => .bool w) (fun w => []) (show (true) = (listEq outEq a b) from by rw [hR, List.drop_of_length_le (by omega), List.drop_of_length_le (by omega)]; rfl) ?_
      exact KF.m [] [.bool true]
set_option maxRecDepth 100000 in
set_option maxHeartbeats 4000000 in
theorem laws_markText_spec  (k : Int) (hk : k ≤ 4611686018427387904) : FnSpec Tryz.prog 133 [.int .i64 k] [] (.str (markT k)) [] := by
  refine FnSpec.of 20 Tryz.func133 rfl Tryz.ntmps133 (by simp) (AW.weakK ?_)
  refine AW.r ?_
  refine At.a 1 ?_
  refine At.done rfl ?_
  refine AW.seq ?_
  refine AW.r ?_
  refine At.a 2 ?_
  refine At.done rfl ?_
  refine AW.cD (k ≤ 0) (fun h1 => ?_) (fun h1 => ?_)
  · skip
    refine AW.r ?_
    refine At.a 1 ?_
    refine At.done rfl ?_
    refine AW.ret ?_
    refine ⟨_, Sub.refl _ _, ?_⟩
    refine KF.conv (fun w => .str w) (fun w => []) (show ((⟨#[109, 48]⟩ : ByteArray)) = (markT k) from by rw [markT, if_pos (by omega)]) ?_
    exact KF.m [] [.str (⟨#[109, 48]⟩ : ByteArray)]
  · skip
    refine AW.skip ?_
    refine AW.r ?_
    refine At.a 1 ?_
    refine At.done rfl ?_
    refine AW.seq ?_
    refine AW.block ?_
    refine AW.loopW (fun (x : Int × ByteArray) => match x with | (n, acc) => Go.Sy.mk [.int .i64 n, .un, .un, .str acc] []) (fun (x : Int × ByteArray) => match x with | (n, acc) => 0 ≤ n ∧ (acc.size : Int) + n ≤ k ∧ markGo k.toNat ⟨#[]⟩ = markGo n.toNat acc) (fun (x : Int × ByteArray) => match x with | (n, acc) => n.toNat) (k, ⟨#[]⟩) ⟨by omega, by show ((0 : Nat) : Int) + k ≤ k; omega, rfl⟩ (Sub.o [] [true, false, false, true]) ?_
    rintro ⟨n, acc⟩ ⟨hn, hs, hR⟩
    refine AW.seq ?_
    refine AW.r ?_
    refine At.a 2 ?_
    refine At.done rfl ?_
    refine AW.cD (n > 0) (fun h2 => ?_) (fun h2 => ?_)
    · skip
      refine AW.skip ?_
      refine AW.block ?_
      refine AW.r ?_
      refine At.a 1 ?_
      refine At.div (t := 3) (u := 3) (d := 9) (op := .rem) (x := .tmp 8) (y := .const (.int .i64 10)) (kd := .i64) (a := n) (b := 10) (by kernel_rfl) (by kernel_rfl) (by kernel_rfl) (by kernel_rfl) (by omega) (.int .i64 (n.tmod 10)) (.inr ⟨rfl, rfl⟩) ?_
      refine At.say 9 (.int .i64 (n.tmod 10)) (.int .i64 (n % 10)) (by kernel_rfl) (sayRem (by omega)) ?_
      refine At.a 1 ?_
      refine At.sI 10 (48 + (n % 10)) (by omega) ?_
      refine At.conv (s := 3) (t := 5) (d := 11) (x := .tmp 10) (kd := .i64) (kd' := .u8) (a := 48 + (n % 10)) (.int .u8 ((u8Of (48 + (n % 10))).toNat : Int)) (by kernel_rfl) (by kernel_rfl) (by kernel_rfl) (by kernel_rfl) (sayByte _) ?_
      refine At.litK (t := 22) (d := 12) (e := 5) (es := 1) (bytes := 1) (n := 1) (parts := #[(0, .tmp 11)]) (45, 6) 112 [] [.int .u8 ((u8Of (48 + (n % 10))).toNat : Int)] [.int .u8 ((u8Of (48 + (n % 10))).toNat : Int)] [.int .u8 0] [.int .u8 ((u8Of (48 + (n % 10))).toNat : Int)] [] (by kernel_rfl) (by kernel_rfl) (by kernel_rfl) (by kernel_rfl) rfl (fun p hp => by cases hp) (by kernel_rfl) ?_
      refine At.b2s (s := 22) (t := 9) (e := 5) (d := 13) (x := .tmp 12) (T := .ref 112) ([(u8Of (48 + (n % 10)))]) [] (by kernel_rfl) (by kernel_rfl) (by kernel_rfl) (by kernel_rfl) ⟨by kernel_rfl, .inl ⟨rfl, (allP_encU8 _)⟩⟩ ?_
      refine At.a 1 ?_
      refine At.cat (t := 9) (u := 9) (d := 15) (x := .tmp 13) (y := .tmp 14) (a := strOf ([(u8Of (48 + (n % 10)))])) (b := acc) (by kernel_rfl) (by kernel_rfl) (by kernel_rfl) (by kernel_rfl) (by simp only [strOf_size, cat_size, List.length_cons, List.length_nil]; omega) ?_
      refine At.a 1 ?_
      refine At.done rfl ?_
      refine AW.region (At.start ?_)
      refine At.a 1 ?_
      refine At.div (t := 3) (u := 3) (d := 17) (op := .quo) (x := .tmp 16) (y := .const (.int .i64 10)) (kd := .i64) (a := n) (b := 10) (by kernel_rfl) (by kernel_rfl) (by kernel_rfl) (by kernel_rfl) (by omega) (.int .i64 (IntKind.i64.wrap (n.tdiv 10))) (.inl ⟨rfl, rfl⟩) ?_
      refine At.say 17 (.int .i64 (IntKind.i64.wrap (n.tdiv 10))) (.int .i64 (n / 10)) (by kernel_rfl) (sayQuo (by omega) (by omega) (by omega)) ?_
      refine At.a 1 ?_
      refine At.done rfl ?_
      exact ⟨((n / 10), ((strOf ([(u8Of (48 + (n % 10)))])) ++ acc)), ⟨by omega, by rw [cat_size, strOf_size]; simp only [List.length_cons, List.length_nil]; omega, by rw [hR, markGo_step (by assumption)]⟩, (by simp only; omega), Sub.o [] [true, false, false, true]⟩
    · skip
      refine AW.exit ?_
      refine AW.r ?_
      refine At.a 1 ?_
      refine At.cat (t := 9) (u := 9) (d := 19) (x := .const (.string ⟨#[109]⟩)) (y := .tmp 18) (a := (⟨#[109]⟩ : ByteArray)) (b := acc) (by kernel_rfl) (by kernel_rfl) (by kernel_rfl) (by kernel_rfl) (by have q : (⟨#[109]⟩ : ByteArray).size = 1 := rfl; rw [q]; omega) ?_
      refine At.a 1 ?_
      refine At.done rfl ?_
      refine AW.ret ?_
      refine ⟨_, Sub.refl _ _, ?_⟩
      refine KF.conv (fun w => .str w) (fun w => []) (show ((⟨#[109]⟩ : ByteArray) ++ acc) = (markT k) from by rw [markT, if_neg (by omega), hR, markGo_zero (by assumption)]) ?_
      exact KF.m [] [.str ((⟨#[109]⟩ : ByteArray) ++ acc)]
set_option maxRecDepth 100000 in
set_option maxHeartbeats 4000000 in
theorem laws_markEntryS_spec  (a : List Ent) (k : Int) (hk : 0 ≤ k) (ha : a.length ≤ 1048576) (he : ends nxE a k ≤ 4611686018427387904) : FnSpec Tryz.prog 132 [.ref 0, .int .i64 k] [.arr 45 6 (a.map encEnt)] (.int .i64 (ends nxE a k)) [.arr 45 6 ((marks markE nxE a k).map encEnt)] := by
  refine FnSpec.of 61 Tryz.func132 rfl Tryz.ntmps132 (by simp) (AW.weakK ?_)
  refine AW.r ?_
  refine At.a 1 ?_
  refine At.done rfl ?_
  refine AW.seq ?_
  refine AW.r ?_
  refine At.a 1 ?_
  refine At.done rfl ?_
  refine AW.block ?_
  refine AW.loopW (fun (x : Nat × Int × List Ent) => match x with | (i, kk, o) => Go.Sy.mk [.ref 0, .int .i64 kk, .un, .un, .un, .int .i64 (i : Int)] [(0, .arr 45 6 (o.map encEnt))]) (fun (x : Nat × Int × List Ent) => match x with | (i, kk, o) => 0 ≤ kk ∧ MInv markE nxE a k i kk o) (fun (x : Nat × Int × List Ent) => match x with | (i, kk, o) => a.length - i) (0, k, a) ⟨hk, MInv.start⟩ (Sub.o [(0, 0)] [true, true, false, false, false, true]) ?_
  rintro ⟨i, kk, o⟩ ⟨hkk, hR⟩
  have hle := hR.ge nxE_ge
  have hlo := hR.2.1
  refine AW.seq ?_
  refine AW.r ?_
  refine At.a 3 ?_
  refine At.sL 8 encEnt o ?_
  refine At.a 1 ?_
  refine At.done rfl ?_
  refine AW.cD ((i : Int) < (o.length : Int)) (fun h1 => ?_) (fun h1 => ?_)
  · skip
    refine AW.skip ?_
    refine AW.seq ?_
    refine AW.block ?_
    refine AW.r ?_
    refine At.a 3 ?_
    refine At.iRf 24 15 (.tmp 12) (.tmp 13) 0 (o.map encEnt) .i64 (i : Int) 45 6 (by omega) (by simp only [List.length_map, List.length_append, List.length_take, List.length_drop, List.length_replicate, List.length_set, List.length_cons, List.length_nil]; omega) ?_
    refine At.a 1 ?_
    refine Exists.elim (show ∃ e, o[i]? = some e from ⟨_, List.getElem?_eq_getElem (by omega)⟩) fun e1 he1 => ?_
    have hlt := hR.le nxE_ge he1
    rw [nxE] at hlt
    refine At.sEl 3 0 45 6 i 0 (.tmp 16) (.tmp 14) (o.map encEnt) ((o.set i (⟨kk, e1.cmd⟩ : Ent)).map encEnt) [.int .i64 kk] (.int .i64 kk) (encEnt e1) (encEnt (⟨kk, e1.cmd⟩ : Ent)) (mapGet he1) setV ?_
    refine At.done rfl ?_
    refine AW.r ?_
    refine At.a 2 ?_
    refine At.sI 18 (kk + 1) (by omega) ?_
    refine At.a 1 ?_
    refine At.done rfl ?_
    refine AW.r ?_
    refine At.a 3 ?_
    refine At.iRf 24 22 (.tmp 19) (.tmp 20) 0 ((o.set i (⟨kk, e1.cmd⟩ : Ent)).map encEnt) .i64 (i : Int) 45 6 (by omega) (by simp only [List.length_map, List.length_append, List.length_take, List.length_drop, List.length_replicate, List.length_set, List.length_cons, List.length_nil]; omega) ?_
    refine At.a 2 ?_
    refine At.sEl 3 0 45 6 i 1 (.tmp 24) (.tmp 21) ((o.set i (⟨kk, e1.cmd⟩ : Ent)).map encEnt) ((o.set i (⟨kk, ⟨kk + 1, e1.cmd.release, e1.cmd.node, e1.cmd.size, e1.cmd.digest⟩⟩ : Ent)).map encEnt) [.int .i64 (kk + 1)] (.int .i64 (kk + 1)) (encEnt (⟨kk, e1.cmd⟩ : Ent)) (encEnt (⟨kk, ⟨kk + 1, e1.cmd.release, e1.cmd.node, e1.cmd.size, e1.cmd.digest⟩⟩ : Ent)) (mapGet (setGet he1)) setSetV ?_
    refine At.done rfl ?_
    refine AW.r ?_
    refine At.a 2 ?_
    refine At.sJ 26 ((kk + 1) + 1) (kk + 2) (by omega) (by omega) ?_
    refine At.a 1 ?_
    refine At.done rfl ?_
    refine AW.r ?_
    refine At.a 3 ?_
    refine At.iRf 24 30 (.tmp 27) (.tmp 28) 0 ((o.set i (⟨kk, ⟨kk + 1, e1.cmd.release, e1.cmd.node, e1.cmd.size, e1.cmd.digest⟩⟩ : Ent)).map encEnt) .i64 (i : Int) 45 6 (by omega) (by simp only [List.length_map, List.length_append, List.length_take, List.length_drop, List.length_replicate, List.length_set, List.length_cons, List.length_nil]; omega) ?_
    refine At.a 2 ?_
    refine At.sEl 3 0 45 6 i 2 (.tmp 32) (.tmp 29) ((o.set i (⟨kk, ⟨kk + 1, e1.cmd.release, e1.cmd.node, e1.cmd.size, e1.cmd.digest⟩⟩ : Ent)).map encEnt) ((o.set i (⟨kk, ⟨kk + 1, kk + 2, e1.cmd.node, e1.cmd.size, e1.cmd.digest⟩⟩ : Ent)).map encEnt) [.int .i64 (kk + 2)] (.int .i64 (kk + 2)) (encEnt (⟨kk, ⟨kk + 1, e1.cmd.release, e1.cmd.node, e1.cmd.size, e1.cmd.digest⟩⟩ : Ent)) (encEnt (⟨kk, ⟨kk + 1, kk + 2, e1.cmd.node, e1.cmd.size, e1.cmd.digest⟩⟩ : Ent)) (mapGet (setGet he1)) setSetV ?_
    refine At.done rfl ?_
    refine AW.r ?_
    refine At.a 2 ?_
    refine At.sJ 34 ((kk + 2) + 1) (kk + 3) (by omega) (by omega) ?_
    refine At.a 1 ?_
    refine At.done rfl ?_
    refine AW.r ?_
    refine At.a 3 ?_
    refine At.iRf 24 38 (.tmp 35) (.tmp 36) 0 ((o.set i (⟨kk, ⟨kk + 1, kk + 2, e1.cmd.node, e1.cmd.size, e1.cmd.digest⟩⟩ : Ent)).map encEnt) .i64 (i : Int) 45 6 (by omega) (by simp only [List.length_map, List.length_append, List.length_take, List.length_drop, List.length_replicate, List.length_set, List.length_cons, List.length_nil]; omega) ?_
    refine At.a 2 ?_
    refine At.sEl 3 0 45 6 i 3 (.tmp 40) (.tmp 37) ((o.set i (⟨kk, ⟨kk + 1, kk + 2, e1.cmd.node, e1.cmd.size, e1.cmd.digest⟩⟩ : Ent)).map encEnt) ((o.set i (⟨kk, ⟨kk + 1, kk + 2, kk + 3, e1.cmd.size, e1.cmd.digest⟩⟩ : Ent)).map encEnt) [.int .i64 (kk + 3)] (.int .i64 (kk + 3)) (encEnt (⟨kk, ⟨kk + 1, kk + 2, e1.cmd.node, e1.cmd.size, e1.cmd.digest⟩⟩ : Ent)) (encEnt (⟨kk, ⟨kk + 1, kk + 2, kk + 3, e1.cmd.size, e1.cmd.digest⟩⟩ : Ent)) (mapGet (setGet he1)) setSetV ?_
    refine At.done rfl ?_
    refine AW.r ?_
    refine At.a 2 ?_
    refine At.sJ 42 ((kk + 3) + 1) (kk + 4) (by omega) (by omega) ?_
    refine At.a 1 ?_
    refine At.done rfl ?_
    refine AW.r ?_
    refine At.a 3 ?_
    refine At.iRf 24 46 (.tmp 43) (.tmp 44) 0 ((o.set i (⟨kk, ⟨kk + 1, kk + 2, kk + 3, e1.cmd.size, e1.cmd.digest⟩⟩ : Ent)).map encEnt) .i64 (i : Int) 45 6 (by omega) (by simp only [List.length_map, List.length_append, List.length_take, List.length_drop, List.length_replicate, List.length_set, List.length_cons, List.length_nil]; omega) ?_
    refine At.a 2 ?_
    refine At.sEl 3 0 45 6 i 4 (.tmp 48) (.tmp 45) ((o.set i (⟨kk, ⟨kk + 1, kk + 2, kk + 3, e1.cmd.size, e1.cmd.digest⟩⟩ : Ent)).map encEnt) ((o.set i (⟨kk, ⟨kk + 1, kk + 2, kk + 3, kk + 4, e1.cmd.digest⟩⟩ : Ent)).map encEnt) [.int .i64 (kk + 4)] (.int .i64 (kk + 4)) (encEnt (⟨kk, ⟨kk + 1, kk + 2, kk + 3, e1.cmd.size, e1.cmd.digest⟩⟩ : Ent)) (encEnt (⟨kk, ⟨kk + 1, kk + 2, kk + 3, kk + 4, e1.cmd.digest⟩⟩ : Ent)) (mapGet (setGet he1)) setSetV ?_
    refine At.done rfl ?_
    refine AW.r ?_
    refine At.a 2 ?_
    refine At.sJ 50 ((kk + 4) + 1) (kk + 5) (by omega) (by omega) ?_
    refine At.a 1 ?_
    refine At.done rfl ?_
    refine AW.r ?_
    refine At.a 3 ?_
    refine At.c (laws_markText_spec  (kk + 5) (by omega)) Tryz.call133 true [] [] [] trivial ?_
    refine At.iRf 24 55 (.tmp 51) (.tmp 52) 0 ((o.set i (⟨kk, ⟨kk + 1, kk + 2, kk + 3, kk + 4, e1.cmd.digest⟩⟩ : Ent)).map encEnt) .i64 (i : Int) 45 6 (by omega) (by simp only [List.length_map, List.length_append, List.length_take, List.length_drop, List.length_replicate, List.length_set, List.length_cons, List.length_nil]; omega) ?_
    refine At.a 2 ?_
    refine At.sEl 9 0 45 6 i 5 (.tmp 57) (.tmp 54) ((o.set i (⟨kk, ⟨kk + 1, kk + 2, kk + 3, kk + 4, e1.cmd.digest⟩⟩ : Ent)).map encEnt) ((o.set i (⟨kk, ⟨kk + 1, kk + 2, kk + 3, kk + 4, markT (kk + 5)⟩⟩ : Ent)).map encEnt) [.str (markT (kk + 5))] (.str (markT (kk + 5))) (encEnt (⟨kk, ⟨kk + 1, kk + 2, kk + 3, kk + 4, e1.cmd.digest⟩⟩ : Ent)) (encEnt (⟨kk, ⟨kk + 1, kk + 2, kk + 3, kk + 4, markT (kk + 5)⟩⟩ : Ent)) (mapGet (setGet he1)) setSetV ?_
    refine At.done rfl ?_
    refine AW.region (At.start ?_)
    refine At.a 2 ?_
    refine At.sJ 59 ((kk + 5) + 1) (kk + 6) (by omega) (by omega) ?_
    refine At.a 1 ?_
    refine At.done rfl ?_
    refine AW.region (At.start ?_)
    refine At.a 2 ?_
    refine At.sI 11 ((i : Int) + 1) (by omega) ?_
    refine At.a 1 ?_
    refine At.done rfl ?_
    exact ⟨(i + 1, (kk + 6), (o.set i (⟨kk, ⟨kk + 1, kk + 2, kk + 3, kk + 4, markT (kk + 5)⟩⟩ : Ent))), ⟨by omega, hR.step he1 rfl rfl⟩, (by simp only; omega), Sub.o [(0, 0)] [true, true, false, false, false, true]⟩
  · skip
    refine AW.exit ?_
    refine AW.r ?_
    refine At.a 2 ?_
    refine At.done rfl ?_
    refine AW.ret ?_
    refine ⟨_, Sub.refl _ _, ?_⟩
    refine KF.conv (fun w => .int .i64 w) (fun w => [.arr 45 6 ((marks markE nxE a k).map encEnt)]) (show (kk) = (ends nxE a k) from (hR.done (by omega)).2) ?_
    refine KF.conv (fun w => .int .i64 kk) (fun w => [.arr 45 6 (w.map encEnt)]) (show (o) = (marks markE nxE a k) from (hR.done (by omega)).1) ?_
    exact KF.m [(0, 0)] [.int .i64 kk]
set_option maxRecDepth 100000 in
set_option maxHeartbeats 4000000 in
theorem laws_markHard_spec  (a : Hard) (k : Int) (hk : 0 ≤ k) (ha : a.log.length ≤ 1048576) (he : ends nxE a.log k ≤ 4611686018427387904) : FnSpec Tryz.prog 130 [.agg [.int .i64 a.term, .int .i64 a.vote, .ref 0], .int .i64 k] [.arr 45 6 (a.log.map encEnt)] (.int .i64 (ends nxE a.log k)) [.arr 45 6 ((marks markE nxE a.log k).map encEnt)] := by
  refine FnSpec.of 10 Tryz.func130 rfl Tryz.ntmps130 (by simp) (AW.weakK ?_)
  refine AW.r ?_
  refine At.a 2 ?_
  refine At.done rfl ?_
  refine AW.r ?_
  refine At.a 3 ?_
  refine At.c (laws_markEntryS_spec  a.log k (by omega) (by omega) (by omega)) Tryz.call132 true [(0, 0)] [] [] trivial ?_
  refine At.a 1 ?_
  refine At.done rfl ?_
  refine AW.r ?_
  refine At.a 2 ?_
  refine At.done rfl ?_
  refine AW.ret ?_
  refine ⟨_, Sub.refl _ _, ?_⟩
  exact KF.m [(0, 0)] [.int .i64 (ends nxE a.log k)]
set_option maxRecDepth 100000 in
set_option maxHeartbeats 4000000 in
theorem laws_markIntS_spec  (a : List Int) (k : Int) (hk : 0 ≤ k) (ha : a.length ≤ 1048576) (he : ends nxI a k ≤ 4611686018427387904) : FnSpec Tryz.prog 131 [.ref 0, .int .i64 k] [.arr 3 1 (a.map encI)] (.int .i64 (ends nxI a k)) [.arr 3 1 ((marks markI nxI a k).map encI)] := by
  refine FnSpec.of 19 Tryz.func131 rfl Tryz.ntmps131 (by simp) (AW.weakK ?_)
  refine AW.r ?_
  refine At.a 1 ?_
  refine At.done rfl ?_
  refine AW.seq ?_
  refine AW.r ?_
  refine At.a 1 ?_
  refine At.done rfl ?_
  refine AW.block ?_
  refine AW.loopW (fun (x : Nat × Int × List Int) => match x with | (i, kk, o) => Go.Sy.mk [.ref 0, .int .i64 kk, .un, .un, .un, .int .i64 (i : Int)] [(0, .arr 3 1 (o.map encI))]) (fun (x : Nat × Int × List Int) => match x with | (i, kk, o) => 0 ≤ kk ∧ MInv markI nxI a k i kk o) (fun (x : Nat × Int × List Int) => match x with | (i, kk, o) => a.length - i) (0, k, a) ⟨hk, MInv.start⟩ (Sub.o [(0, 0)] [true, true, false, false, false, true]) ?_
  rintro ⟨i, kk, o⟩ ⟨hkk, hR⟩
  have hle := hR.ge nxI_ge
  have hlo := hR.2.1
  refine AW.seq ?_
  refine AW.r ?_
  refine At.a 3 ?_
  refine At.sL 8 encI o ?_
  refine At.a 1 ?_
  refine At.done rfl ?_
  refine AW.cD ((i : Int) < (o.length : Int)) (fun h1 => ?_) (fun h1 => ?_)
  · skip
    refine AW.skip ?_
    refine AW.seq ?_
    refine AW.block ?_
    refine AW.r ?_
    refine At.a 3 ?_
    refine At.iRf 27 15 (.tmp 12) (.tmp 13) 0 (o.map encI) .i64 (i : Int) 3 1 (by omega) (by simp only [List.length_map, List.length_append, List.length_take, List.length_drop, List.length_replicate, List.length_set, List.length_cons, List.length_nil]; omega) ?_
    refine Exists.elim (show ∃ e, o[i]? = some e from ⟨_, List.getElem?_eq_getElem (by omega)⟩) fun e1 he1 => ?_
    have hlt := hR.le nxI_ge he1
    rw [nxI] at hlt
    refine At.sEl 3 0 3 1 i 0 (.tmp 15) (.tmp 14) (o.map encI) ((o.set i kk).map encI) [.int .i64 kk] (.int .i64 kk) (encI e1) (encI kk) (mapGet he1) setV ?_
    refine At.done rfl ?_
    refine AW.region (At.start ?_)
    refine At.a 2 ?_
    refine At.sI 17 (kk + 1) (by omega) ?_
    refine At.a 1 ?_
    refine At.done rfl ?_
    refine AW.region (At.start ?_)
    refine At.a 2 ?_
    refine At.sI 11 ((i : Int) + 1) (by omega) ?_
    refine At.a 1 ?_
    refine At.done rfl ?_
    exact ⟨(i + 1, (kk + 1), (o.set i kk)), ⟨by omega, hR.step he1 rfl rfl⟩, (by simp only; omega), Sub.o [(0, 0)] [true, true, false, false, false, true]⟩
  · skip
    refine AW.exit ?_
    refine AW.r ?_
    refine At.a 2 ?_
    refine At.done rfl ?_
    refine AW.ret ?_
    refine ⟨_, Sub.refl _ _, ?_⟩
    refine KF.conv (fun w => .int .i64 w) (fun w => [.arr 3 1 ((marks markI nxI a k).map encI)]) (show (kk) = (ends nxI a k) from (hR.done (by omega)).2) ?_
    refine KF.conv (fun w => .int .i64 kk) (fun w => [.arr 3 1 (w.map encI)]) (show (o) = (marks markI nxI a k) from (hR.done (by omega)).1) ?_
    exact KF.m [(0, 0)] [.int .i64 kk]
set_option maxRecDepth 100000 in
set_option maxHeartbeats 4000000 in
theorem laws_markRaft_spec  (a : Raft) (k : Int) (hz : SmallR a) (hk : 0 ≤ k ∧ k ≤ 4611686017427387904) : FnSpec Tryz.prog 46 [.agg [.int .i64 a.id, .int .i64 a.of_, .int .i64 a.role, .int .i64 a.commit, .int .i64 a.hard.term, .int .i64 a.hard.vote, .ref 0, .ref 1, .ref 2, .ref 3], .int .i64 k] [.arr 45 6 (a.hard.log.map encEnt), .arr 3 1 (a.yes.map encI), .arr 3 1 (a.next.map encI), .arr 3 1 (a.match_.map encI)] (.int .i64 (raftEnd a k)) [.arr 45 6 (((raftMark a k).hard.log).map encEnt), .arr 3 1 (((raftMark a k).yes).map encI), .arr 3 1 (((raftMark a k).next).map encI), .arr 3 1 (((raftMark a k).match_).map encI)] := by
  obtain ⟨z1, z2, z3, z4⟩ := id hz
  have q1 := endsE_eq a.hard.log k
  have q2 := endsI_eq a.yes (ends nxE a.hard.log k)
  have q3 := endsI_eq a.next (ends nxI a.yes (ends nxE a.hard.log k))
  have q4 := endsI_eq a.match_ (ends nxI a.next (ends nxI a.yes (ends nxE a.hard.log k)))
  refine FnSpec.of 22 Tryz.func46 rfl Tryz.ntmps46 (by simp) (AW.weakK ?_)
  refine AW.r ?_
  refine At.a 2 ?_
  refine At.done rfl ?_
  refine AW.r ?_
  refine At.a 3 ?_
  refine At.c (laws_markHard_spec  a.hard k (by omega) (by omega) (by omega)) Tryz.call130 true [(0, 0)] [] [] trivial ?_
  refine At.a 1 ?_
  refine At.done rfl ?_
  refine AW.r ?_
  refine At.a 3 ?_
  refine At.c (laws_markIntS_spec  a.yes (ends nxE a.hard.log k) (by omega) (by omega) (by omega)) Tryz.call131 true [(1, 0)] [] [] trivial ?_
  refine At.a 1 ?_
  refine At.done rfl ?_
  refine AW.r ?_
  refine At.a 3 ?_
  refine At.c (laws_markIntS_spec  a.next (ends nxI a.yes (ends nxE a.hard.log k)) (by omega) (by omega) (by omega)) Tryz.call131 true [(2, 0)] [] [] trivial ?_
  refine At.a 1 ?_
  refine At.done rfl ?_
  refine AW.r ?_
  refine At.a 3 ?_
  refine At.c (laws_markIntS_spec  a.match_ (ends nxI a.next (ends nxI a.yes (ends nxE a.hard.log k))) (by omega) (by omega) (by omega)) Tryz.call131 true [(3, 0)] [] [] trivial ?_
  refine At.a 1 ?_
  refine At.done rfl ?_
  refine AW.r ?_
  refine At.a 2 ?_
  refine At.done rfl ?_
  refine AW.ret ?_
  refine ⟨_, Sub.refl _ _, ?_⟩
  refine KF.conv (fun w => .int .i64 w) (fun w => [.arr 45 6 (((raftMark a k).hard.log).map encEnt), .arr 3 1 (((raftMark a k).yes).map encI), .arr 3 1 (((raftMark a k).next).map encI), .arr 3 1 (((raftMark a k).match_).map encI)]) (show (ends nxI a.match_ (ends nxI a.next (ends nxI a.yes (ends nxE a.hard.log k)))) = (raftEnd a k) from by rfl) ?_
  exact KF.m [(0, 0), (1, 1), (2, 2), (3, 3)] [.int .i64 (ends nxI a.match_ (ends nxI a.next (ends nxI a.yes (ends nxE a.hard.log k))))]
set_option maxRecDepth 100000 in
set_option maxHeartbeats 4000000 in
theorem laws_markMsg_spec  (a : Msg) (k : Int) (hk : 0 ≤ k) (ha : a.entries.length ≤ 1048576) (he : ends nxE a.entries k ≤ 4611686018427387904) : FnSpec Tryz.prog 47 [.agg [.int .i64 a.kind, .int .i64 a.from_, .int .i64 a.term, .int .i64 a.at_, .int .i64 a.atTerm, .int .i64 a.commit, .bool a.yes, .int .i64 a.release, .int .i64 a.part, .str a.bytes, .int .i64 a.cmd.kind, .int .i64 a.cmd.release, .int .i64 a.cmd.node, .int .i64 a.cmd.size, .str a.cmd.digest, .ref 0], .int .i64 k] [.arr 45 6 (a.entries.map encEnt)] (.int .i64 (ends nxE a.entries k)) [.arr 45 6 ((marks markE nxE a.entries k).map encEnt)] := by
  refine FnSpec.of 10 Tryz.func47 rfl Tryz.ntmps47 (by simp) (AW.weakK ?_)
  refine AW.r ?_
  refine At.a 2 ?_
  refine At.done rfl ?_
  refine AW.r ?_
  refine At.a 3 ?_
  refine At.c (laws_markEntryS_spec  a.entries k (by omega) (by omega) (by omega)) Tryz.call132 true [(0, 0)] [] [] trivial ?_
  refine At.a 1 ?_
  refine At.done rfl ?_
  refine AW.r ?_
  refine At.a 2 ?_
  refine At.done rfl ?_
  refine AW.ret ?_
  refine ⟨_, Sub.refl _ _, ?_⟩
  exact KF.m [(0, 0)] [.int .i64 (ends nxE a.entries k)]
set_option maxRecDepth 100000 in
set_option maxHeartbeats 4000000 in
theorem laws_markRecS_spec  (a : List Rec) (k : Int) (hk : 0 ≤ k) (ha : a.length ≤ 1048576) (he : ends nxR a k ≤ 4611686018427387904) : FnSpec Tryz.prog 48 [.ref 0, .int .i64 k] [.arr 47 10 (a.map encRec)] (.int .i64 (ends nxR a k)) [.arr 47 10 ((marks markR nxR a k).map encRec)] := by
  refine FnSpec.of 95 Tryz.func48 rfl Tryz.ntmps48 (by simp) (AW.weakK ?_)
  refine AW.r ?_
  refine At.a 1 ?_
  refine At.done rfl ?_
  refine AW.seq ?_
  refine AW.r ?_
  refine At.a 1 ?_
  refine At.done rfl ?_
  refine AW.block ?_
  refine AW.loopW (fun (x : Nat × Int × List Rec) => match x with | (i, kk, o) => Go.Sy.mk [.ref 0, .int .i64 kk, .un, .un, .un, .int .i64 (i : Int)] [(0, .arr 47 10 (o.map encRec))]) (fun (x : Nat × Int × List Rec) => match x with | (i, kk, o) => 0 ≤ kk ∧ MInv markR nxR a k i kk o) (fun (x : Nat × Int × List Rec) => match x with | (i, kk, o) => a.length - i) (0, k, a) ⟨hk, MInv.start⟩ (Sub.o [(0, 0)] [true, true, false, false, false, true]) ?_
  rintro ⟨i, kk, o⟩ ⟨hkk, hR⟩
  have hle := hR.ge nxR_ge
  have hlo := hR.2.1
  refine AW.seq ?_
  refine AW.r ?_
  refine At.a 3 ?_
  refine At.sL 8 encRec o ?_
  refine At.a 1 ?_
  refine At.done rfl ?_
  refine AW.cD ((i : Int) < (o.length : Int)) (fun h1 => ?_) (fun h1 => ?_)
  · skip
    refine AW.skip ?_
    refine AW.seq ?_
    refine AW.block ?_
    refine AW.r ?_
    refine At.a 3 ?_
    refine At.iRf 37 15 (.tmp 12) (.tmp 13) 0 (o.map encRec) .i64 (i : Int) 47 10 (by omega) (by simp only [List.length_map, List.length_append, List.length_take, List.length_drop, List.length_replicate, List.length_set, List.length_cons, List.length_nil]; omega) ?_
    refine At.a 1 ?_
    refine Exists.elim (show ∃ e, o[i]? = some e from ⟨_, List.getElem?_eq_getElem (by omega)⟩) fun e1 he1 => ?_
    have hlt := hR.le nxR_ge he1
    rw [nxR] at hlt
    refine At.sEl 3 0 47 10 i 0 (.tmp 16) (.tmp 14) (o.map encRec) ((o.set i (⟨kk, e1.term, e1.vote, e1.at_, e1.entry⟩ : Rec)).map encRec) [.int .i64 kk] (.int .i64 kk) (encRec e1) (encRec (⟨kk, e1.term, e1.vote, e1.at_, e1.entry⟩ : Rec)) (mapGet he1) setV ?_
    refine At.done rfl ?_
    refine AW.r ?_
    refine At.a 2 ?_
    refine At.sI 18 (kk + 1) (by omega) ?_
    refine At.a 1 ?_
    refine At.done rfl ?_
    refine AW.r ?_
    refine At.a 3 ?_
    refine At.iRf 37 22 (.tmp 19) (.tmp 20) 0 ((o.set i (⟨kk, e1.term, e1.vote, e1.at_, e1.entry⟩ : Rec)).map encRec) .i64 (i : Int) 47 10 (by omega) (by simp only [List.length_map, List.length_append, List.length_take, List.length_drop, List.length_replicate, List.length_set, List.length_cons, List.length_nil]; omega) ?_
    refine At.a 1 ?_
    refine At.sEl 3 0 47 10 i 1 (.tmp 23) (.tmp 21) ((o.set i (⟨kk, e1.term, e1.vote, e1.at_, e1.entry⟩ : Rec)).map encRec) ((o.set i (⟨kk, kk + 1, e1.vote, e1.at_, e1.entry⟩ : Rec)).map encRec) [.int .i64 (kk + 1)] (.int .i64 (kk + 1)) (encRec (⟨kk, e1.term, e1.vote, e1.at_, e1.entry⟩ : Rec)) (encRec (⟨kk, kk + 1, e1.vote, e1.at_, e1.entry⟩ : Rec)) (mapGet (setGet he1)) setSetV ?_
    refine At.done rfl ?_
    refine AW.r ?_
    refine At.a 2 ?_
    refine At.sJ 25 ((kk + 1) + 1) (kk + 2) (by omega) (by omega) ?_
    refine At.a 1 ?_
    refine At.done rfl ?_
    refine AW.r ?_
    refine At.a 3 ?_
    refine At.iRf 37 29 (.tmp 26) (.tmp 27) 0 ((o.set i (⟨kk, kk + 1, e1.vote, e1.at_, e1.entry⟩ : Rec)).map encRec) .i64 (i : Int) 47 10 (by omega) (by simp only [List.length_map, List.length_append, List.length_take, List.length_drop, List.length_replicate, List.length_set, List.length_cons, List.length_nil]; omega) ?_
    refine At.a 1 ?_
    refine At.sEl 3 0 47 10 i 2 (.tmp 30) (.tmp 28) ((o.set i (⟨kk, kk + 1, e1.vote, e1.at_, e1.entry⟩ : Rec)).map encRec) ((o.set i (⟨kk, kk + 1, kk + 2, e1.at_, e1.entry⟩ : Rec)).map encRec) [.int .i64 (kk + 2)] (.int .i64 (kk + 2)) (encRec (⟨kk, kk + 1, e1.vote, e1.at_, e1.entry⟩ : Rec)) (encRec (⟨kk, kk + 1, kk + 2, e1.at_, e1.entry⟩ : Rec)) (mapGet (setGet he1)) setSetV ?_
    refine At.done rfl ?_
    refine AW.r ?_
    refine At.a 2 ?_
    refine At.sJ 32 ((kk + 2) + 1) (kk + 3) (by omega) (by omega) ?_
    refine At.a 1 ?_
    refine At.done rfl ?_
    refine AW.r ?_
    refine At.a 3 ?_
    refine At.iRf 37 36 (.tmp 33) (.tmp 34) 0 ((o.set i (⟨kk, kk + 1, kk + 2, e1.at_, e1.entry⟩ : Rec)).map encRec) .i64 (i : Int) 47 10 (by omega) (by simp only [List.length_map, List.length_append, List.length_take, List.length_drop, List.length_replicate, List.length_set, List.length_cons, List.length_nil]; omega) ?_
    refine At.a 1 ?_
    refine At.sEl 3 0 47 10 i 3 (.tmp 37) (.tmp 35) ((o.set i (⟨kk, kk + 1, kk + 2, e1.at_, e1.entry⟩ : Rec)).map encRec) ((o.set i (⟨kk, kk + 1, kk + 2, kk + 3, e1.entry⟩ : Rec)).map encRec) [.int .i64 (kk + 3)] (.int .i64 (kk + 3)) (encRec (⟨kk, kk + 1, kk + 2, e1.at_, e1.entry⟩ : Rec)) (encRec (⟨kk, kk + 1, kk + 2, kk + 3, e1.entry⟩ : Rec)) (mapGet (setGet he1)) setSetV ?_
    refine At.done rfl ?_
    refine AW.r ?_
    refine At.a 2 ?_
    refine At.sJ 39 ((kk + 3) + 1) (kk + 4) (by omega) (by omega) ?_
    refine At.a 1 ?_
    refine At.done rfl ?_
    refine AW.r ?_
    refine At.a 3 ?_
    refine At.iRf 37 43 (.tmp 40) (.tmp 41) 0 ((o.set i (⟨kk, kk + 1, kk + 2, kk + 3, e1.entry⟩ : Rec)).map encRec) .i64 (i : Int) 47 10 (by omega) (by simp only [List.length_map, List.length_append, List.length_take, List.length_drop, List.length_replicate, List.length_set, List.length_cons, List.length_nil]; omega) ?_
    refine At.a 2 ?_
    refine At.sEl 3 0 47 10 i 4 (.tmp 45) (.tmp 42) ((o.set i (⟨kk, kk + 1, kk + 2, kk + 3, e1.entry⟩ : Rec)).map encRec) ((o.set i (⟨kk, kk + 1, kk + 2, kk + 3, ⟨kk + 4, ⟨e1.entry.cmd.kind, e1.entry.cmd.release, e1.entry.cmd.node, e1.entry.cmd.size, e1.entry.cmd.digest⟩⟩⟩ : Rec)).map encRec) [.int .i64 (kk + 4)] (.int .i64 (kk + 4)) (encRec (⟨kk, kk + 1, kk + 2, kk + 3, e1.entry⟩ : Rec)) (encRec (⟨kk, kk + 1, kk + 2, kk + 3, ⟨kk + 4, ⟨e1.entry.cmd.kind, e1.entry.cmd.release, e1.entry.cmd.node, e1.entry.cmd.size, e1.entry.cmd.digest⟩⟩⟩ : Rec)) (mapGet (setGet he1)) setSetV ?_
    refine At.done rfl ?_
    refine AW.r ?_
    refine At.a 2 ?_
    refine At.sJ 47 ((kk + 4) + 1) (kk + 5) (by omega) (by omega) ?_
    refine At.a 1 ?_
    refine At.done rfl ?_
    refine AW.r ?_
    refine At.a 3 ?_
    refine At.iRf 37 51 (.tmp 48) (.tmp 49) 0 ((o.set i (⟨kk, kk + 1, kk + 2, kk + 3, ⟨kk + 4, ⟨e1.entry.cmd.kind, e1.entry.cmd.release, e1.entry.cmd.node, e1.entry.cmd.size, e1.entry.cmd.digest⟩⟩⟩ : Rec)).map encRec) .i64 (i : Int) 47 10 (by omega) (by simp only [List.length_map, List.length_append, List.length_take, List.length_drop, List.length_replicate, List.length_set, List.length_cons, List.length_nil]; omega) ?_
    refine At.a 3 ?_
    refine At.sEl 3 0 47 10 i 5 (.tmp 54) (.tmp 50) ((o.set i (⟨kk, kk + 1, kk + 2, kk + 3, ⟨kk + 4, ⟨e1.entry.cmd.kind, e1.entry.cmd.release, e1.entry.cmd.node, e1.entry.cmd.size, e1.entry.cmd.digest⟩⟩⟩ : Rec)).map encRec) ((o.set i (⟨kk, kk + 1, kk + 2, kk + 3, ⟨kk + 4, ⟨kk + 5, e1.entry.cmd.release, e1.entry.cmd.node, e1.entry.cmd.size, e1.entry.cmd.digest⟩⟩⟩ : Rec)).map encRec) [.int .i64 (kk + 5)] (.int .i64 (kk + 5)) (encRec (⟨kk, kk + 1, kk + 2, kk + 3, ⟨kk + 4, ⟨e1.entry.cmd.kind, e1.entry.cmd.release, e1.entry.cmd.node, e1.entry.cmd.size, e1.entry.cmd.digest⟩⟩⟩ : Rec)) (encRec (⟨kk, kk + 1, kk + 2, kk + 3, ⟨kk + 4, ⟨kk + 5, e1.entry.cmd.release, e1.entry.cmd.node, e1.entry.cmd.size, e1.entry.cmd.digest⟩⟩⟩ : Rec)) (mapGet (setGet he1)) setSetV ?_
    refine At.done rfl ?_
    refine AW.r ?_
    refine At.a 2 ?_
    refine At.sJ 56 ((kk + 5) + 1) (kk + 6) (by omega) (by omega) ?_
    refine At.a 1 ?_
    refine At.done rfl ?_
    refine AW.r ?_
    refine At.a 3 ?_
    refine At.iRf 37 60 (.tmp 57) (.tmp 58) 0 ((o.set i (⟨kk, kk + 1, kk + 2, kk + 3, ⟨kk + 4, ⟨kk + 5, e1.entry.cmd.release, e1.entry.cmd.node, e1.entry.cmd.size, e1.entry.cmd.digest⟩⟩⟩ : Rec)).map encRec) .i64 (i : Int) 47 10 (by omega) (by simp only [List.length_map, List.length_append, List.length_take, List.length_drop, List.length_replicate, List.length_set, List.length_cons, List.length_nil]; omega) ?_
    refine At.a 3 ?_
    refine At.sEl 3 0 47 10 i 6 (.tmp 63) (.tmp 59) ((o.set i (⟨kk, kk + 1, kk + 2, kk + 3, ⟨kk + 4, ⟨kk + 5, e1.entry.cmd.release, e1.entry.cmd.node, e1.entry.cmd.size, e1.entry.cmd.digest⟩⟩⟩ : Rec)).map encRec) ((o.set i (⟨kk, kk + 1, kk + 2, kk + 3, ⟨kk + 4, ⟨kk + 5, kk + 6, e1.entry.cmd.node, e1.entry.cmd.size, e1.entry.cmd.digest⟩⟩⟩ : Rec)).map encRec) [.int .i64 (kk + 6)] (.int .i64 (kk + 6)) (encRec (⟨kk, kk + 1, kk + 2, kk + 3, ⟨kk + 4, ⟨kk + 5, e1.entry.cmd.release, e1.entry.cmd.node, e1.entry.cmd.size, e1.entry.cmd.digest⟩⟩⟩ : Rec)) (encRec (⟨kk, kk + 1, kk + 2, kk + 3, ⟨kk + 4, ⟨kk + 5, kk + 6, e1.entry.cmd.node, e1.entry.cmd.size, e1.entry.cmd.digest⟩⟩⟩ : Rec)) (mapGet (setGet he1)) setSetV ?_
    refine At.done rfl ?_
    refine AW.r ?_
    refine At.a 2 ?_
    refine At.sJ 65 ((kk + 6) + 1) (kk + 7) (by omega) (by omega) ?_
    refine At.a 1 ?_
    refine At.done rfl ?_
    refine AW.r ?_
    refine At.a 3 ?_
    refine At.iRf 37 69 (.tmp 66) (.tmp 67) 0 ((o.set i (⟨kk, kk + 1, kk + 2, kk + 3, ⟨kk + 4, ⟨kk + 5, kk + 6, e1.entry.cmd.node, e1.entry.cmd.size, e1.entry.cmd.digest⟩⟩⟩ : Rec)).map encRec) .i64 (i : Int) 47 10 (by omega) (by simp only [List.length_map, List.length_append, List.length_take, List.length_drop, List.length_replicate, List.length_set, List.length_cons, List.length_nil]; omega) ?_
    refine At.a 3 ?_
    refine At.sEl 3 0 47 10 i 7 (.tmp 72) (.tmp 68) ((o.set i (⟨kk, kk + 1, kk + 2, kk + 3, ⟨kk + 4, ⟨kk + 5, kk + 6, e1.entry.cmd.node, e1.entry.cmd.size, e1.entry.cmd.digest⟩⟩⟩ : Rec)).map encRec) ((o.set i (⟨kk, kk + 1, kk + 2, kk + 3, ⟨kk + 4, ⟨kk + 5, kk + 6, kk + 7, e1.entry.cmd.size, e1.entry.cmd.digest⟩⟩⟩ : Rec)).map encRec) [.int .i64 (kk + 7)] (.int .i64 (kk + 7)) (encRec (⟨kk, kk + 1, kk + 2, kk + 3, ⟨kk + 4, ⟨kk + 5, kk + 6, e1.entry.cmd.node, e1.entry.cmd.size, e1.entry.cmd.digest⟩⟩⟩ : Rec)) (encRec (⟨kk, kk + 1, kk + 2, kk + 3, ⟨kk + 4, ⟨kk + 5, kk + 6, kk + 7, e1.entry.cmd.size, e1.entry.cmd.digest⟩⟩⟩ : Rec)) (mapGet (setGet he1)) setSetV ?_
    refine At.done rfl ?_
    refine AW.r ?_
    refine At.a 2 ?_
    refine At.sJ 74 ((kk + 7) + 1) (kk + 8) (by omega) (by omega) ?_
    refine At.a 1 ?_
    refine At.done rfl ?_
    refine AW.r ?_
    refine At.a 3 ?_
    refine At.iRf 37 78 (.tmp 75) (.tmp 76) 0 ((o.set i (⟨kk, kk + 1, kk + 2, kk + 3, ⟨kk + 4, ⟨kk + 5, kk + 6, kk + 7, e1.entry.cmd.size, e1.entry.cmd.digest⟩⟩⟩ : Rec)).map encRec) .i64 (i : Int) 47 10 (by omega) (by simp only [List.length_map, List.length_append, List.length_take, List.length_drop, List.length_replicate, List.length_set, List.length_cons, List.length_nil]; omega) ?_
    refine At.a 3 ?_
    refine At.sEl 3 0 47 10 i 8 (.tmp 81) (.tmp 77) ((o.set i (⟨kk, kk + 1, kk + 2, kk + 3, ⟨kk + 4, ⟨kk + 5, kk + 6, kk + 7, e1.entry.cmd.size, e1.entry.cmd.digest⟩⟩⟩ : Rec)).map encRec) ((o.set i (⟨kk, kk + 1, kk + 2, kk + 3, ⟨kk + 4, ⟨kk + 5, kk + 6, kk + 7, kk + 8, e1.entry.cmd.digest⟩⟩⟩ : Rec)).map encRec) [.int .i64 (kk + 8)] (.int .i64 (kk + 8)) (encRec (⟨kk, kk + 1, kk + 2, kk + 3, ⟨kk + 4, ⟨kk + 5, kk + 6, kk + 7, e1.entry.cmd.size, e1.entry.cmd.digest⟩⟩⟩ : Rec)) (encRec (⟨kk, kk + 1, kk + 2, kk + 3, ⟨kk + 4, ⟨kk + 5, kk + 6, kk + 7, kk + 8, e1.entry.cmd.digest⟩⟩⟩ : Rec)) (mapGet (setGet he1)) setSetV ?_
    refine At.done rfl ?_
    refine AW.r ?_
    refine At.a 2 ?_
    refine At.sJ 83 ((kk + 8) + 1) (kk + 9) (by omega) (by omega) ?_
    refine At.a 1 ?_
    refine At.done rfl ?_
    refine AW.r ?_
    refine At.a 3 ?_
    refine At.c (laws_markText_spec  (kk + 9) (by omega)) Tryz.call133 true [] [] [] trivial ?_
    refine At.iRf 37 88 (.tmp 84) (.tmp 85) 0 ((o.set i (⟨kk, kk + 1, kk + 2, kk + 3, ⟨kk + 4, ⟨kk + 5, kk + 6, kk + 7, kk + 8, e1.entry.cmd.digest⟩⟩⟩ : Rec)).map encRec) .i64 (i : Int) 47 10 (by omega) (by simp only [List.length_map, List.length_append, List.length_take, List.length_drop, List.length_replicate, List.length_set, List.length_cons, List.length_nil]; omega) ?_
    refine At.a 3 ?_
    refine At.sEl 9 0 47 10 i 9 (.tmp 91) (.tmp 87) ((o.set i (⟨kk, kk + 1, kk + 2, kk + 3, ⟨kk + 4, ⟨kk + 5, kk + 6, kk + 7, kk + 8, e1.entry.cmd.digest⟩⟩⟩ : Rec)).map encRec) ((o.set i (⟨kk, kk + 1, kk + 2, kk + 3, ⟨kk + 4, ⟨kk + 5, kk + 6, kk + 7, kk + 8, markT (kk + 9)⟩⟩⟩ : Rec)).map encRec) [.str (markT (kk + 9))] (.str (markT (kk + 9))) (encRec (⟨kk, kk + 1, kk + 2, kk + 3, ⟨kk + 4, ⟨kk + 5, kk + 6, kk + 7, kk + 8, e1.entry.cmd.digest⟩⟩⟩ : Rec)) (encRec (⟨kk, kk + 1, kk + 2, kk + 3, ⟨kk + 4, ⟨kk + 5, kk + 6, kk + 7, kk + 8, markT (kk + 9)⟩⟩⟩ : Rec)) (mapGet (setGet he1)) setSetV ?_
    refine At.done rfl ?_
    refine AW.region (At.start ?_)
    refine At.a 2 ?_
    refine At.sJ 93 ((kk + 9) + 1) (kk + 10) (by omega) (by omega) ?_
    refine At.a 1 ?_
    refine At.done rfl ?_
    refine AW.region (At.start ?_)
    refine At.a 2 ?_
    refine At.sI 11 ((i : Int) + 1) (by omega) ?_
    refine At.a 1 ?_
    refine At.done rfl ?_
    exact ⟨(i + 1, (kk + 10), (o.set i (⟨kk, kk + 1, kk + 2, kk + 3, ⟨kk + 4, ⟨kk + 5, kk + 6, kk + 7, kk + 8, markT (kk + 9)⟩⟩⟩ : Rec))), ⟨by omega, hR.step he1 rfl rfl⟩, (by simp only; omega), Sub.o [(0, 0)] [true, true, false, false, false, true]⟩
  · skip
    refine AW.exit ?_
    refine AW.r ?_
    refine At.a 2 ?_
    refine At.done rfl ?_
    refine AW.ret ?_
    refine ⟨_, Sub.refl _ _, ?_⟩
    refine KF.conv (fun w => .int .i64 w) (fun w => [.arr 47 10 ((marks markR nxR a k).map encRec)]) (show (kk) = (ends nxR a k) from (hR.done (by omega)).2) ?_
    refine KF.conv (fun w => .int .i64 kk) (fun w => [.arr 47 10 (w.map encRec)]) (show (o) = (marks markR nxR a k) from (hR.done (by omega)).1) ?_
    exact KF.m [(0, 0)] [.int .i64 kk]
end Go.Proofs.YtlmadhahghiedaaGreat
