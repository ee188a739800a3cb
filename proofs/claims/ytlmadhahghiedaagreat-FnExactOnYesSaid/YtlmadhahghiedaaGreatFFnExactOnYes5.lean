/- The contracts of the functions that FnExactOnYes reaches (each: what it answers, said over values), printed by a program of this session (wip/sy/g/gen.py). -/
import Derived.Test.YtlmadhahghiedaaGreatFFnExactOnYes4
set_option linter.unusedVariables false
set_option linter.unusedSimpArgs false
namespace Go.Proofs.YtlmadhahghiedaaGreat
open Go Go.Sy Go.Proofs
set_option maxRecDepth 100000 in
set_option maxHeartbeats 4000000 in
theorem impl_OnYes_spec  (r : Raft) (m : Msg) (hz : SmallR r) (hm : m.entries.length ≤ 1048576) : FnSpec Tryz.prog 55 [.agg [.int .i64 r.id, .int .i64 r.of_, .int .i64 r.role, .int .i64 r.commit, .int .i64 r.hard.term, .int .i64 r.hard.vote, .sl false 6 (r.hard.log.map encEnt), .sl false 1 (r.yes.map encI), .sl false 1 (r.next.map encI), .sl false 1 (r.match_.map encI)], .agg [.int .i64 m.kind, .int .i64 m.from_, .int .i64 m.term, .int .i64 m.at_, .int .i64 m.atTerm, .int .i64 m.commit, .bool m.yes, .int .i64 m.release, .int .i64 m.part, .str m.bytes, .int .i64 m.cmd.kind, .int .i64 m.cmd.release, .int .i64 m.cmd.node, .int .i64 m.cmd.size, .str m.cmd.digest, .sl false 6 (m.entries.map encEnt)]] [] (.tup [.agg [.int .i64 (((yess r m).1).id), .int .i64 (((yess r m).1).of_), .int .i64 (((yess r m).1).role), .int .i64 (((yess r m).1).commit), .int .i64 (((yess r m).1).hard.term), .int .i64 (((yess r m).1).hard.vote), .ref 0, .ref 1, .ref 2, .ref 3], .ref 4, .ref 5]) [.arr 45 6 ((((yess r m).1).hard.log).map encEnt), .arr 3 1 ((((yess r m).1).yes).map encI), .arr 3 1 ((((yess r m).1).next).map encI), .arr 3 1 ((((yess r m).1).match_).map encI), .arr 47 10 (((yess r m).2.1).map encRec), .arr 51 17 (((yess r m).2.2).map encOut)] := by
  obtain ⟨z1, z2, z3, z4⟩ := id hz
  refine FnSpec.of 92 Tryz.func55 rfl Tryz.ntmps55 (by simp) (AW.weakK ?_)
  by_cases hok : raftOk r = true
  · skip
    have hokn := raftOk1_nums (raftOk_1 hok)
    refine AW.r ?_
    refine At.a 5 ?_
    refine At.done rfl ?_
    refine AW.seq ?_
    refine AW.weak (Sub.nils [⟨true, 104, some 6, 5001, 45, 6⟩, ⟨true, 104, some 7, 5002, 3, 1⟩, ⟨true, 104, some 8, 5003, 3, 1⟩, ⟨true, 104, some 9, 5004, 3, 1⟩] (by kernel_rfl)) ?_
    refine AW.region (At.start ?_)
    refine At.a 1 ?_
    refine At.c (impl_stepOf_spec  r (by exact hz)) Tryz.call80 true [] [(1180, 0), (1181, 1), (1182, 2), (1183, 3), (1184, 4), (1185, 5), (1186, 6)] [] trivial ?_
    refine At.a 1 ?_
    refine At.done rfl ?_
    refine AW.seq ?_
    refine AW.r ?_
    refine At.a 2 ?_
    refine At.c (impl_stepper_mayHear_spec  (⟨r, r, [], []⟩ : Stepper) m 2 (by exact hz) hm) Tryz.call85 true [(1180, 0), (1181, 1), (1182, 2), (1183, 3), (1184, 4), (1185, 5), (1186, 6)] [] [] trivial ?_
    refine At.a 1 ?_
    refine At.done rfl ?_
    refine AW.cNB (hears r m 2) (fun h1 => ?_) (fun h1 => ?_)
    · skip
      refine AW.r ?_
      refine At.a 1 ?_
      refine At.c (impl_stepper_none_T_spec  (⟨r, r, [], []⟩ : Stepper) (by exact hz) hok) Tryz.call88 true [(1180, 0), (1181, 1), (1182, 2), (1183, 3), (1184, 4), (1185, 5), (1186, 6)] [(1300, 7), (1301, 8), (1302, 9), (1303, 10), (1304, 11), (1305, 12)] [] trivial ?_
      refine At.a 6 ?_
      refine At.done rfl ?_
      refine AW.ret ?_
      refine ⟨_, Sub.refl _ _, ?_⟩
      refine KF.conv (fun w => .tup [.agg [.int .i64 w.id, .int .i64 w.of_, .int .i64 w.role, .int .i64 w.commit, .int .i64 w.hard.term, .int .i64 w.hard.vote, .ref 0, .ref 1, .ref 2, .ref 3], .ref 4, .ref 5]) (fun w => [.arr 45 6 (w.hard.log.map encEnt), .arr 3 1 (w.yes.map encI), .arr 3 1 (w.next.map encI), .arr 3 1 (w.match_.map encI), .arr 47 10 (((yess r m).2.1).map encRec), .arr 51 17 (((yess r m).2.2).map encOut)]) (show (r) = ((yess r m).1) from by rw [yess_un (by assumption) hok]; first | done | rfl | (simp only [leadRecs]; rw [if_neg (by assumption)]; done) | (rw [endRecs_ne (by dsimp only; omega)]; rfl) | (rw [endRecs_eq rfl rfl]; done) | (rw [endRecs_eq rfl rfl]; rfl) | (rw [endRecs_eq (by dsimp only; exact leadR_term _) (by dsimp only; exact leadR_vote _)]; first | done | rfl) | (simp only [leadR, if_neg (by assumption)]; rfl) | (rw [endRecs_eq (by dsimp only; first | rfl | exact leadR_term _) (by dsimp only; first | rfl | exact leadR_vote _)]; first | done | rfl)) ?_
      refine KF.conv (fun w => .tup [.agg [.int .i64 r.id, .int .i64 r.of_, .int .i64 r.role, .int .i64 r.commit, .int .i64 r.hard.term, .int .i64 r.hard.vote, .ref 0, .ref 1, .ref 2, .ref 3], .ref 4, .ref 5]) (fun w => [.arr 45 6 (r.hard.log.map encEnt), .arr 3 1 (r.yes.map encI), .arr 3 1 (r.next.map encI), .arr 3 1 (r.match_.map encI), .arr 47 10 (w.map encRec), .arr 51 17 (((yess r m).2.2).map encOut)]) (show ([]) = ((yess r m).2.1) from by rw [yess_un (by assumption) hok]; first | done | rfl | (simp only [leadRecs]; rw [if_neg (by assumption)]; done) | (rw [endRecs_ne (by dsimp only; omega)]; rfl) | (rw [endRecs_eq rfl rfl]; done) | (rw [endRecs_eq rfl rfl]; rfl) | (rw [endRecs_eq (by dsimp only; exact leadR_term _) (by dsimp only; exact leadR_vote _)]; first | done | rfl) | (simp only [leadR, if_neg (by assumption)]; rfl) | (rw [endRecs_eq (by dsimp only; first | rfl | exact leadR_term _) (by dsimp only; first | rfl | exact leadR_vote _)]; first | done | rfl)) ?_
      refine KF.conv (fun w => .tup [.agg [.int .i64 r.id, .int .i64 r.of_, .int .i64 r.role, .int .i64 r.commit, .int .i64 r.hard.term, .int .i64 r.hard.vote, .ref 0, .ref 1, .ref 2, .ref 3], .ref 4, .ref 5]) (fun w => [.arr 45 6 (r.hard.log.map encEnt), .arr 3 1 (r.yes.map encI), .arr 3 1 (r.next.map encI), .arr 3 1 (r.match_.map encI), .arr 47 10 [], .arr 51 17 (w.map encOut)]) (show ([]) = ((yess r m).2.2) from by rw [yess_un (by assumption) hok]; first | done | rfl | (simp only [leadRecs]; rw [if_neg (by assumption)]; done) | (rw [endRecs_ne (by dsimp only; omega)]; rfl) | (rw [endRecs_eq rfl rfl]; done) | (rw [endRecs_eq rfl rfl]; rfl) | (rw [endRecs_eq (by dsimp only; exact leadR_term _) (by dsimp only; exact leadR_vote _)]; first | done | rfl) | (simp only [leadR, if_neg (by assumption)]; rfl) | (rw [endRecs_eq (by dsimp only; first | rfl | exact leadR_term _) (by dsimp only; first | rfl | exact leadR_vote _)]; first | done | rfl)) ?_
      exact KF.m [(1300, 0), (1301, 1), (1302, 2), (1303, 3), (1304, 4), (1305, 5)] [.agg [.int .i64 r.id, .int .i64 r.of_, .int .i64 r.role, .int .i64 r.commit, .int .i64 r.hard.term, .int .i64 r.hard.vote, .ref 1300, .ref 1301, .ref 1302, .ref 1303], .ref 1304, .ref 1305]
    · skip
      have hhr := hears_ok h1
      have hnu := msgFits_nums hhr.2.1
      have hpy := raftOk_pair hok
      have hpl := putA_len m.from_ r.yes
      refine AW.skip ?_
      refine AW.seq ?_
      refine AW.r ?_
      refine At.a 3 ?_
      by_cases h2 : m.term ≤ r.hard.term
      · skip
        refine At.c (impl_stepper_followTerm_T_spec  (⟨r, r, [], []⟩ : Stepper) m.term h2) Tryz.call91 true [(1180, 0), (1181, 1), (1182, 2), (1183, 3), (1184, 4), (1185, 5), (1186, 6)] [] [] trivial ?_
        refine At.a 6 ?_
        by_cases h3 : r.role = 2
        · refine At.sB 28 (r.role != 2) false (sayUF h3) ?_
          refine At.a 8 ?_
          by_cases h4 : m.term = r.hard.term
          · refine At.sB 36 (m.term != r.hard.term) false (sayUF h4) ?_
            refine At.a 4 ?_
            refine At.done rfl ?_
            refine AW.cNB (m.yes) (fun h5 => ?_) (fun h5 => ?_)
            · skip
              refine AW.r ?_
              refine At.a 1 ?_
              refine At.c (impl_stepper_end_spec  (⟨r, r, [], []⟩ : Stepper) (by simp; done)) Tryz.call90 true [(1180, 0), (1181, 1), (1182, 2), (1183, 3), (1184, 4), (1185, 5), (1186, 6)] [(1840, 7)] [] trivial ?_
              refine At.a 6 ?_
              refine At.done rfl ?_
              refine AW.ret ?_
              refine ⟨_, Sub.refl _ _, ?_⟩
              refine KF.conv (fun w => .tup [.agg [.int .i64 w.id, .int .i64 w.of_, .int .i64 w.role, .int .i64 w.commit, .int .i64 w.hard.term, .int .i64 w.hard.vote, .ref 0, .ref 1, .ref 2, .ref 3], .ref 4, .ref 5]) (fun w => [.arr 45 6 (w.hard.log.map encEnt), .arr 3 1 (w.yes.map encI), .arr 3 1 (w.next.map encI), .arr 3 1 (w.match_.map encI), .arr 47 10 (((yess r m).2.1).map encRec), .arr 51 17 (((yess r m).2.2).map encOut)]) (show (r) = ((yess r m).1) from by rw [yess_not h1 (by omega) (by first | exact .inl (by omega) | exact .inr (.inl (by omega)) | exact .inr (.inr (by assumption)))]; first | done | rfl | (simp only [leadRecs]; rw [if_neg (by assumption)]; done) | (rw [endRecs_ne (by dsimp only; omega)]; rfl) | (rw [endRecs_eq rfl rfl]; done) | (rw [endRecs_eq rfl rfl]; rfl) | (rw [endRecs_eq (by dsimp only; exact leadR_term _) (by dsimp only; exact leadR_vote _)]; first | done | rfl) | (simp only [leadR, if_neg (by assumption)]; rfl) | (rw [endRecs_eq (by dsimp only; first | rfl | exact leadR_term _) (by dsimp only; first | rfl | exact leadR_vote _)]; first | done | rfl)) ?_
              refine KF.conv (fun w => .tup [.agg [.int .i64 r.id, .int .i64 r.of_, .int .i64 r.role, .int .i64 r.commit, .int .i64 r.hard.term, .int .i64 r.hard.vote, .ref 0, .ref 1, .ref 2, .ref 3], .ref 4, .ref 5]) (fun w => [.arr 45 6 (r.hard.log.map encEnt), .arr 3 1 (r.yes.map encI), .arr 3 1 (r.next.map encI), .arr 3 1 (r.match_.map encI), .arr 47 10 (w.map encRec), .arr 51 17 (((yess r m).2.2).map encOut)]) (show (endRecs (⟨r, r, [], []⟩ : Stepper)) = ((yess r m).2.1) from by rw [yess_not h1 (by omega) (by first | exact .inl (by omega) | exact .inr (.inl (by omega)) | exact .inr (.inr (by assumption)))]; first | done | rfl | (simp only [leadRecs]; rw [if_neg (by assumption)]; done) | (rw [endRecs_ne (by dsimp only; omega)]; rfl) | (rw [endRecs_eq rfl rfl]; done) | (rw [endRecs_eq rfl rfl]; rfl) | (rw [endRecs_eq (by dsimp only; exact leadR_term _) (by dsimp only; exact leadR_vote _)]; first | done | rfl) | (simp only [leadR, if_neg (by assumption)]; rfl) | (rw [endRecs_eq (by dsimp only; first | rfl | exact leadR_term _) (by dsimp only; first | rfl | exact leadR_vote _)]; first | done | rfl)) ?_
              refine KF.conv (fun w => .tup [.agg [.int .i64 r.id, .int .i64 r.of_, .int .i64 r.role, .int .i64 r.commit, .int .i64 r.hard.term, .int .i64 r.hard.vote, .ref 0, .ref 1, .ref 2, .ref 3], .ref 4, .ref 5]) (fun w => [.arr 45 6 (r.hard.log.map encEnt), .arr 3 1 (r.yes.map encI), .arr 3 1 (r.next.map encI), .arr 3 1 (r.match_.map encI), .arr 47 10 ((endRecs (⟨r, r, [], []⟩ : Stepper)).map encRec), .arr 51 17 (w.map encOut)]) (show ([]) = ((yess r m).2.2) from by rw [yess_not h1 (by omega) (by first | exact .inl (by omega) | exact .inr (.inl (by omega)) | exact .inr (.inr (by assumption)))]; first | done | rfl | (simp only [leadRecs]; rw [if_neg (by assumption)]; done) | (rw [endRecs_ne (by dsimp only; omega)]; rfl) | (rw [endRecs_eq rfl rfl]; done) | (rw [endRecs_eq rfl rfl]; rfl) | (rw [endRecs_eq (by dsimp only; exact leadR_term _) (by dsimp only; exact leadR_vote _)]; first | done | rfl) | (simp only [leadR, if_neg (by assumption)]; rfl) | (rw [endRecs_eq (by dsimp only; first | rfl | exact leadR_term _) (by dsimp only; first | rfl | exact leadR_vote _)]; first | done | rfl)) ?_
              exact KF.m [(1181, 0), (1182, 1), (1183, 2), (1184, 3), (1840, 4), (1186, 5)] [.agg [.int .i64 r.id, .int .i64 r.of_, .int .i64 r.role, .int .i64 r.commit, .int .i64 r.hard.term, .int .i64 r.hard.vote, .ref 1181, .ref 1182, .ref 1183, .ref 1184], .ref 1840, .ref 1186]
            · skip
              refine AW.skip ?_
              refine AW.seq ?_
              refine AW.seq ?_
              refine AW.regionD Tryz_mix (At.start ?_)
              refine At.a 7 ?_
              refine At.c (slices_Contains_spec  r.yes m.from_ (by omega)) Tryz.call72 false [] [] [(1182, 1, (r.yes.map encI))] ⟨rfl, ⟨3, (r.yes.map encI), by kernel_rfl, FrzIs.same (allP_encI _)⟩, trivial⟩ ?_
              refine At.a 1 ?_
              refine At.done rfl ⟨by kernel_rfl, ?_⟩
              refine AW.cNB (hasI m.from_ r.yes) (fun h6 => ?_) (fun h6 => ?_)
              · skip
                have hpa := putA_new hok h6
                have hil := isort_len (r.yes ++ [m.from_])
                rw [List.length_append, List.length_cons, List.length_nil] at hil
                refine AW.seq ?_
                refine AW.regionD Tryz_mix (At.start ?_)
                refine At.a 8 ?_
                refine At.litK (t := 27) (d := 63) (e := 3) (es := 1) (bytes := 8) (n := 1) (parts := #[(0, .tmp 62)]) (45, 6) 163 [] [.int .i64 m.from_] [.int .i64 m.from_] [.int .i64 0] [.int .i64 m.from_] [] (by kernel_rfl) (by kernel_rfl) (by kernel_rfl) (by kernel_rfl) rfl (fun p hp => by cases hp) (by kernel_rfl) ?_
                refine At.append (t := 27) (d := 64) (e := 3) (es := 1) (bytes := 8) (s := .tmp 60) (x := .tmp 63) (S := .ref 1182) (T := .ref 163) (xs := (r.yes.map encI)) (ys := (([m.from_]).map encI)) 164 [1182] [163] ((r.yes ++ ([m.from_])).map encI) (by kernel_rfl) (by kernel_rfl) (by kernel_rfl) (by kernel_rfl) ⟨by kernel_rfl, rfl⟩ ⟨by kernel_rfl, .inr rfl⟩ (by kernel_rfl) (by kernel_rfl) (by simp) (by simp only [List.length_map, List.length_append, List.length_take, List.length_drop, List.length_replicate, List.length_set, List.length_cons, List.length_nil]; omega) (by simp only [List.length_map, List.length_append, List.length_take, List.length_drop, List.length_replicate, List.length_set, List.length_cons, List.length_nil]; omega) ?_
                refine At.a 4 ?_
                refine At.done rfl ⟨by kernel_rfl, ?_⟩
                refine AW.region (At.start ?_)
                refine At.a 5 ?_
                refine At.c (slices_Sort_spec  (r.yes ++ ([m.from_])) (by rw [List.length_append, List.length_cons, List.length_nil]; omega)) Tryz.call140 true [(164, 0)] [] [] trivial ?_
                refine At.done rfl ?_
                refine AW.seq ?_
                refine AW.seq ?_
                refine AW.regionD Tryz_mix (At.start ?_)
                refine At.a 6 ?_
                refine At.sL 79 encI (isort (r.yes ++ ([m.from_]))) ?_
                refine At.a 1 ?_
                refine At.sI 80 (((isort (r.yes ++ ([m.from_]))).length : Int) + 1) (by omega) ?_
                refine At.a 1 ?_
                refine At.sI 81 (2 * (((isort (r.yes ++ ([m.from_]))).length : Int) + 1)) (by omega) ?_
                refine At.a 3 ?_
                refine At.done rfl ⟨by kernel_rfl, ?_⟩
                refine AW.cD ((2 * (((isort (r.yes ++ ([m.from_]))).length : Int) + 1)) > r.of_) (fun h7 => ?_) (fun h7 => ?_)
                · skip
                  refine AW.region (At.start ?_)
                  refine At.a 1 ?_
                  by_cases h8 : r.hard.log.length < 80
                  · skip
                    refine At.c (impl_stepper_lead_T_spec  (⟨⟨r.id, r.of_, r.role, r.commit, ⟨r.hard.term, r.hard.vote, r.hard.log⟩, isort (r.yes ++ ([m.from_])), r.next, r.match_⟩, r, [], []⟩ : Stepper) (by have q := putA_len m.from_ r.yes; unfold SmallR; dsimp only; omega) (by dsimp only; omega) (by dsimp only; omega) (by simp) (by simp; done) h8) Tryz.call96 true [(1180, 0), (1181, 1), (164, 2), (1183, 3), (1184, 4), (1185, 5), (1186, 6)] [(2720, 7), (2721, 8), (2722, 9), (2723, 10), (2724, 11), (2725, 12)] [] trivial ?_
                    refine At.done rfl ?_
                    refine AW.r ?_
                    refine At.a 1 ?_
                    refine At.c (impl_stepper_end_spec  (⟨(leadR (⟨r.id, r.of_, r.role, r.commit, ⟨r.hard.term, r.hard.vote, r.hard.log⟩, isort (r.yes ++ ([m.from_])), r.next, r.match_⟩)), r, ([]) ++ leadRecs (⟨r.id, r.of_, r.role, r.commit, ⟨r.hard.term, r.hard.vote, r.hard.log⟩, isort (r.yes ++ ([m.from_])), r.next, r.match_⟩), ([]) ++ sendAll (leadR (⟨r.id, r.of_, r.role, r.commit, ⟨r.hard.term, r.hard.vote, r.hard.log⟩, isort (r.yes ++ ([m.from_])), r.next, r.match_⟩))⟩ : Stepper) (by dsimp only; simp only [leadRecs]; (split <;> simp))) Tryz.call90 true [(1180, 0), (2720, 1), (2721, 2), (2722, 3), (2723, 4), (2724, 5), (2725, 6)] [(2760, 7)] [] trivial ?_
                    refine At.a 6 ?_
                    refine At.done rfl ?_
                    refine AW.ret ?_
                    refine ⟨_, Sub.refl _ _, ?_⟩
                    refine KF.conv (fun w => .tup [.agg [.int .i64 w.id, .int .i64 w.of_, .int .i64 w.role, .int .i64 w.commit, .int .i64 w.hard.term, .int .i64 w.hard.vote, .ref 0, .ref 1, .ref 2, .ref 3], .ref 4, .ref 5]) (fun w => [.arr 45 6 (w.hard.log.map encEnt), .arr 3 1 (w.yes.map encI), .arr 3 1 (w.next.map encI), .arr 3 1 (w.match_.map encI), .arr 47 10 (((yess r m).2.1).map encRec), .arr 51 17 (((yess r m).2.2).map encOut)]) (show ((leadR (⟨r.id, r.of_, r.role, r.commit, ⟨r.hard.term, r.hard.vote, r.hard.log⟩, isort (r.yes ++ ([m.from_])), r.next, r.match_⟩))) = ((yess r m).1) from by rw [yess_lead h1 (by omega) (by omega) (by omega) (by assumption) (by first | omega | (rw [hpa]; omega) | (rw [← hpa]; omega))]; first | first | done | rfl | (simp only [leadRecs]; rw [if_neg (by assumption)]; done) | (rw [endRecs_ne (by dsimp only; omega)]; rfl) | (rw [endRecs_eq rfl rfl]; done) | (rw [endRecs_eq rfl rfl]; rfl) | (rw [endRecs_eq (by dsimp only; exact leadR_term _) (by dsimp only; exact leadR_vote _)]; first | done | rfl) | (simp only [leadR, if_neg (by assumption)]; rfl) | (rw [endRecs_eq (by dsimp only; first | rfl | exact leadR_term _) (by dsimp only; first | rfl | exact leadR_vote _)]; first | done | rfl) | (rw [hpa]; first | done | rfl | (simp only [leadRecs]; rw [if_neg (by assumption)]; done) | (rw [endRecs_ne (by dsimp only; omega)]; rfl) | (rw [endRecs_eq rfl rfl]; done) | (rw [endRecs_eq rfl rfl]; rfl) | (rw [endRecs_eq (by dsimp only; exact leadR_term _) (by dsimp only; exact leadR_vote _)]; first | done | rfl) | (simp only [leadR, if_neg (by assumption)]; rfl) | (rw [endRecs_eq (by dsimp only; first | rfl | exact leadR_term _) (by dsimp only; first | rfl | exact leadR_vote _)]; first | done | rfl)) | (rw [← hpa]; first | done | rfl | (simp only [leadRecs]; rw [if_neg (by assumption)]; done) | (rw [endRecs_ne (by dsimp only; omega)]; rfl) | (rw [endRecs_eq rfl rfl]; done) | (rw [endRecs_eq rfl rfl]; rfl) | (rw [endRecs_eq (by dsimp only; exact leadR_term _) (by dsimp only; exact leadR_vote _)]; first | done | rfl) | (simp only [leadR, if_neg (by assumption)]; rfl) | (rw [endRecs_eq (by dsimp only; first | rfl | exact leadR_term _) (by dsimp only; first | rfl | exact leadR_vote _)]; first | done | rfl))) ?_
                    refine KF.conv (fun w => .tup [.agg [.int .i64 ((leadR (⟨r.id, r.of_, r.role, r.commit, ⟨r.hard.term, r.hard.vote, r.hard.log⟩, isort (r.yes ++ ([m.from_])), r.next, r.match_⟩)).id), .int .i64 ((leadR (⟨r.id, r.of_, r.role, r.commit, ⟨r.hard.term, r.hard.vote, r.hard.log⟩, isort (r.yes ++ ([m.from_])), r.next, r.match_⟩)).of_), .int .i64 ((leadR (⟨r.id, r.of_, r.role, r.commit, ⟨r.hard.term, r.hard.vote, r.hard.log⟩, isort (r.yes ++ ([m.from_])), r.next, r.match_⟩)).role), .int .i64 ((leadR (⟨r.id, r.of_, r.role, r.commit, ⟨r.hard.term, r.hard.vote, r.hard.log⟩, isort (r.yes ++ ([m.from_])), r.next, r.match_⟩)).commit), .int .i64 ((leadR (⟨r.id, r.of_, r.role, r.commit, ⟨r.hard.term, r.hard.vote, r.hard.log⟩, isort (r.yes ++ ([m.from_])), r.next, r.match_⟩)).hard.term), .int .i64 ((leadR (⟨r.id, r.of_, r.role, r.commit, ⟨r.hard.term, r.hard.vote, r.hard.log⟩, isort (r.yes ++ ([m.from_])), r.next, r.match_⟩)).hard.vote), .ref 0, .ref 1, .ref 2, .ref 3], .ref 4, .ref 5]) (fun w => [.arr 45 6 (((leadR (⟨r.id, r.of_, r.role, r.commit, ⟨r.hard.term, r.hard.vote, r.hard.log⟩, isort (r.yes ++ ([m.from_])), r.next, r.match_⟩)).hard.log).map encEnt), .arr 3 1 (((leadR (⟨r.id, r.of_, r.role, r.commit, ⟨r.hard.term, r.hard.vote, r.hard.log⟩, isort (r.yes ++ ([m.from_])), r.next, r.match_⟩)).yes).map encI), .arr 3 1 (((leadR (⟨r.id, r.of_, r.role, r.commit, ⟨r.hard.term, r.hard.vote, r.hard.log⟩, isort (r.yes ++ ([m.from_])), r.next, r.match_⟩)).next).map encI), .arr 3 1 (((leadR (⟨r.id, r.of_, r.role, r.commit, ⟨r.hard.term, r.hard.vote, r.hard.log⟩, isort (r.yes ++ ([m.from_])), r.next, r.match_⟩)).match_).map encI), .arr 47 10 (w.map encRec), .arr 51 17 (((yess r m).2.2).map encOut)]) (show (endRecs (⟨(leadR (⟨r.id, r.of_, r.role, r.commit, ⟨r.hard.term, r.hard.vote, r.hard.log⟩, isort (r.yes ++ ([m.from_])), r.next, r.match_⟩)), r, ([]) ++ leadRecs (⟨r.id, r.of_, r.role, r.commit, ⟨r.hard.term, r.hard.vote, r.hard.log⟩, isort (r.yes ++ ([m.from_])), r.next, r.match_⟩), ([]) ++ sendAll (leadR (⟨r.id, r.of_, r.role, r.commit, ⟨r.hard.term, r.hard.vote, r.hard.log⟩, isort (r.yes ++ ([m.from_])), r.next, r.match_⟩))⟩ : Stepper)) = ((yess r m).2.1) from by rw [yess_lead h1 (by omega) (by omega) (by omega) (by assumption) (by first | omega | (rw [hpa]; omega) | (rw [← hpa]; omega))]; first | first | done | rfl | (simp only [leadRecs]; rw [if_neg (by assumption)]; done) | (rw [endRecs_ne (by dsimp only; omega)]; rfl) | (rw [endRecs_eq rfl rfl]; done) | (rw [endRecs_eq rfl rfl]; rfl) | (rw [endRecs_eq (by dsimp only; exact leadR_term _) (by dsimp only; exact leadR_vote _)]; first | done | rfl) | (simp only [leadR, if_neg (by assumption)]; rfl) | (rw [endRecs_eq (by dsimp only; first | rfl | exact leadR_term _) (by dsimp only; first | rfl | exact leadR_vote _)]; first | done | rfl) | (rw [hpa]; first | done | rfl | (simp only [leadRecs]; rw [if_neg (by assumption)]; done) | (rw [endRecs_ne (by dsimp only; omega)]; rfl) | (rw [endRecs_eq rfl rfl]; done) | (rw [endRecs_eq rfl rfl]; rfl) | (rw [endRecs_eq (by dsimp only; exact leadR_term _) (by dsimp only; exact leadR_vote _)]; first | done | rfl) | (simp only [leadR, if_neg (by assumption)]; rfl) | (rw [endRecs_eq (by dsimp only; first | rfl | exact leadR_term _) (by dsimp only; first | rfl | exact leadR_vote _)]; first | done | rfl)) | (rw [← hpa]; first | done | rfl | (simp only [leadRecs]; rw [if_neg (by assumption)]; done) | (rw [endRecs_ne (by dsimp only; omega)]; rfl) | (rw [endRecs_eq rfl rfl]; done) | (rw [endRecs_eq rfl rfl]; rfl) | (rw [endRecs_eq (by dsimp only; exact leadR_term _) (by dsimp only; exact leadR_vote _)]; first | done | rfl) | (simp only [leadR, if_neg (by assumption)]; rfl) | (rw [endRecs_eq (by dsimp only; first | rfl | exact leadR_term _) (by dsimp only; first | rfl | exact leadR_vote _)]; first | done | rfl))) ?_
                    refine KF.conv (fun w => .tup [.agg [.int .i64 ((leadR (⟨r.id, r.of_, r.role, r.commit, ⟨r.hard.term, r.hard.vote, r.hard.log⟩, isort (r.yes ++ ([m.from_])), r.next, r.match_⟩)).id), .int .i64 ((leadR (⟨r.id, r.of_, r.role, r.commit, ⟨r.hard.term, r.hard.vote, r.hard.log⟩, isort (r.yes ++ ([m.from_])), r.next, r.match_⟩)).of_), .int .i64 ((leadR (⟨r.id, r.of_, r.role, r.commit, ⟨r.hard.term, r.hard.vote, r.hard.log⟩, isort (r.yes ++ ([m.from_])), r.next, r.match_⟩)).role), .int .i64 ((leadR (⟨r.id, r.of_, r.role, r.commit, ⟨r.hard.term, r.hard.vote, r.hard.log⟩, isort (r.yes ++ ([m.from_])), r.next, r.match_⟩)).commit), .int .i64 ((leadR (⟨r.id, r.of_, r.role, r.commit, ⟨r.hard.term, r.hard.vote, r.hard.log⟩, isort (r.yes ++ ([m.from_])), r.next, r.match_⟩)).hard.term), .int .i64 ((leadR (⟨r.id, r.of_, r.role, r.commit, ⟨r.hard.term, r.hard.vote, r.hard.log⟩, isort (r.yes ++ ([m.from_])), r.next, r.match_⟩)).hard.vote), .ref 0, .ref 1, .ref 2, .ref 3], .ref 4, .ref 5]) (fun w => [.arr 45 6 (((leadR (⟨r.id, r.of_, r.role, r.commit, ⟨r.hard.term, r.hard.vote, r.hard.log⟩, isort (r.yes ++ ([m.from_])), r.next, r.match_⟩)).hard.log).map encEnt), .arr 3 1 (((leadR (⟨r.id, r.of_, r.role, r.commit, ⟨r.hard.term, r.hard.vote, r.hard.log⟩, isort (r.yes ++ ([m.from_])), r.next, r.match_⟩)).yes).map encI), .arr 3 1 (((leadR (⟨r.id, r.of_, r.role, r.commit, ⟨r.hard.term, r.hard.vote, r.hard.log⟩, isort (r.yes ++ ([m.from_])), r.next, r.match_⟩)).next).map encI), .arr 3 1 (((leadR (⟨r.id, r.of_, r.role, r.commit, ⟨r.hard.term, r.hard.vote, r.hard.log⟩, isort (r.yes ++ ([m.from_])), r.next, r.match_⟩)).match_).map encI), .arr 47 10 ((endRecs (⟨(leadR (⟨r.id, r.of_, r.role, r.commit, ⟨r.hard.term, r.hard.vote, r.hard.log⟩, isort (r.yes ++ ([m.from_])), r.next, r.match_⟩)), r, ([]) ++ leadRecs (⟨r.id, r.of_, r.role, r.commit, ⟨r.hard.term, r.hard.vote, r.hard.log⟩, isort (r.yes ++ ([m.from_])), r.next, r.match_⟩), ([]) ++ sendAll (leadR (⟨r.id, r.of_, r.role, r.commit, ⟨r.hard.term, r.hard.vote, r.hard.log⟩, isort (r.yes ++ ([m.from_])), r.next, r.match_⟩))⟩ : Stepper)).map encRec), .arr 51 17 (w.map encOut)]) (show (([]) ++ sendAll (leadR (⟨r.id, r.of_, r.role, r.commit, ⟨r.hard.term, r.hard.vote, r.hard.log⟩, isort (r.yes ++ ([m.from_])), r.next, r.match_⟩))) = ((yess r m).2.2) from by rw [yess_lead h1 (by omega) (by omega) (by omega) (by assumption) (by first | omega | (rw [hpa]; omega) | (rw [← hpa]; omega))]; first | first | done | rfl | (simp only [leadRecs]; rw [if_neg (by assumption)]; done) | (rw [endRecs_ne (by dsimp only; omega)]; rfl) | (rw [endRecs_eq rfl rfl]; done) | (rw [endRecs_eq rfl rfl]; rfl) | (rw [endRecs_eq (by dsimp only; exact leadR_term _) (by dsimp only; exact leadR_vote _)]; first | done | rfl) | (simp only [leadR, if_neg (by assumption)]; rfl) | (rw [endRecs_eq (by dsimp only; first | rfl | exact leadR_term _) (by dsimp only; first | rfl | exact leadR_vote _)]; first | done | rfl) | (rw [hpa]; first | done | rfl | (simp only [leadRecs]; rw [if_neg (by assumption)]; done) | (rw [endRecs_ne (by dsimp only; omega)]; rfl) | (rw [endRecs_eq rfl rfl]; done) | (rw [endRecs_eq rfl rfl]; rfl) | (rw [endRecs_eq (by dsimp only; exact leadR_term _) (by dsimp only; exact leadR_vote _)]; first | done | rfl) | (simp only [leadR, if_neg (by assumption)]; rfl) | (rw [endRecs_eq (by dsimp only; first | rfl | exact leadR_term _) (by dsimp only; first | rfl | exact leadR_vote _)]; first | done | rfl)) | (rw [← hpa]; first | done | rfl | (simp only [leadRecs]; rw [if_neg (by assumption)]; done) | (rw [endRecs_ne (by dsimp only; omega)]; rfl) | (rw [endRecs_eq rfl rfl]; done) | (rw [endRecs_eq rfl rfl]; rfl) | (rw [endRecs_eq (by dsimp only; exact leadR_term _) (by dsimp only; exact leadR_vote _)]; first | done | rfl) | (simp only [leadR, if_neg (by assumption)]; rfl) | (rw [endRecs_eq (by dsimp only; first | rfl | exact leadR_term _) (by dsimp only; first | rfl | exact leadR_vote _)]; first | done | rfl))) ?_
                    exact KF.m [(2720, 0), (2721, 1), (2722, 2), (2723, 3), (2760, 4), (2725, 5)] [.agg [.int .i64 ((leadR (⟨r.id, r.of_, r.role, r.commit, ⟨r.hard.term, r.hard.vote, r.hard.log⟩, isort (r.yes ++ ([m.from_])), r.next, r.match_⟩)).id), .int .i64 ((leadR (⟨r.id, r.of_, r.role, r.commit, ⟨r.hard.term, r.hard.vote, r.hard.log⟩, isort (r.yes ++ ([m.from_])), r.next, r.match_⟩)).of_), .int .i64 ((leadR (⟨r.id, r.of_, r.role, r.commit, ⟨r.hard.term, r.hard.vote, r.hard.log⟩, isort (r.yes ++ ([m.from_])), r.next, r.match_⟩)).role), .int .i64 ((leadR (⟨r.id, r.of_, r.role, r.commit, ⟨r.hard.term, r.hard.vote, r.hard.log⟩, isort (r.yes ++ ([m.from_])), r.next, r.match_⟩)).commit), .int .i64 ((leadR (⟨r.id, r.of_, r.role, r.commit, ⟨r.hard.term, r.hard.vote, r.hard.log⟩, isort (r.yes ++ ([m.from_])), r.next, r.match_⟩)).hard.term), .int .i64 ((leadR (⟨r.id, r.of_, r.role, r.commit, ⟨r.hard.term, r.hard.vote, r.hard.log⟩, isort (r.yes ++ ([m.from_])), r.next, r.match_⟩)).hard.vote), .ref 2720, .ref 2721, .ref 2722, .ref 2723], .ref 2760, .ref 2725]
                  · skip
                    refine At.c (impl_stepper_lead_F_spec  (⟨⟨r.id, r.of_, r.role, r.commit, ⟨r.hard.term, r.hard.vote, r.hard.log⟩, isort (r.yes ++ ([m.from_])), r.next, r.match_⟩, r, [], []⟩ : Stepper) (by have q := putA_len m.from_ r.yes; unfold SmallR; dsimp only; omega) (by dsimp only; omega) (by dsimp only; omega) (by simp) (by simp; done) h8) Tryz.call96 true [(1180, 0), (1181, 1), (164, 2), (1183, 3), (1184, 4), (1185, 5), (1186, 6)] [(2720, 7), (2721, 8), (2722, 9), (2723, 10)] [] trivial ?_
                    refine At.done rfl ?_
                    refine AW.r ?_
                    refine At.a 1 ?_
                    refine At.c (impl_stepper_end_spec  (⟨(leadR (⟨r.id, r.of_, r.role, r.commit, ⟨r.hard.term, r.hard.vote, r.hard.log⟩, isort (r.yes ++ ([m.from_])), r.next, r.match_⟩)), r, ([]) ++ leadRecs (⟨r.id, r.of_, r.role, r.commit, ⟨r.hard.term, r.hard.vote, r.hard.log⟩, isort (r.yes ++ ([m.from_])), r.next, r.match_⟩), ([]) ++ sendAll (leadR (⟨r.id, r.of_, r.role, r.commit, ⟨r.hard.term, r.hard.vote, r.hard.log⟩, isort (r.yes ++ ([m.from_])), r.next, r.match_⟩))⟩ : Stepper) (by dsimp only; simp only [leadRecs]; (split <;> simp))) Tryz.call90 true [(1180, 0), (1181, 1), (2720, 2), (2721, 3), (2722, 4), (1185, 5), (2723, 6)] [(2760, 7)] [] trivial ?_
                    refine At.a 6 ?_
                    refine At.done rfl ?_
                    refine AW.ret ?_
                    refine ⟨_, Sub.refl _ _, ?_⟩
                    refine KF.conv (fun w => .tup [.agg [.int .i64 w.id, .int .i64 w.of_, .int .i64 w.role, .int .i64 w.commit, .int .i64 w.hard.term, .int .i64 w.hard.vote, .ref 0, .ref 1, .ref 2, .ref 3], .ref 4, .ref 5]) (fun w => [.arr 45 6 (w.hard.log.map encEnt), .arr 3 1 (w.yes.map encI), .arr 3 1 (w.next.map encI), .arr 3 1 (w.match_.map encI), .arr 47 10 (((yess r m).2.1).map encRec), .arr 51 17 (((yess r m).2.2).map encOut)]) (show ((leadR (⟨r.id, r.of_, r.role, r.commit, ⟨r.hard.term, r.hard.vote, r.hard.log⟩, isort (r.yes ++ ([m.from_])), r.next, r.match_⟩))) = ((yess r m).1) from by rw [yess_lead h1 (by omega) (by omega) (by omega) (by assumption) (by first | omega | (rw [hpa]; omega) | (rw [← hpa]; omega))]; first | first | done | rfl | (simp only [leadRecs]; rw [if_neg (by assumption)]; done) | (rw [endRecs_ne (by dsimp only; omega)]; rfl) | (rw [endRecs_eq rfl rfl]; done) | (rw [endRecs_eq rfl rfl]; rfl) | (rw [endRecs_eq (by dsimp only; exact leadR_term _) (by dsimp only; exact leadR_vote _)]; first | done | rfl) | (simp only [leadR, if_neg (by assumption)]; rfl) | (rw [endRecs_eq (by dsimp only; first | rfl | exact leadR_term _) (by dsimp only; first | rfl | exact leadR_vote _)]; first | done | rfl) | (rw [hpa]; first | done | rfl | (simp only [leadRecs]; rw [if_neg (by assumption)]; done) | (rw [endRecs_ne (by dsimp only; omega)]; rfl) | (rw [endRecs_eq rfl rfl]; done) | (rw [endRecs_eq rfl rfl]; rfl) | (rw [endRecs_eq (by dsimp only; exact leadR_term _) (by dsimp only; exact leadR_vote _)]; first | done | rfl) | (simp only [leadR, if_neg (by assumption)]; rfl) | (rw [endRecs_eq (by dsimp only; first | rfl | exact leadR_term _) (by dsimp only; first | rfl | exact leadR_vote _)]; first | done | rfl)) | (rw [← hpa]; first | done | rfl | (simp only [leadRecs]; rw [if_neg (by assumption)]; done) | (rw [endRecs_ne (by dsimp only; omega)]; rfl) | (rw [endRecs_eq rfl rfl]; done) | (rw [endRecs_eq rfl rfl]; rfl) | (rw [endRecs_eq (by dsimp only; exact leadR_term _) (by dsimp only; exact leadR_vote _)]; first | done | rfl) | (simp only [leadR, if_neg (by assumption)]; rfl) | (rw [endRecs_eq (by dsimp only; first | rfl | exact leadR_term _) (by dsimp only; first | rfl | exact leadR_vote _)]; first | done | rfl))) ?_
                    refine KF.conv (fun w => .tup [.agg [.int .i64 ((leadR (⟨r.id, r.of_, r.role, r.commit, ⟨r.hard.term, r.hard.vote, r.hard.log⟩, isort (r.yes ++ ([m.from_])), r.next, r.match_⟩)).id), .int .i64 ((leadR (⟨r.id, r.of_, r.role, r.commit, ⟨r.hard.term, r.hard.vote, r.hard.log⟩, isort (r.yes ++ ([m.from_])), r.next, r.match_⟩)).of_), .int .i64 ((leadR (⟨r.id, r.of_, r.role, r.commit, ⟨r.hard.term, r.hard.vote, r.hard.log⟩, isort (r.yes ++ ([m.from_])), r.next, r.match_⟩)).role), .int .i64 ((leadR (⟨r.id, r.of_, r.role, r.commit, ⟨r.hard.term, r.hard.vote, r.hard.log⟩, isort (r.yes ++ ([m.from_])), r.next, r.match_⟩)).commit), .int .i64 ((leadR (⟨r.id, r.of_, r.role, r.commit, ⟨r.hard.term, r.hard.vote, r.hard.log⟩, isort (r.yes ++ ([m.from_])), r.next, r.match_⟩)).hard.term), .int .i64 ((leadR (⟨r.id, r.of_, r.role, r.commit, ⟨r.hard.term, r.hard.vote, r.hard.log⟩, isort (r.yes ++ ([m.from_])), r.next, r.match_⟩)).hard.vote), .ref 0, .ref 1, .ref 2, .ref 3], .ref 4, .ref 5]) (fun w => [.arr 45 6 (((leadR (⟨r.id, r.of_, r.role, r.commit, ⟨r.hard.term, r.hard.vote, r.hard.log⟩, isort (r.yes ++ ([m.from_])), r.next, r.match_⟩)).hard.log).map encEnt), .arr 3 1 (((leadR (⟨r.id, r.of_, r.role, r.commit, ⟨r.hard.term, r.hard.vote, r.hard.log⟩, isort (r.yes ++ ([m.from_])), r.next, r.match_⟩)).yes).map encI), .arr 3 1 (((leadR (⟨r.id, r.of_, r.role, r.commit, ⟨r.hard.term, r.hard.vote, r.hard.log⟩, isort (r.yes ++ ([m.from_])), r.next, r.match_⟩)).next).map encI), .arr 3 1 (((leadR (⟨r.id, r.of_, r.role, r.commit, ⟨r.hard.term, r.hard.vote, r.hard.log⟩, isort (r.yes ++ ([m.from_])), r.next, r.match_⟩)).match_).map encI), .arr 47 10 (w.map encRec), .arr 51 17 (((yess r m).2.2).map encOut)]) (show (endRecs (⟨(leadR (⟨r.id, r.of_, r.role, r.commit, ⟨r.hard.term, r.hard.vote, r.hard.log⟩, isort (r.yes ++ ([m.from_])), r.next, r.match_⟩)), r, ([]) ++ leadRecs (⟨r.id, r.of_, r.role, r.commit, ⟨r.hard.term, r.hard.vote, r.hard.log⟩, isort (r.yes ++ ([m.from_])), r.next, r.match_⟩), ([]) ++ sendAll (leadR (⟨r.id, r.of_, r.role, r.commit, ⟨r.hard.term, r.hard.vote, r.hard.log⟩, isort (r.yes ++ ([m.from_])), r.next, r.match_⟩))⟩ : Stepper)) = ((yess r m).2.1) from by rw [yess_lead h1 (by omega) (by omega) (by omega) (by assumption) (by first | omega | (rw [hpa]; omega) | (rw [← hpa]; omega))]; first | first | done | rfl | (simp only [leadRecs]; rw [if_neg (by assumption)]; done) | (rw [endRecs_ne (by dsimp only; omega)]; rfl) | (rw [endRecs_eq rfl rfl]; done) | (rw [endRecs_eq rfl rfl]; rfl) | (rw [endRecs_eq (by dsimp only; exact leadR_term _) (by dsimp only; exact leadR_vote _)]; first | done | rfl) | (simp only [leadR, if_neg (by assumption)]; rfl) | (rw [endRecs_eq (by dsimp only; first | rfl | exact leadR_term _) (by dsimp only; first | rfl | exact leadR_vote _)]; first | done | rfl) | (rw [hpa]; first | done | rfl | (simp only [leadRecs]; rw [if_neg (by assumption)]; done) | (rw [endRecs_ne (by dsimp only; omega)]; rfl) | (rw [endRecs_eq rfl rfl]; done) | (rw [endRecs_eq rfl rfl]; rfl) | (rw [endRecs_eq (by dsimp only; exact leadR_term _) (by dsimp only; exact leadR_vote _)]; first | done | rfl) | (simp only [leadR, if_neg (by assumption)]; rfl) | (rw [endRecs_eq (by dsimp only; first | rfl | exact leadR_term _) (by dsimp only; first | rfl | exact leadR_vote _)]; first | done | rfl)) | (rw [← hpa]; first | done | rfl | (simp only [leadRecs]; rw [if_neg (by assumption)]; done) | (rw [endRecs_ne (by dsimp only; omega)]; rfl) | (rw [endRecs_eq rfl rfl]; done) | (rw [endRecs_eq rfl rfl]; rfl) | (rw [endRecs_eq (by dsimp only; exact leadR_term _) (by dsimp only; exact leadR_vote _)]; first | done | rfl) | (simp only [leadR, if_neg (by assumption)]; rfl) | (rw [endRecs_eq (by dsimp only; first | rfl | exact leadR_term _) (by dsimp only; first | rfl | exact leadR_vote _)]; first | done | rfl))) ?_
                    refine KF.conv (fun w => .tup [.agg [.int .i64 ((leadR (⟨r.id, r.of_, r.role, r.commit, ⟨r.hard.term, r.hard.vote, r.hard.log⟩, isort (r.yes ++ ([m.from_])), r.next, r.match_⟩)).id), .int .i64 ((leadR (⟨r.id, r.of_, r.role, r.commit, ⟨r.hard.term, r.hard.vote, r.hard.log⟩, isort (r.yes ++ ([m.from_])), r.next, r.match_⟩)).of_), .int .i64 ((leadR (⟨r.id, r.of_, r.role, r.commit, ⟨r.hard.term, r.hard.vote, r.hard.log⟩, isort (r.yes ++ ([m.from_])), r.next, r.match_⟩)).role), .int .i64 ((leadR (⟨r.id, r.of_, r.role, r.commit, ⟨r.hard.term, r.hard.vote, r.hard.log⟩, isort (r.yes ++ ([m.from_])), r.next, r.match_⟩)).commit), .int .i64 ((leadR (⟨r.id, r.of_, r.role, r.commit, ⟨r.hard.term, r.hard.vote, r.hard.log⟩, isort (r.yes ++ ([m.from_])), r.next, r.match_⟩)).hard.term), .int .i64 ((leadR (⟨r.id, r.of_, r.role, r.commit, ⟨r.hard.term, r.hard.vote, r.hard.log⟩, isort (r.yes ++ ([m.from_])), r.next, r.match_⟩)).hard.vote), .ref 0, .ref 1, .ref 2, .ref 3], .ref 4, .ref 5]) (fun w => [.arr 45 6 (((leadR (⟨r.id, r.of_, r.role, r.commit, ⟨r.hard.term, r.hard.vote, r.hard.log⟩, isort (r.yes ++ ([m.from_])), r.next, r.match_⟩)).hard.log).map encEnt), .arr 3 1 (((leadR (⟨r.id, r.of_, r.role, r.commit, ⟨r.hard.term, r.hard.vote, r.hard.log⟩, isort (r.yes ++ ([m.from_])), r.next, r.match_⟩)).yes).map encI), .arr 3 1 (((leadR (⟨r.id, r.of_, r.role, r.commit, ⟨r.hard.term, r.hard.vote, r.hard.log⟩, isort (r.yes ++ ([m.from_])), r.next, r.match_⟩)).next).map encI), .arr 3 1 (((leadR (⟨r.id, r.of_, r.role, r.commit, ⟨r.hard.term, r.hard.vote, r.hard.log⟩, isort (r.yes ++ ([m.from_])), r.next, r.match_⟩)).match_).map encI), .arr 47 10 ((endRecs (⟨(leadR (⟨r.id, r.of_, r.role, r.commit, ⟨r.hard.term, r.hard.vote, r.hard.log⟩, isort (r.yes ++ ([m.from_])), r.next, r.match_⟩)), r, ([]) ++ leadRecs (⟨r.id, r.of_, r.role, r.commit, ⟨r.hard.term, r.hard.vote, r.hard.log⟩, isort (r.yes ++ ([m.from_])), r.next, r.match_⟩), ([]) ++ sendAll (leadR (⟨r.id, r.of_, r.role, r.commit, ⟨r.hard.term, r.hard.vote, r.hard.log⟩, isort (r.yes ++ ([m.from_])), r.next, r.match_⟩))⟩ : Stepper)).map encRec), .arr 51 17 (w.map encOut)]) (show (([]) ++ sendAll (leadR (⟨r.id, r.of_, r.role, r.commit, ⟨r.hard.term, r.hard.vote, r.hard.log⟩, isort (r.yes ++ ([m.from_])), r.next, r.match_⟩))) = ((yess r m).2.2) from by rw [yess_lead h1 (by omega) (by omega) (by omega) (by assumption) (by first | omega | (rw [hpa]; omega) | (rw [← hpa]; omega))]; first | first | done | rfl | (simp only [leadRecs]; rw [if_neg (by assumption)]; done) | (rw [endRecs_ne (by dsimp only; omega)]; rfl) | (rw [endRecs_eq rfl rfl]; done) | (rw [endRecs_eq rfl rfl]; rfl) | (rw [endRecs_eq (by dsimp only; exact leadR_term _) (by dsimp only; exact leadR_vote _)]; first | done | rfl) | (simp only [leadR, if_neg (by assumption)]; rfl) | (rw [endRecs_eq (by dsimp only; first | rfl | exact leadR_term _) (by dsimp only; first | rfl | exact leadR_vote _)]; first | done | rfl) | (rw [hpa]; first | done | rfl | (simp only [leadRecs]; rw [if_neg (by assumption)]; done) | (rw [endRecs_ne (by dsimp only; omega)]; rfl) | (rw [endRecs_eq rfl rfl]; done) | (rw [endRecs_eq rfl rfl]; rfl) | (rw [endRecs_eq (by dsimp only; exact leadR_term _) (by dsimp only; exact leadR_vote _)]; first | done | rfl) | (simp only [leadR, if_neg (by assumption)]; rfl) | (rw [endRecs_eq (by dsimp only; first | rfl | exact leadR_term _) (by dsimp only; first | rfl | exact leadR_vote _)]; first | done | rfl)) | (rw [← hpa]; first | done | rfl | (simp only [leadRecs]; rw [if_neg (by assumption)]; done) | (rw [endRecs_ne (by dsimp only; omega)]; rfl) | (rw [endRecs_eq rfl rfl]; done) | (rw [endRecs_eq rfl rfl]; rfl) | (rw [endRecs_eq (by dsimp only; exact leadR_term _) (by dsimp only; exact leadR_vote _)]; first | done | rfl) | (simp only [leadR, if_neg (by assumption)]; rfl) | (rw [endRecs_eq (by dsimp only; first | rfl | exact leadR_term _) (by dsimp only; first | rfl | exact leadR_vote _)]; first | done | rfl))) ?_
                    exact KF.m [(1181, 0), (2720, 1), (2721, 2), (2722, 3), (2760, 4), (2723, 5)] [.agg [.int .i64 ((leadR (⟨r.id, r.of_, r.role, r.commit, ⟨r.hard.term, r.hard.vote, r.hard.log⟩, isort (r.yes ++ ([m.from_])), r.next, r.match_⟩)).id), .int .i64 ((leadR (⟨r.id, r.of_, r.role, r.commit, ⟨r.hard.term, r.hard.vote, r.hard.log⟩, isort (r.yes ++ ([m.from_])), r.next, r.match_⟩)).of_), .int .i64 ((leadR (⟨r.id, r.of_, r.role, r.commit, ⟨r.hard.term, r.hard.vote, r.hard.log⟩, isort (r.yes ++ ([m.from_])), r.next, r.match_⟩)).role), .int .i64 ((leadR (⟨r.id, r.of_, r.role, r.commit, ⟨r.hard.term, r.hard.vote, r.hard.log⟩, isort (r.yes ++ ([m.from_])), r.next, r.match_⟩)).commit), .int .i64 ((leadR (⟨r.id, r.of_, r.role, r.commit, ⟨r.hard.term, r.hard.vote, r.hard.log⟩, isort (r.yes ++ ([m.from_])), r.next, r.match_⟩)).hard.term), .int .i64 ((leadR (⟨r.id, r.of_, r.role, r.commit, ⟨r.hard.term, r.hard.vote, r.hard.log⟩, isort (r.yes ++ ([m.from_])), r.next, r.match_⟩)).hard.vote), .ref 1181, .ref 2720, .ref 2721, .ref 2722], .ref 2760, .ref 2723]
                · skip
                  refine AW.skip ?_
                  refine AW.r ?_
                  refine At.a 1 ?_
                  refine At.c (impl_stepper_end_spec  (⟨⟨r.id, r.of_, r.role, r.commit, ⟨r.hard.term, r.hard.vote, r.hard.log⟩, isort (r.yes ++ ([m.from_])), r.next, r.match_⟩, r, [], []⟩ : Stepper) (by simp; done)) Tryz.call90 true [(1180, 0), (1181, 1), (164, 2), (1183, 3), (1184, 4), (1185, 5), (1186, 6)] [(2760, 7)] [] trivial ?_
                  refine At.a 6 ?_
                  refine At.done rfl ?_
                  refine AW.ret ?_
                  refine ⟨_, Sub.refl _ _, ?_⟩
                  refine KF.conv (fun w => .tup [.agg [.int .i64 w.id, .int .i64 w.of_, .int .i64 w.role, .int .i64 w.commit, .int .i64 w.hard.term, .int .i64 w.hard.vote, .ref 0, .ref 1, .ref 2, .ref 3], .ref 4, .ref 5]) (fun w => [.arr 45 6 (w.hard.log.map encEnt), .arr 3 1 (w.yes.map encI), .arr 3 1 (w.next.map encI), .arr 3 1 (w.match_.map encI), .arr 47 10 (((yess r m).2.1).map encRec), .arr 51 17 (((yess r m).2.2).map encOut)]) (show ((⟨r.id, r.of_, r.role, r.commit, r.hard, isort (r.yes ++ ([m.from_])), r.next, r.match_⟩ : Raft)) = ((yess r m).1) from by rw [yess_less h1 (by omega) (by omega) (by omega) (by assumption) (by first | omega | (rw [hpa]; omega) | (rw [← hpa]; omega))]; first | first | done | rfl | (simp only [leadRecs]; rw [if_neg (by assumption)]; done) | (rw [endRecs_ne (by dsimp only; omega)]; rfl) | (rw [endRecs_eq rfl rfl]; done) | (rw [endRecs_eq rfl rfl]; rfl) | (rw [endRecs_eq (by dsimp only; exact leadR_term _) (by dsimp only; exact leadR_vote _)]; first | done | rfl) | (simp only [leadR, if_neg (by assumption)]; rfl) | (rw [endRecs_eq (by dsimp only; first | rfl | exact leadR_term _) (by dsimp only; first | rfl | exact leadR_vote _)]; first | done | rfl) | (rw [hpa]; first | done | rfl | (simp only [leadRecs]; rw [if_neg (by assumption)]; done) | (rw [endRecs_ne (by dsimp only; omega)]; rfl) | (rw [endRecs_eq rfl rfl]; done) | (rw [endRecs_eq rfl rfl]; rfl) | (rw [endRecs_eq (by dsimp only; exact leadR_term _) (by dsimp only; exact leadR_vote _)]; first | done | rfl) | (simp only [leadR, if_neg (by assumption)]; rfl) | (rw [endRecs_eq (by dsimp only; first | rfl | exact leadR_term _) (by dsimp only; first | rfl | exact leadR_vote _)]; first | done | rfl)) | (rw [← hpa]; first | done | rfl | (simp only [leadRecs]; rw [if_neg (by assumption)]; done) | (rw [endRecs_ne (by dsimp only; omega)]; rfl) | (rw [endRecs_eq rfl rfl]; done) | (rw [endRecs_eq rfl rfl]; rfl) | (rw [endRecs_eq (by dsimp only; exact leadR_term _) (by dsimp only; exact leadR_vote _)]; first | done | rfl) | (simp only [leadR, if_neg (by assumption)]; rfl) | (rw [endRecs_eq (by dsimp only; first | rfl | exact leadR_term _) (by dsimp only; first | rfl | exact leadR_vote _)]; first | done | rfl))) ?_
                  refine KF.conv (fun w => .tup [.agg [.int .i64 r.id, .int .i64 r.of_, .int .i64 r.role, .int .i64 r.commit, .int .i64 r.hard.term, .int .i64 r.hard.vote, .ref 0, .ref 1, .ref 2, .ref 3], .ref 4, .ref 5]) (fun w => [.arr 45 6 (r.hard.log.map encEnt), .arr 3 1 ((isort (r.yes ++ ([m.from_]))).map encI), .arr 3 1 (r.next.map encI), .arr 3 1 (r.match_.map encI), .arr 47 10 (w.map encRec), .arr 51 17 (((yess r m).2.2).map encOut)]) (show (endRecs (⟨⟨r.id, r.of_, r.role, r.commit, ⟨r.hard.term, r.hard.vote, r.hard.log⟩, isort (r.yes ++ ([m.from_])), r.next, r.match_⟩, r, [], []⟩ : Stepper)) = ((yess r m).2.1) from by rw [yess_less h1 (by omega) (by omega) (by omega) (by assumption) (by first | omega | (rw [hpa]; omega) | (rw [← hpa]; omega))]; first | first | done | rfl | (simp only [leadRecs]; rw [if_neg (by assumption)]; done) | (rw [endRecs_ne (by dsimp only; omega)]; rfl) | (rw [endRecs_eq rfl rfl]; done) | (rw [endRecs_eq rfl rfl]; rfl) | (rw [endRecs_eq (by dsimp only; exact leadR_term _) (by dsimp only; exact leadR_vote _)]; first | done | rfl) | (simp only [leadR, if_neg (by assumption)]; rfl) | (rw [endRecs_eq (by dsimp only; first | rfl | exact leadR_term _) (by dsimp only; first | rfl | exact leadR_vote _)]; first | done | rfl) | (rw [hpa]; first | done | rfl | (simp only [leadRecs]; rw [if_neg (by assumption)]; done) | (rw [endRecs_ne (by dsimp only; omega)]; rfl) | (rw [endRecs_eq rfl rfl]; done) | (rw [endRecs_eq rfl rfl]; rfl) | (rw [endRecs_eq (by dsimp only; exact leadR_term _) (by dsimp only; exact leadR_vote _)]; first | done | rfl) | (simp only [leadR, if_neg (by assumption)]; rfl) | (rw [endRecs_eq (by dsimp only; first | rfl | exact leadR_term _) (by dsimp only; first | rfl | exact leadR_vote _)]; first | done | rfl)) | (rw [← hpa]; first | done | rfl | (simp only [leadRecs]; rw [if_neg (by assumption)]; done) | (rw [endRecs_ne (by dsimp only; omega)]; rfl) | (rw [endRecs_eq rfl rfl]; done) | (rw [endRecs_eq rfl rfl]; rfl) | (rw [endRecs_eq (by dsimp only; exact leadR_term _) (by dsimp only; exact leadR_vote _)]; first | done | rfl) | (simp only [leadR, if_neg (by assumption)]; rfl) | (rw [endRecs_eq (by dsimp only; first | rfl | exact leadR_term _) (by dsimp only; first | rfl | exact leadR_vote _)]; first | done | rfl))) ?_
                  refine KF.conv (fun w => .tup [.agg [.int .i64 r.id, .int .i64 r.of_, .int .i64 r.role, .int .i64 r.commit, .int .i64 r.hard.term, .int .i64 r.hard.vote, .ref 0, .ref 1, .ref 2, .ref 3], .ref 4, .ref 5]) (fun w => [.arr 45 6 (r.hard.log.map encEnt), .arr 3 1 ((isort (r.yes ++ ([m.from_]))).map encI), .arr 3 1 (r.next.map encI), .arr 3 1 (r.match_.map encI), .arr 47 10 ((endRecs (⟨⟨r.id, r.of_, r.role, r.commit, ⟨r.hard.term, r.hard.vote, r.hard.log⟩, isort (r.yes ++ ([m.from_])), r.next, r.match_⟩, r, [], []⟩ : Stepper)).map encRec), .arr 51 17 (w.map encOut)]) (show ([]) = ((yess r m).2.2) from by rw [yess_less h1 (by omega) (by omega) (by omega) (by assumption) (by first | omega | (rw [hpa]; omega) | (rw [← hpa]; omega))]; first | first | done | rfl | (simp only [leadRecs]; rw [if_neg (by assumption)]; done) | (rw [endRecs_ne (by dsimp only; omega)]; rfl) | (rw [endRecs_eq rfl rfl]; done) | (rw [endRecs_eq rfl rfl]; rfl) | (rw [endRecs_eq (by dsimp only; exact leadR_term _) (by dsimp only; exact leadR_vote _)]; first | done | rfl) | (simp only [leadR, if_neg (by assumption)]; rfl) | (rw [endRecs_eq (by dsimp only; first | rfl | exact leadR_term _) (by dsimp only; first | rfl | exact leadR_vote _)]; first | done | rfl) | (rw [hpa]; first | done | rfl | (simp only [leadRecs]; rw [if_neg (by assumption)]; done) | (rw [endRecs_ne (by dsimp only; omega)]; rfl) | (rw [endRecs_eq rfl rfl]; done) | (rw [endRecs_eq rfl rfl]; rfl) | (rw [endRecs_eq (by dsimp only; exact leadR_term _) (by dsimp only; exact leadR_vote _)]; first | done | rfl) | (simp only [leadR, if_neg (by assumption)]; rfl) | (rw [endRecs_eq (by dsimp only; first | rfl | exact leadR_term _) (by dsimp only; first | rfl | exact leadR_vote _)]; first | done | rfl)) | (rw [← hpa]; first | done | rfl | (simp only [leadRecs]; rw [if_neg (by assumption)]; done) | (rw [endRecs_ne (by dsimp only; omega)]; rfl) | (rw [endRecs_eq rfl rfl]; done) | (rw [endRecs_eq rfl rfl]; rfl) | (rw [endRecs_eq (by dsimp only; exact leadR_term _) (by dsimp only; exact leadR_vote _)]; first | done | rfl) | (simp only [leadR, if_neg (by assumption)]; rfl) | (rw [endRecs_eq (by dsimp only; first | rfl | exact leadR_term _) (by dsimp only; first | rfl | exact leadR_vote _)]; first | done | rfl))) ?_
                  exact KF.m [(1181, 0), (164, 1), (1183, 2), (1184, 3), (2760, 4), (1186, 5)] [.agg [.int .i64 r.id, .int .i64 r.of_, .int .i64 r.role, .int .i64 r.commit, .int .i64 r.hard.term, .int .i64 r.hard.vote, .ref 1181, .ref 164, .ref 1183, .ref 1184], .ref 2760, .ref 1186]
              · skip
                have hpa := putA_has hok h6
                refine AW.skip ?_
                refine AW.seq ?_
                refine AW.seq ?_
                refine AW.regionD Tryz_mix (At.start ?_)
                refine At.a 6 ?_
                refine At.sL 79 encI r.yes ?_
                refine At.a 1 ?_
                refine At.sI 80 ((r.yes.length : Int) + 1) (by omega) ?_
                refine At.a 1 ?_
                refine At.sI 81 (2 * ((r.yes.length : Int) + 1)) (by omega) ?_
                refine At.a 3 ?_
                refine At.done rfl ⟨by kernel_rfl, ?_⟩
                refine AW.cD ((2 * ((r.yes.length : Int) + 1)) > r.of_) (fun h9 => ?_) (fun h9 => ?_)
                · skip
                  refine AW.region (At.start ?_)
                  refine At.a 1 ?_
                  by_cases h10 : r.hard.log.length < 80
                  · skip
                    refine At.c (impl_stepper_lead_T_spec  (⟨r, r, [], []⟩ : Stepper) (by exact hz) (by dsimp only; omega) (by dsimp only; omega) (by simp) (by simp; done) h10) Tryz.call96 true [(1180, 0), (1181, 1), (1182, 2), (1183, 3), (1184, 4), (1185, 5), (1186, 6)] [(2720, 7), (2721, 8), (2722, 9), (2723, 10), (2724, 11), (2725, 12)] [] trivial ?_
                    refine At.done rfl ?_
                    refine AW.r ?_
                    refine At.a 1 ?_
                    refine At.c (impl_stepper_end_spec  (⟨(leadR r), r, ([]) ++ leadRecs r, ([]) ++ sendAll (leadR r)⟩ : Stepper) (by dsimp only; simp only [leadRecs]; (split <;> simp))) Tryz.call90 true [(1180, 0), (2720, 1), (2721, 2), (2722, 3), (2723, 4), (2724, 5), (2725, 6)] [(2760, 7)] [] trivial ?_
                    refine At.a 6 ?_
                    refine At.done rfl ?_
                    refine AW.ret ?_
                    refine ⟨_, Sub.refl _ _, ?_⟩
                    refine KF.conv (fun w => .tup [.agg [.int .i64 w.id, .int .i64 w.of_, .int .i64 w.role, .int .i64 w.commit, .int .i64 w.hard.term, .int .i64 w.hard.vote, .ref 0, .ref 1, .ref 2, .ref 3], .ref 4, .ref 5]) (fun w => [.arr 45 6 (w.hard.log.map encEnt), .arr 3 1 (w.yes.map encI), .arr 3 1 (w.next.map encI), .arr 3 1 (w.match_.map encI), .arr 47 10 (((yess r m).2.1).map encRec), .arr 51 17 (((yess r m).2.2).map encOut)]) (show ((leadR r)) = ((yess r m).1) from by rw [yess_lead h1 (by omega) (by omega) (by omega) (by assumption) (by first | omega | (rw [hpa]; omega) | (rw [← hpa]; omega))]; first | first | done | rfl | (simp only [leadRecs]; rw [if_neg (by assumption)]; done) | (rw [endRecs_ne (by dsimp only; omega)]; rfl) | (rw [endRecs_eq rfl rfl]; done) | (rw [endRecs_eq rfl rfl]; rfl) | (rw [endRecs_eq (by dsimp only; exact leadR_term _) (by dsimp only; exact leadR_vote _)]; first | done | rfl) | (simp only [leadR, if_neg (by assumption)]; rfl) | (rw [endRecs_eq (by dsimp only; first | rfl | exact leadR_term _) (by dsimp only; first | rfl | exact leadR_vote _)]; first | done | rfl) | (rw [hpa]; first | done | rfl | (simp only [leadRecs]; rw [if_neg (by assumption)]; done) | (rw [endRecs_ne (by dsimp only; omega)]; rfl) | (rw [endRecs_eq rfl rfl]; done) | (rw [endRecs_eq rfl rfl]; rfl) | (rw [endRecs_eq (by dsimp only; exact leadR_term _) (by dsimp only; exact leadR_vote _)]; first | done | rfl) | (simp only [leadR, if_neg (by assumption)]; rfl) | (rw [endRecs_eq (by dsimp only; first | rfl | exact leadR_term _) (by dsimp only; first | rfl | exact leadR_vote _)]; first | done | rfl)) | (rw [← hpa]; first | done | rfl | (simp only [leadRecs]; rw [if_neg (by assumption)]; done) | (rw [endRecs_ne (by dsimp only; omega)]; rfl) | (rw [endRecs_eq rfl rfl]; done) | (rw [endRecs_eq rfl rfl]; rfl) | (rw [endRecs_eq (by dsimp only; exact leadR_term _) (by dsimp only; exact leadR_vote _)]; first | done | rfl) | (simp only [leadR, if_neg (by assumption)]; rfl) | (rw [endRecs_eq (by dsimp only; first | rfl | exact leadR_term _) (by dsimp only; first | rfl | exact leadR_vote _)]; first | done | rfl))) ?_
                    refine KF.conv (fun w => .tup [.agg [.int .i64 ((leadR r).id), .int .i64 ((leadR r).of_), .int .i64 ((leadR r).role), .int .i64 ((leadR r).commit), .int .i64 ((leadR r).hard.term), .int .i64 ((leadR r).hard.vote), .ref 0, .ref 1, .ref 2, .ref 3], .ref 4, .ref 5]) (fun w => [.arr 45 6 (((leadR r).hard.log).map encEnt), .arr 3 1 (((leadR r).yes).map encI), .arr 3 1 (((leadR r).next).map encI), .arr 3 1 (((leadR r).match_).map encI), .arr 47 10 (w.map encRec), .arr 51 17 (((yess r m).2.2).map encOut)]) (show (endRecs (⟨(leadR r), r, ([]) ++ leadRecs r, ([]) ++ sendAll (leadR r)⟩ : Stepper)) = ((yess r m).2.1) from by rw [yess_lead h1 (by omega) (by omega) (by omega) (by assumption) (by first | omega | (rw [hpa]; omega) | (rw [← hpa]; omega))]; first | first | done | rfl | (simp only [leadRecs]; rw [if_neg (by assumption)]; done) | (rw [endRecs_ne (by dsimp only; omega)]; rfl) | (rw [endRecs_eq rfl rfl]; done) | (rw [endRecs_eq rfl rfl]; rfl) | (rw [endRecs_eq (by dsimp only; exact leadR_term _) (by dsimp only; exact leadR_vote _)]; first | done | rfl) | (simp only [leadR, if_neg (by assumption)]; rfl) | (rw [endRecs_eq (by dsimp only; first | rfl | exact leadR_term _) (by dsimp only; first | rfl | exact leadR_vote _)]; first | done | rfl) | (rw [hpa]; first | done | rfl | (simp only [leadRecs]; rw [if_neg (by assumption)]; done) | (rw [endRecs_ne (by dsimp only; omega)]; rfl) | (rw [endRecs_eq rfl rfl]; done) | (rw [endRecs_eq rfl rfl]; rfl) | (rw [endRecs_eq (by dsimp only; exact leadR_term _) (by dsimp only; exact leadR_vote _)]; first | done | rfl) | (simp only [leadR, if_neg (by assumption)]; rfl) | (rw [endRecs_eq (by dsimp only; first | rfl | exact leadR_term _) (by dsimp only; first | rfl | exact leadR_vote _)]; first | done | rfl)) | (rw [← hpa]; first | done | rfl | (simp only [leadRecs]; rw [if_neg (by assumption)]; done) | (rw [endRecs_ne (by dsimp only; omega)]; rfl) | (rw [endRecs_eq rfl rfl]; done) | (rw [endRecs_eq rfl rfl]; rfl) | (rw [endRecs_eq (by dsimp only; exact leadR_term _) (by dsimp only; exact leadR_vote _)]; first | done | rfl) | (simp only [leadR, if_neg (by assumption)]; rfl) | (rw [endRecs_eq (by dsimp only; first | rfl | exact leadR_term _) (by dsimp only; first | rfl | exact leadR_vote _)]; first | done | rfl))) ?_
                    refine KF.conv (fun w => .tup [.agg [.int .i64 ((leadR r).id), .int .i64 ((leadR r).of_), .int .i64 ((leadR r).role), .int .i64 ((leadR r).commit), .int .i64 ((leadR r).hard.term), .int .i64 ((leadR r).hard.vote), .ref 0, .ref 1, .ref 2, .ref 3], .ref 4, .ref 5]) (fun w => [.arr 45 6 (((leadR r).hard.log).map encEnt), .arr 3 1 (((leadR r).yes).map encI), .arr 3 1 (((leadR r).next).map encI), .arr 3 1 (((leadR r).match_).map encI), .arr 47 10 ((endRecs (⟨(leadR r), r, ([]) ++ leadRecs r, ([]) ++ sendAll (leadR r)⟩ : Stepper)).map encRec), .arr 51 17 (w.map encOut)]) (show (([]) ++ sendAll (leadR r)) = ((yess r m).2.2) from by rw [yess_lead h1 (by omega) (by omega) (by omega) (by assumption) (by first | omega | (rw [hpa]; omega) | (rw [← hpa]; omega))]; first | first | done | rfl | (simp only [leadRecs]; rw [if_neg (by assumption)]; done) | (rw [endRecs_ne (by dsimp only; omega)]; rfl) | (rw [endRecs_eq rfl rfl]; done) | (rw [endRecs_eq rfl rfl]; rfl) | (rw [endRecs_eq (by dsimp only; exact leadR_term _) (by dsimp only; exact leadR_vote _)]; first | done | rfl) | (simp only [leadR, if_neg (by assumption)]; rfl) | (rw [endRecs_eq (by dsimp only; first | rfl | exact leadR_term _) (by dsimp only; first | rfl | exact leadR_vote _)]; first | done | rfl) | (rw [hpa]; first | done | rfl | (simp only [leadRecs]; rw [if_neg (by assumption)]; done) | (rw [endRecs_ne (by dsimp only; omega)]; rfl) | (rw [endRecs_eq rfl rfl]; done) | (rw [endRecs_eq rfl rfl]; rfl) | (rw [endRecs_eq (by dsimp only; exact leadR_term _) (by dsimp only; exact leadR_vote _)]; first | done | rfl) | (simp only [leadR, if_neg (by assumption)]; rfl) | (rw [endRecs_eq (by dsimp only; first | rfl | exact leadR_term _) (by dsimp only; first | rfl | exact leadR_vote _)]; first | done | rfl)) | (rw [← hpa]; first | done | rfl | (simp only [leadRecs]; rw [if_neg (by assumption)]; done) | (rw [endRecs_ne (by dsimp only; omega)]; rfl) | (rw [endRecs_eq rfl rfl]; done) | (rw [endRecs_eq rfl rfl]; rfl) | (rw [endRecs_eq (by dsimp only; exact leadR_term _) (by dsimp only; exact leadR_vote _)]; first | done | rfl) | (simp only [leadR, if_neg (by assumption)]; rfl) | (rw [endRecs_eq (by dsimp only; first | rfl | exact leadR_term _) (by dsimp only; first | rfl | exact leadR_vote _)]; first | done | rfl))) ?_
                    exact KF.m [(2720, 0), (2721, 1), (2722, 2), (2723, 3), (2760, 4), (2725, 5)] [.agg [.int .i64 ((leadR r).id), .int .i64 ((leadR r).of_), .int .i64 ((leadR r).role), .int .i64 ((leadR r).commit), .int .i64 ((leadR r).hard.term), .int .i64 ((leadR r).hard.vote), .ref 2720, .ref 2721, .ref 2722, .ref 2723], .ref 2760, .ref 2725]
                  · skip
                    refine At.c (impl_stepper_lead_F_spec  (⟨r, r, [], []⟩ : Stepper) (by exact hz) (by dsimp only; omega) (by dsimp only; omega) (by simp) (by simp; done) h10) Tryz.call96 true [(1180, 0), (1181, 1), (1182, 2), (1183, 3), (1184, 4), (1185, 5), (1186, 6)] [(2720, 7), (2721, 8), (2722, 9), (2723, 10)] [] trivial ?_
                    refine At.done rfl ?_
                    refine AW.r ?_
                    refine At.a 1 ?_
                    refine At.c (impl_stepper_end_spec  (⟨(leadR r), r, ([]) ++ leadRecs r, ([]) ++ sendAll (leadR r)⟩ : Stepper) (by dsimp only; simp only [leadRecs]; (split <;> simp))) Tryz.call90 true [(1180, 0), (1181, 1), (2720, 2), (2721, 3), (2722, 4), (1185, 5), (2723, 6)] [(2760, 7)] [] trivial ?_
                    refine At.a 6 ?_
                    refine At.done rfl ?_
                    refine AW.ret ?_
                    refine ⟨_, Sub.refl _ _, ?_⟩
                    refine KF.conv (fun w => .tup [.agg [.int .i64 w.id, .int .i64 w.of_, .int .i64 w.role, .int .i64 w.commit, .int .i64 w.hard.term, .int .i64 w.hard.vote, .ref 0, .ref 1, .ref 2, .ref 3], .ref 4, .ref 5]) (fun w => [.arr 45 6 (w.hard.log.map encEnt), .arr 3 1 (w.yes.map encI), .arr 3 1 (w.next.map encI), .arr 3 1 (w.match_.map encI), .arr 47 10 (((yess r m).2.1).map encRec), .arr 51 17 (((yess r m).2.2).map encOut)]) (show ((leadR r)) = ((yess r m).1) from by rw [yess_lead h1 (by omega) (by omega) (by omega) (by assumption) (by first | omega | (rw [hpa]; omega) | (rw [← hpa]; omega))]; first | first | done | rfl | (simp only [leadRecs]; rw [if_neg (by assumption)]; done) | (rw [endRecs_ne (by dsimp only; omega)]; rfl) | (rw [endRecs_eq rfl rfl]; done) | (rw [endRecs_eq rfl rfl]; rfl) | (rw [endRecs_eq (by dsimp only; exact leadR_term _) (by dsimp only; exact leadR_vote _)]; first | done | rfl) | (simp only [leadR, if_neg (by assumption)]; rfl) | (rw [endRecs_eq (by dsimp only; first | rfl | exact leadR_term _) (by dsimp only; first | rfl | exact leadR_vote _)]; first | done | rfl) | (rw [hpa]; first | done | rfl | (simp only [leadRecs]; rw [if_neg (by assumption)]; done) | (rw [endRecs_ne (by dsimp only; omega)]; rfl) | (rw [endRecs_eq rfl rfl]; done) | (rw [endRecs_eq rfl rfl]; rfl) | (rw [endRecs_eq (by dsimp only; exact leadR_term _) (by dsimp only; exact leadR_vote _)]; first | done | rfl) | (simp only [leadR, if_neg (by assumption)]; rfl) | (rw [endRecs_eq (by dsimp only; first | rfl | exact leadR_term _) (by dsimp only; first | rfl | exact leadR_vote _)]; first | done | rfl)) | (rw [← hpa]; first | done | rfl | (simp only [leadRecs]; rw [if_neg (by assumption)]; done) | (rw [endRecs_ne (by dsimp only; omega)]; rfl) | (rw [endRecs_eq rfl rfl]; done) | (rw [endRecs_eq rfl rfl]; rfl) | (rw [endRecs_eq (by dsimp only; exact leadR_term _) (by dsimp only; exact leadR_vote _)]; first | done | rfl) | (simp only [leadR, if_neg (by assumption)]; rfl) | (rw [endRecs_eq (by dsimp only; first | rfl | exact leadR_term _) (by dsimp only; first | rfl | exact leadR_vote _)]; first | done | rfl))) ?_
                    refine KF.conv (fun w => .tup [.agg [.int .i64 ((leadR r).id), .int .i64 ((leadR r).of_), .int .i64 ((leadR r).role), .int .i64 ((leadR r).commit), .int .i64 ((leadR r).hard.term), .int .i64 ((leadR r).hard.vote), .ref 0, .ref 1, .ref 2, .ref 3], .ref 4, .ref 5]) (fun w => [.arr 45 6 (((leadR r).hard.log).map encEnt), .arr 3 1 (((leadR r).yes).map encI), .arr 3 1 (((leadR r).next).map encI), .arr 3 1 (((leadR r).match_).map encI), .arr 47 10 (w.map encRec), .arr 51 17 (((yess r m).2.2).map encOut)]) (show (endRecs (⟨(leadR r), r, ([]) ++ leadRecs r, ([]) ++ sendAll (leadR r)⟩ : Stepper)) = ((yess r m).2.1) from by rw [yess_lead h1 (by omega) (by omega) (by omega) (by assumption) (by first | omega | (rw [hpa]; omega) | (rw [← hpa]; omega))]; first | first | done | rfl | (simp only [leadRecs]; rw [if_neg (by assumption)]; done) | (rw [endRecs_ne (by dsimp only; omega)]; rfl) | (rw [endRecs_eq rfl rfl]; done) | (rw [endRecs_eq rfl rfl]; rfl) | (rw [endRecs_eq (by dsimp only; exact leadR_term _) (by dsimp only; exact leadR_vote _)]; first | done | rfl) | (simp only [leadR, if_neg (by assumption)]; rfl) | (rw [endRecs_eq (by dsimp only; first | rfl | exact leadR_term _) (by dsimp only; first | rfl | exact leadR_vote _)]; first | done | rfl) | (rw [hpa]; first | done | rfl | (simp only [leadRecs]; rw [if_neg (by assumption)]; done) | (rw [endRecs_ne (by dsimp only; omega)]; rfl) | (rw [endRecs_eq rfl rfl]; done) | (rw [endRecs_eq rfl rfl]; rfl) | (rw [endRecs_eq (by dsimp only; exact leadR_term _) (by dsimp only; exact leadR_vote _)]; first | done | rfl) | (simp only [leadR, if_neg (by assumption)]; rfl) | (rw [endRecs_eq (by dsimp only; first | rfl | exact leadR_term _) (by dsimp only; first | rfl | exact leadR_vote _)]; first | done | rfl)) | (rw [← hpa]; first | done | rfl | (simp only [leadRecs]; rw [if_neg (by assumption)]; done) | (rw [endRecs_ne (by dsimp only; omega)]; rfl) | (rw [endRecs_eq rfl rfl]; done) | (rw [endRecs_eq rfl rfl]; rfl) | (rw [endRecs_eq (by dsimp only; exact leadR_term _) (by dsimp only; exact leadR_vote _)]; first | done | rfl) | (simp only [leadR, if_neg (by assumption)]; rfl) | (rw [endRecs_eq (by dsimp only; first | rfl | exact leadR_term _) (by dsimp only; first | rfl | exact leadR_vote _)]; first | done | rfl))) ?_
                    refine KF.conv (fun w => .tup [.agg [.int .i64 ((leadR r).id), .int .i64 ((leadR r).of_), .int .i64 ((leadR r).role), .int .i64 ((leadR r).commit), .int .i64 ((leadR r).hard.term), .int .i64 ((leadR r).hard.vote), .ref 0, .ref 1, .ref 2, .ref 3], .ref 4, .ref 5]) (fun w => [.arr 45 6 (((leadR r).hard.log).map encEnt), .arr 3 1 (((leadR r).yes).map encI), .arr 3 1 (((leadR r).next).map encI), .arr 3 1 (((leadR r).match_).map encI), .arr 47 10 ((endRecs (⟨(leadR r), r, ([]) ++ leadRecs r, ([]) ++ sendAll (leadR r)⟩ : Stepper)).map encRec), .arr 51 17 (w.map encOut)]) (show (([]) ++ sendAll (leadR r)) = ((yess r m).2.2) from by rw [yess_lead h1 (by omega) (by omega) (by omega) (by assumption) (by first | omega | (rw [hpa]; omega) | (rw [← hpa]; omega))]; first | first | done | rfl | (simp only [leadRecs]; rw [if_neg (by assumption)]; done) | (rw [endRecs_ne (by dsimp only; omega)]; rfl) | (rw [endRecs_eq rfl rfl]; done) | (rw [endRecs_eq rfl rfl]; rfl) | (rw [endRecs_eq (by dsimp only; exact leadR_term _) (by dsimp only; exact leadR_vote _)]; first | done | rfl) | (simp only [leadR, if_neg (by assumption)]; rfl) | (rw [endRecs_eq (by dsimp only; first | rfl | exact leadR_term _) (by dsimp only; first | rfl | exact leadR_vote _)]; first | done | rfl) | (rw [hpa]; first | done | rfl | (simp only [leadRecs]; rw [if_neg (by assumption)]; done) | (rw [endRecs_ne (by dsimp only; omega)]; rfl) | (rw [endRecs_eq rfl rfl]; done) | (rw [endRecs_eq rfl rfl]; rfl) | (rw [endRecs_eq (by dsimp only; exact leadR_term _) (by dsimp only; exact leadR_vote _)]; first | done | rfl) | (simp only [leadR, if_neg (by assumption)]; rfl) | (rw [endRecs_eq (by dsimp only; first | rfl | exact leadR_term _) (by dsimp only; first | rfl | exact leadR_vote _)]; first | done | rfl)) | (rw [← hpa]; first | done | rfl | (simp only [leadRecs]; rw [if_neg (by assumption)]; done) | (rw [endRecs_ne (by dsimp only; omega)]; rfl) | (rw [endRecs_eq rfl rfl]; done) | (rw [endRecs_eq rfl rfl]; rfl) | (rw [endRecs_eq (by dsimp only; exact leadR_term _) (by dsimp only; exact leadR_vote _)]; first | done | rfl) | (simp only [leadR, if_neg (by assumption)]; rfl) | (rw [endRecs_eq (by dsimp only; first | rfl | exact leadR_term _) (by dsimp only; first | rfl | exact leadR_vote _)]; first | done | rfl))) ?_
                    exact KF.m [(1181, 0), (2720, 1), (2721, 2), (2722, 3), (2760, 4), (2723, 5)] [.agg [.int .i64 ((leadR r).id), .int .i64 ((leadR r).of_), .int .i64 ((leadR r).role), .int .i64 ((leadR r).commit), .int .i64 ((leadR r).hard.term), .int .i64 ((leadR r).hard.vote), .ref 1181, .ref 2720, .ref 2721, .ref 2722], .ref 2760, .ref 2723]
                · skip
                  refine AW.skip ?_
                  refine AW.r ?_
                  refine At.a 1 ?_
                  refine At.c (impl_stepper_end_spec  (⟨r, r, [], []⟩ : Stepper) (by simp; done)) Tryz.call90 true [(1180, 0), (1181, 1), (1182, 2), (1183, 3), (1184, 4), (1185, 5), (1186, 6)] [(2760, 7)] [] trivial ?_
                  refine At.a 6 ?_
                  refine At.done rfl ?_
                  refine AW.ret ?_
                  refine ⟨_, Sub.refl _ _, ?_⟩
                  refine KF.conv (fun w => .tup [.agg [.int .i64 w.id, .int .i64 w.of_, .int .i64 w.role, .int .i64 w.commit, .int .i64 w.hard.term, .int .i64 w.hard.vote, .ref 0, .ref 1, .ref 2, .ref 3], .ref 4, .ref 5]) (fun w => [.arr 45 6 (w.hard.log.map encEnt), .arr 3 1 (w.yes.map encI), .arr 3 1 (w.next.map encI), .arr 3 1 (w.match_.map encI), .arr 47 10 (((yess r m).2.1).map encRec), .arr 51 17 (((yess r m).2.2).map encOut)]) (show (r) = ((yess r m).1) from by rw [yess_less h1 (by omega) (by omega) (by omega) (by assumption) (by first | omega | (rw [hpa]; omega) | (rw [← hpa]; omega))]; first | first | done | rfl | (simp only [leadRecs]; rw [if_neg (by assumption)]; done) | (rw [endRecs_ne (by dsimp only; omega)]; rfl) | (rw [endRecs_eq rfl rfl]; done) | (rw [endRecs_eq rfl rfl]; rfl) | (rw [endRecs_eq (by dsimp only; exact leadR_term _) (by dsimp only; exact leadR_vote _)]; first | done | rfl) | (simp only [leadR, if_neg (by assumption)]; rfl) | (rw [endRecs_eq (by dsimp only; first | rfl | exact leadR_term _) (by dsimp only; first | rfl | exact leadR_vote _)]; first | done | rfl) | (rw [hpa]; first | done | rfl | (simp only [leadRecs]; rw [if_neg (by assumption)]; done) | (rw [endRecs_ne (by dsimp only; omega)]; rfl) | (rw [endRecs_eq rfl rfl]; done) | (rw [endRecs_eq rfl rfl]; rfl) | (rw [endRecs_eq (by dsimp only; exact leadR_term _) (by dsimp only; exact leadR_vote _)]; first | done | rfl) | (simp only [leadR, if_neg (by assumption)]; rfl) | (rw [endRecs_eq (by dsimp only; first | rfl | exact leadR_term _) (by dsimp only; first | rfl | exact leadR_vote _)]; first | done | rfl)) | (rw [← hpa]; first | done | rfl | (simp only [leadRecs]; rw [if_neg (by assumption)]; done) | (rw [endRecs_ne (by dsimp only; omega)]; rfl) | (rw [endRecs_eq rfl rfl]; done) | (rw [endRecs_eq rfl rfl]; rfl) | (rw [endRecs_eq (by dsimp only; exact leadR_term _) (by dsimp only; exact leadR_vote _)]; first | done | rfl) | (simp only [leadR, if_neg (by assumption)]; rfl) | (rw [endRecs_eq (by dsimp only; first | rfl | exact leadR_term _) (by dsimp only; first | rfl | exact leadR_vote _)]; first | done | rfl))) ?_
                  refine KF.conv (fun w => .tup [.agg [.int .i64 r.id, .int .i64 r.of_, .int .i64 r.role, .int .i64 r.commit, .int .i64 r.hard.term, .int .i64 r.hard.vote, .ref 0, .ref 1, .ref 2, .ref 3], .ref 4, .ref 5]) (fun w => [.arr 45 6 (r.hard.log.map encEnt), .arr 3 1 (r.yes.map encI), .arr 3 1 (r.next.map encI), .arr 3 1 (r.match_.map encI), .arr 47 10 (w.map encRec), .arr 51 17 (((yess r m).2.2).map encOut)]) (show (endRecs (⟨r, r, [], []⟩ : Stepper)) = ((yess r m).2.1) from by rw [yess_less h1 (by omega) (by omega) (by omega) (by assumption) (by first | omega | (rw [hpa]; omega) | (rw [← hpa]; omega))]; first | first | done | rfl | (simp only [leadRecs]; rw [if_neg (by assumption)]; done) | (rw [endRecs_ne (by dsimp only; omega)]; rfl) | (rw [endRecs_eq rfl rfl]; done) | (rw [endRecs_eq rfl rfl]; rfl) | (rw [endRecs_eq (by dsimp only; exact leadR_term _) (by dsimp only; exact leadR_vote _)]; first | done | rfl) | (simp only [leadR, if_neg (by assumption)]; rfl) | (rw [endRecs_eq (by dsimp only; first | rfl | exact leadR_term _) (by dsimp only; first | rfl | exact leadR_vote _)]; first | done | rfl) | (rw [hpa]; first | done | rfl | (simp only [leadRecs]; rw [if_neg (by assumption)]; done) | (rw [endRecs_ne (by dsimp only; omega)]; rfl) | (rw [endRecs_eq rfl rfl]; done) | (rw [endRecs_eq rfl rfl]; rfl) | (rw [endRecs_eq (by dsimp only; exact leadR_term _) (by dsimp only; exact leadR_vote _)]; first | done | rfl) | (simp only [leadR, if_neg (by assumption)]; rfl) | (rw [endRecs_eq (by dsimp only; first | rfl | exact leadR_term _) (by dsimp only; first | rfl | exact leadR_vote _)]; first | done | rfl)) | (rw [← hpa]; first | done | rfl | (simp only [leadRecs]; rw [if_neg (by assumption)]; done) | (rw [endRecs_ne (by dsimp only; omega)]; rfl) | (rw [endRecs_eq rfl rfl]; done) | (rw [endRecs_eq rfl rfl]; rfl) | (rw [endRecs_eq (by dsimp only; exact leadR_term _) (by dsimp only; exact leadR_vote _)]; first | done | rfl) | (simp only [leadR, if_neg (by assumption)]; rfl) | (rw [endRecs_eq (by dsimp only; first | rfl | exact leadR_term _) (by dsimp only; first | rfl | exact leadR_vote _)]; first | done | rfl))) ?_
                  refine KF.conv (fun w => .tup [.agg [.int .i64 r.id, .int .i64 r.of_, .int .i64 r.role, .int .i64 r.commit, .int .i64 r.hard.term, .int .i64 r.hard.vote, .ref 0, .ref 1, .ref 2, .ref 3], .ref 4, .ref 5]) (fun w => [.arr 45 6 (r.hard.log.map encEnt), .arr 3 1 (r.yes.map encI), .arr 3 1 (r.next.map encI), .arr 3 1 (r.match_.map encI), .arr 47 10 ((endRecs (⟨r, r, [], []⟩ : Stepper)).map encRec), .arr 51 17 (w.map encOut)]) (show ([]) = ((yess r m).2.2) from by rw [yess_less h1 (by omega) (by omega) (by omega) (by assumption) (by first | omega | (rw [hpa]; omega) | (rw [← hpa]; omega))]; first | first | done | rfl | (simp only [leadRecs]; rw [if_neg (by assumption)]; done) | (rw [endRecs_ne (by dsimp only; omega)]; rfl) | (rw [endRecs_eq rfl rfl]; done) | (rw [endRecs_eq rfl rfl]; rfl) | (rw [endRecs_eq (by dsimp only; exact leadR_term _) (by dsimp only; exact leadR_vote _)]; first | done | rfl) | (simp only [leadR, if_neg (by assumption)]; rfl) | (rw [endRecs_eq (by dsimp only; first | rfl | exact leadR_term _) (by dsimp only; first | rfl | exact leadR_vote _)]; first | done | rfl) | (rw [hpa]; first | done | rfl | (simp only [leadRecs]; rw [if_neg (by assumption)]; done) | (rw [endRecs_ne (by dsimp only; omega)]; rfl) | (rw [endRecs_eq rfl rfl]; done) | (rw [endRecs_eq rfl rfl]; rfl) | (rw [endRecs_eq (by dsimp only; exact leadR_term _) (by dsimp only; exact leadR_vote _)]; first | done | rfl) | (simp only [leadR, if_neg (by assumption)]; rfl) | (rw [endRecs_eq (by dsimp only; first | rfl | exact leadR_term _) (by dsimp only; first | rfl | exact leadR_vote _)]; first | done | rfl)) | (rw [← hpa]; first | done | rfl | (simp only [leadRecs]; rw [if_neg (by assumption)]; done) | (rw [endRecs_ne (by dsimp only; omega)]; rfl) | (rw [endRecs_eq rfl rfl]; done) | (rw [endRecs_eq rfl rfl]; rfl) | (rw [endRecs_eq (by dsimp only; exact leadR_term _) (by dsimp only; exact leadR_vote _)]; first | done | rfl) | (simp only [leadR, if_neg (by assumption)]; rfl) | (rw [endRecs_eq (by dsimp only; first | rfl | exact leadR_term _) (by dsimp only; first | rfl | exact leadR_vote _)]; first | done | rfl))) ?_
                  exact KF.m [(1181, 0), (1182, 1), (1183, 2), (1184, 3), (2760, 4), (1186, 5)] [.agg [.int .i64 r.id, .int .i64 r.of_, .int .i64 r.role, .int .i64 r.commit, .int .i64 r.hard.term, .int .i64 r.hard.vote, .ref 1181, .ref 1182, .ref 1183, .ref 1184], .ref 2760, .ref 1186]
          · refine At.sB 36 (m.term != r.hard.term) true (sayUT h4) ?_
            refine At.a 4 ?_
            refine At.done rfl ?_
            refine AW.cond true (by kernel_rfl) (fun _ => ?_) (fun h => by cases h)
            refine AW.r ?_
            refine At.a 1 ?_
            refine At.c (impl_stepper_end_spec  (⟨r, r, [], []⟩ : Stepper) (by simp; done)) Tryz.call90 true [(1180, 0), (1181, 1), (1182, 2), (1183, 3), (1184, 4), (1185, 5), (1186, 6)] [(1840, 7)] [] trivial ?_
            refine At.a 6 ?_
            refine At.done rfl ?_
            refine AW.ret ?_
            refine ⟨_, Sub.refl _ _, ?_⟩
            refine KF.conv (fun w => .tup [.agg [.int .i64 w.id, .int .i64 w.of_, .int .i64 w.role, .int .i64 w.commit, .int .i64 w.hard.term, .int .i64 w.hard.vote, .ref 0, .ref 1, .ref 2, .ref 3], .ref 4, .ref 5]) (fun w => [.arr 45 6 (w.hard.log.map encEnt), .arr 3 1 (w.yes.map encI), .arr 3 1 (w.next.map encI), .arr 3 1 (w.match_.map encI), .arr 47 10 (((yess r m).2.1).map encRec), .arr 51 17 (((yess r m).2.2).map encOut)]) (show (r) = ((yess r m).1) from by rw [yess_not h1 (by omega) (by first | exact .inl (by omega) | exact .inr (.inl (by omega)) | exact .inr (.inr (by assumption)))]; first | done | rfl | (simp only [leadRecs]; rw [if_neg (by assumption)]; done) | (rw [endRecs_ne (by dsimp only; omega)]; rfl) | (rw [endRecs_eq rfl rfl]; done) | (rw [endRecs_eq rfl rfl]; rfl) | (rw [endRecs_eq (by dsimp only; exact leadR_term _) (by dsimp only; exact leadR_vote _)]; first | done | rfl) | (simp only [leadR, if_neg (by assumption)]; rfl) | (rw [endRecs_eq (by dsimp only; first | rfl | exact leadR_term _) (by dsimp only; first | rfl | exact leadR_vote _)]; first | done | rfl)) ?_
            refine KF.conv (fun w => .tup [.agg [.int .i64 r.id, .int .i64 r.of_, .int .i64 r.role, .int .i64 r.commit, .int .i64 r.hard.term, .int .i64 r.hard.vote, .ref 0, .ref 1, .ref 2, .ref 3], .ref 4, .ref 5]) (fun w => [.arr 45 6 (r.hard.log.map encEnt), .arr 3 1 (r.yes.map encI), .arr 3 1 (r.next.map encI), .arr 3 1 (r.match_.map encI), .arr 47 10 (w.map encRec), .arr 51 17 (((yess r m).2.2).map encOut)]) (show (endRecs (⟨r, r, [], []⟩ : Stepper)) = ((yess r m).2.1) from by rw [yess_not h1 (by omega) (by first | exact .inl (by omega) | exact .inr (.inl (by omega)) | exact .inr (.inr (by assumption)))]; first | done | rfl | (simp only [leadRecs]; rw [if_neg (by assumption)]; done) | (rw [endRecs_ne (by dsimp only; omega)]; rfl) | (rw [endRecs_eq rfl rfl]; done) | (rw [endRecs_eq rfl rfl]; rfl) | (rw [endRecs_eq (by dsimp only; exact leadR_term _) (by dsimp only; exact leadR_vote _)]; first | done | rfl) | (simp only [leadR, if_neg (by assumption)]; rfl) | (rw [endRecs_eq (by dsimp only; first | rfl | exact leadR_term _) (by dsimp only; first | rfl | exact leadR_vote _)]; first | done | rfl)) ?_
            refine KF.conv (fun w => .tup [.agg [.int .i64 r.id, .int .i64 r.of_, .int .i64 r.role, .int .i64 r.commit, .int .i64 r.hard.term, .int .i64 r.hard.vote, .ref 0, .ref 1, .ref 2, .ref 3], .ref 4, .ref 5]) (fun w => [.arr 45 6 (r.hard.log.map encEnt), .arr 3 1 (r.yes.map encI), .arr 3 1 (r.next.map encI), .arr 3 1 (r.match_.map encI), .arr 47 10 ((endRecs (⟨r, r, [], []⟩ : Stepper)).map encRec), .arr 51 17 (w.map encOut)]) (show ([]) = ((yess r m).2.2) from by rw [yess_not h1 (by omega) (by first | exact .inl (by omega) | exact .inr (.inl (by omega)) | exact .inr (.inr (by assumption)))]; first | done | rfl | (simp only [leadRecs]; rw [if_neg (by assumption)]; done) | (rw [endRecs_ne (by dsimp only; omega)]; rfl) | (rw [endRecs_eq rfl rfl]; done) | (rw [endRecs_eq rfl rfl]; rfl) | (rw [endRecs_eq (by dsimp only; exact leadR_term _) (by dsimp only; exact leadR_vote _)]; first | done | rfl) | (simp only [leadR, if_neg (by assumption)]; rfl) | (rw [endRecs_eq (by dsimp only; first | rfl | exact leadR_term _) (by dsimp only; first | rfl | exact leadR_vote _)]; first | done | rfl)) ?_
            exact KF.m [(1181, 0), (1182, 1), (1183, 2), (1184, 3), (1840, 4), (1186, 5)] [.agg [.int .i64 r.id, .int .i64 r.of_, .int .i64 r.role, .int .i64 r.commit, .int .i64 r.hard.term, .int .i64 r.hard.vote, .ref 1181, .ref 1182, .ref 1183, .ref 1184], .ref 1840, .ref 1186]
        · refine At.sB 28 (r.role != 2) true (sayUT h3) ?_
          refine At.a 12 ?_
          refine At.done rfl ?_
          refine AW.cond true (by kernel_rfl) (fun _ => ?_) (fun h => by cases h)
          refine AW.r ?_
          refine At.a 1 ?_
          refine At.c (impl_stepper_end_spec  (⟨r, r, [], []⟩ : Stepper) (by simp; done)) Tryz.call90 true [(1180, 0), (1181, 1), (1182, 2), (1183, 3), (1184, 4), (1185, 5), (1186, 6)] [(1840, 7)] [] trivial ?_
          refine At.a 6 ?_
          refine At.done rfl ?_
          refine AW.ret ?_
          refine ⟨_, Sub.refl _ _, ?_⟩
          refine KF.conv (fun w => .tup [.agg [.int .i64 w.id, .int .i64 w.of_, .int .i64 w.role, .int .i64 w.commit, .int .i64 w.hard.term, .int .i64 w.hard.vote, .ref 0, .ref 1, .ref 2, .ref 3], .ref 4, .ref 5]) (fun w => [.arr 45 6 (w.hard.log.map encEnt), .arr 3 1 (w.yes.map encI), .arr 3 1 (w.next.map encI), .arr 3 1 (w.match_.map encI), .arr 47 10 (((yess r m).2.1).map encRec), .arr 51 17 (((yess r m).2.2).map encOut)]) (show (r) = ((yess r m).1) from by rw [yess_not h1 (by omega) (by first | exact .inl (by omega) | exact .inr (.inl (by omega)) | exact .inr (.inr (by assumption)))]; first | done | rfl | (simp only [leadRecs]; rw [if_neg (by assumption)]; done) | (rw [endRecs_ne (by dsimp only; omega)]; rfl) | (rw [endRecs_eq rfl rfl]; done) | (rw [endRecs_eq rfl rfl]; rfl) | (rw [endRecs_eq (by dsimp only; exact leadR_term _) (by dsimp only; exact leadR_vote _)]; first | done | rfl) | (simp only [leadR, if_neg (by assumption)]; rfl) | (rw [endRecs_eq (by dsimp only; first | rfl | exact leadR_term _) (by dsimp only; first | rfl | exact leadR_vote _)]; first | done | rfl)) ?_
          refine KF.conv (fun w => .tup [.agg [.int .i64 r.id, .int .i64 r.of_, .int .i64 r.role, .int .i64 r.commit, .int .i64 r.hard.term, .int .i64 r.hard.vote, .ref 0, .ref 1, .ref 2, .ref 3], .ref 4, .ref 5]) (fun w => [.arr 45 6 (r.hard.log.map encEnt), .arr 3 1 (r.yes.map encI), .arr 3 1 (r.next.map encI), .arr 3 1 (r.match_.map encI), .arr 47 10 (w.map encRec), .arr 51 17 (((yess r m).2.2).map encOut)]) (show (endRecs (⟨r, r, [], []⟩ : Stepper)) = ((yess r m).2.1) from by rw [yess_not h1 (by omega) (by first | exact .inl (by omega) | exact .inr (.inl (by omega)) | exact .inr (.inr (by assumption)))]; first | done | rfl | (simp only [leadRecs]; rw [if_neg (by assumption)]; done) | (rw [endRecs_ne (by dsimp only; omega)]; rfl) | (rw [endRecs_eq rfl rfl]; done) | (rw [endRecs_eq rfl rfl]; rfl) | (rw [endRecs_eq (by dsimp only; exact leadR_term _) (by dsimp only; exact leadR_vote _)]; first | done | rfl) | (simp only [leadR, if_neg (by assumption)]; rfl) | (rw [endRecs_eq (by dsimp only; first | rfl | exact leadR_term _) (by dsimp only; first | rfl | exact leadR_vote _)]; first | done | rfl)) ?_
          refine KF.conv (fun w => .tup [.agg [.int .i64 r.id, .int .i64 r.of_, .int .i64 r.role, .int .i64 r.commit, .int .i64 r.hard.term, .int .i64 r.hard.vote, .ref 0, .ref 1, .ref 2, .ref 3], .ref 4, .ref 5]) (fun w => [.arr 45 6 (r.hard.log.map encEnt), .arr 3 1 (r.yes.map encI), .arr 3 1 (r.next.map encI), .arr 3 1 (r.match_.map encI), .arr 47 10 ((endRecs (⟨r, r, [], []⟩ : Stepper)).map encRec), .arr 51 17 (w.map encOut)]) (show ([]) = ((yess r m).2.2) from by rw [yess_not h1 (by omega) (by first | exact .inl (by omega) | exact .inr (.inl (by omega)) | exact .inr (.inr (by assumption)))]; first | done | rfl | (simp only [leadRecs]; rw [if_neg (by assumption)]; done) | (rw [endRecs_ne (by dsimp only; omega)]; rfl) | (rw [endRecs_eq rfl rfl]; done) | (rw [endRecs_eq rfl rfl]; rfl) | (rw [endRecs_eq (by dsimp only; exact leadR_term _) (by dsimp only; exact leadR_vote _)]; first | done | rfl) | (simp only [leadR, if_neg (by assumption)]; rfl) | (rw [endRecs_eq (by dsimp only; first | rfl | exact leadR_term _) (by dsimp only; first | rfl | exact leadR_vote _)]; first | done | rfl)) ?_
          exact KF.m [(1181, 0), (1182, 1), (1183, 2), (1184, 3), (1840, 4), (1186, 5)] [.agg [.int .i64 r.id, .int .i64 r.of_, .int .i64 r.role, .int .i64 r.commit, .int .i64 r.hard.term, .int .i64 r.hard.vote, .ref 1181, .ref 1182, .ref 1183, .ref 1184], .ref 1840, .ref 1186]
      · skip
        refine At.c (impl_stepper_followTerm_F_spec  (⟨r, r, [], []⟩ : Stepper) m.term h2) Tryz.call91 true [(1180, 0), (1181, 1), (1182, 2), (1183, 3), (1184, 4), (1185, 5), (1186, 6)] [(1440, 7), (1441, 8), (1442, 9)] [] trivial ?_
        refine At.a 18 ?_
        refine At.done rfl ?_
        refine AW.cond true (by kernel_rfl) (fun _ => ?_) (fun h => by cases h)
        refine AW.r ?_
        refine At.a 1 ?_
        refine At.c (impl_stepper_end_spec  (⟨⟨r.id, r.of_, 1, r.commit, ⟨m.term, 0, r.hard.log⟩, [], [], []⟩, r, [], []⟩ : Stepper) (by simp; done)) Tryz.call90 true [(1180, 0), (1181, 1), (1440, 2), (1441, 3), (1442, 4), (1185, 5), (1186, 6)] [(1840, 7)] [] trivial ?_
        refine At.a 6 ?_
        refine At.done rfl ?_
        refine AW.ret ?_
        refine ⟨_, Sub.refl _ _, ?_⟩
        refine KF.conv (fun w => .tup [.agg [.int .i64 w.id, .int .i64 w.of_, .int .i64 w.role, .int .i64 w.commit, .int .i64 w.hard.term, .int .i64 w.hard.vote, .ref 0, .ref 1, .ref 2, .ref 3], .ref 4, .ref 5]) (fun w => [.arr 45 6 (w.hard.log.map encEnt), .arr 3 1 (w.yes.map encI), .arr 3 1 (w.next.map encI), .arr 3 1 (w.match_.map encI), .arr 47 10 (((yess r m).2.1).map encRec), .arr 51 17 (((yess r m).2.2).map encOut)]) (show ((⟨r.id, r.of_, 1, r.commit, ⟨m.term, 0, r.hard.log⟩, [], [], []⟩ : Raft)) = ((yess r m).1) from by rw [yess_term h1 (by omega)]; first | done | rfl | (simp only [leadRecs]; rw [if_neg (by assumption)]; done) | (rw [endRecs_ne (by dsimp only; omega)]; rfl) | (rw [endRecs_eq rfl rfl]; done) | (rw [endRecs_eq rfl rfl]; rfl) | (rw [endRecs_eq (by dsimp only; exact leadR_term _) (by dsimp only; exact leadR_vote _)]; first | done | rfl) | (simp only [leadR, if_neg (by assumption)]; rfl) | (rw [endRecs_eq (by dsimp only; first | rfl | exact leadR_term _) (by dsimp only; first | rfl | exact leadR_vote _)]; first | done | rfl)) ?_
        refine KF.conv (fun w => .tup [.agg [.int .i64 r.id, .int .i64 r.of_, .int .i64 1, .int .i64 r.commit, .int .i64 m.term, .int .i64 0, .ref 0, .ref 1, .ref 2, .ref 3], .ref 4, .ref 5]) (fun w => [.arr 45 6 (r.hard.log.map encEnt), .arr 3 1 [], .arr 3 1 [], .arr 3 1 [], .arr 47 10 (w.map encRec), .arr 51 17 (((yess r m).2.2).map encOut)]) (show (endRecs (⟨⟨r.id, r.of_, 1, r.commit, ⟨m.term, 0, r.hard.log⟩, [], [], []⟩, r, [], []⟩ : Stepper)) = ((yess r m).2.1) from by rw [yess_term h1 (by omega)]; first | done | rfl | (simp only [leadRecs]; rw [if_neg (by assumption)]; done) | (rw [endRecs_ne (by dsimp only; omega)]; rfl) | (rw [endRecs_eq rfl rfl]; done) | (rw [endRecs_eq rfl rfl]; rfl) | (rw [endRecs_eq (by dsimp only; exact leadR_term _) (by dsimp only; exact leadR_vote _)]; first | done | rfl) | (simp only [leadR, if_neg (by assumption)]; rfl) | (rw [endRecs_eq (by dsimp only; first | rfl | exact leadR_term _) (by dsimp only; first | rfl | exact leadR_vote _)]; first | done | rfl)) ?_
        refine KF.conv (fun w => .tup [.agg [.int .i64 r.id, .int .i64 r.of_, .int .i64 1, .int .i64 r.commit, .int .i64 m.term, .int .i64 0, .ref 0, .ref 1, .ref 2, .ref 3], .ref 4, .ref 5]) (fun w => [.arr 45 6 (r.hard.log.map encEnt), .arr 3 1 [], .arr 3 1 [], .arr 3 1 [], .arr 47 10 ((endRecs (⟨⟨r.id, r.of_, 1, r.commit, ⟨m.term, 0, r.hard.log⟩, [], [], []⟩, r, [], []⟩ : Stepper)).map encRec), .arr 51 17 (w.map encOut)]) (show ([]) = ((yess r m).2.2) from by rw [yess_term h1 (by omega)]; first | done | rfl | (simp only [leadRecs]; rw [if_neg (by assumption)]; done) | (rw [endRecs_ne (by dsimp only; omega)]; rfl) | (rw [endRecs_eq rfl rfl]; done) | (rw [endRecs_eq rfl rfl]; rfl) | (rw [endRecs_eq (by dsimp only; exact leadR_term _) (by dsimp only; exact leadR_vote _)]; first | done | rfl) | (simp only [leadR, if_neg (by assumption)]; rfl) | (rw [endRecs_eq (by dsimp only; first | rfl | exact leadR_term _) (by dsimp only; first | rfl | exact leadR_vote _)]; first | done | rfl)) ?_
        exact KF.m [(1181, 0), (1440, 1), (1441, 2), (1442, 3), (1840, 4), (1186, 5)] [.agg [.int .i64 r.id, .int .i64 r.of_, .int .i64 1, .int .i64 r.commit, .int .i64 m.term, .int .i64 0, .ref 1181, .ref 1440, .ref 1441, .ref 1442], .ref 1840, .ref 1186]
  · skip
    refine AW.r ?_
    refine At.a 5 ?_
    refine At.done rfl ?_
    refine AW.seq ?_
    refine AW.weak (Sub.nils [⟨true, 104, some 6, 5001, 45, 6⟩, ⟨true, 104, some 7, 5002, 3, 1⟩, ⟨true, 104, some 8, 5003, 3, 1⟩, ⟨true, 104, some 9, 5004, 3, 1⟩] (by kernel_rfl)) ?_
    refine AW.region (At.start ?_)
    refine At.a 1 ?_
    refine At.c (impl_stepOf_spec  r (by exact hz)) Tryz.call80 true [] [(1180, 0), (1181, 1), (1182, 2), (1183, 3), (1184, 4), (1185, 5), (1186, 6)] [] trivial ?_
    refine At.a 1 ?_
    refine At.done rfl ?_
    refine AW.seq ?_
    refine AW.r ?_
    refine At.a 2 ?_
    refine At.c (impl_stepper_mayHear_spec  (⟨r, r, [], []⟩ : Stepper) m 2 (by exact hz) hm) Tryz.call85 true [(1180, 0), (1181, 1), (1182, 2), (1183, 3), (1184, 4), (1185, 5), (1186, 6)] [] [] trivial ?_
    refine At.a 1 ?_
    refine At.done rfl ?_
    refine AW.condT (!(hears r m 2)) (by kernel_rfl) (by rw [show (hears r m 2) = false from (hears_no hok)]; rfl) ?_
    refine AW.r ?_
    refine At.a 1 ?_
    refine At.c (impl_stepper_none_F_spec  (⟨r, r, [], []⟩ : Stepper) (by exact hz) hok) Tryz.call88 true [(1180, 0), (1181, 1), (1182, 2), (1183, 3), (1184, 4), (1185, 5), (1186, 6)] [(1300, 7), (1301, 8), (1302, 9), (1303, 10), (1304, 11), (1305, 12)] [] trivial ?_
    refine At.a 6 ?_
    refine At.done rfl ?_
    refine AW.ret ?_
    refine ⟨_, Sub.refl _ _, ?_⟩
    refine KF.conv (fun w => .tup [.agg [.int .i64 w.id, .int .i64 w.of_, .int .i64 w.role, .int .i64 w.commit, .int .i64 w.hard.term, .int .i64 w.hard.vote, .ref 0, .ref 1, .ref 2, .ref 3], .ref 4, .ref 5]) (fun w => [.arr 45 6 (w.hard.log.map encEnt), .arr 3 1 (w.yes.map encI), .arr 3 1 (w.next.map encI), .arr 3 1 (w.match_.map encI), .arr 47 10 (((yess r m).2.1).map encRec), .arr 51 17 (((yess r m).2.2).map encOut)]) (show ((⟨0, 0, 0, 0, ⟨0, 0, []⟩, [], [], []⟩ : Raft)) = ((yess r m).1) from by simp [yess, same, hok, hears_no hok]; try rfl) ?_
    refine KF.conv (fun w => .tup [.agg [.int .i64 0, .int .i64 0, .int .i64 0, .int .i64 0, .int .i64 0, .int .i64 0, .ref 0, .ref 1, .ref 2, .ref 3], .ref 4, .ref 5]) (fun w => [.arr 45 6 [], .arr 3 1 [], .arr 3 1 [], .arr 3 1 [], .arr 47 10 (w.map encRec), .arr 51 17 (((yess r m).2.2).map encOut)]) (show ([]) = ((yess r m).2.1) from by simp [yess, same, hok, hears_no hok]; try rfl) ?_
    refine KF.conv (fun w => .tup [.agg [.int .i64 0, .int .i64 0, .int .i64 0, .int .i64 0, .int .i64 0, .int .i64 0, .ref 0, .ref 1, .ref 2, .ref 3], .ref 4, .ref 5]) (fun w => [.arr 45 6 [], .arr 3 1 [], .arr 3 1 [], .arr 3 1 [], .arr 47 10 [], .arr 51 17 (w.map encOut)]) (show ([]) = ((yess r m).2.2) from by simp [yess, same, hok, hears_no hok]; try rfl) ?_
    exact KF.m [(1300, 0), (1301, 1), (1302, 2), (1303, 3), (1304, 4), (1305, 5)] [.agg [.int .i64 0, .int .i64 0, .int .i64 0, .int .i64 0, .int .i64 0, .int .i64 0, .ref 1300, .ref 1301, .ref 1302, .ref 1303], .ref 1304, .ref 1305]
set_option maxRecDepth 100000 in
set_option maxHeartbeats 4000000 in
theorem laws_eqCmd_spec  (a : Cmd) (b : Cmd) : FnSpec Tryz.prog 128 [.agg [.int .i64 a.kind, .int .i64 a.release, .int .i64 a.node, .int .i64 a.size, .str a.digest], .agg [.int .i64 b.kind, .int .i64 b.release, .int .i64 b.node, .int .i64 b.size, .str b.digest]] [] (.bool (cmdEq a b)) [] := by
  refine FnSpec.of 30 Tryz.func128 rfl Tryz.ntmps128 (by simp) (AW.weakK ?_)
  refine AW.r ?_
  refine At.a 3 ?_
  refine At.done rfl ?_
  refine AW.seq ?_
  refine AW.r ?_
  refine At.a 5 ?_
  refine At.done rfl ?_
  refine AW.cU a.kind b.kind (fun h1 => ?_) (fun h1 => ?_)
  · skip
    refine AW.r ?_
    refine At.a 1 ?_
    refine At.done rfl ?_
    refine AW.ret ?_
    refine ⟨_, Sub.refl _ _, ?_⟩
    refine KF.conv (fun w => .bool w) (fun w => []) (show (false) = (cmdEq a b) from by simp [cmdEq, *]) ?_
    exact KF.m [] [.bool false]
  · skip
    refine AW.skip ?_
    refine AW.seq ?_
    refine AW.r ?_
    refine At.a 5 ?_
    refine At.done rfl ?_
    refine AW.cU a.release b.release (fun h2 => ?_) (fun h2 => ?_)
    · skip
      refine AW.r ?_
      refine At.a 1 ?_
      refine At.done rfl ?_
      refine AW.ret ?_
      refine ⟨_, Sub.refl _ _, ?_⟩
      refine KF.conv (fun w => .bool w) (fun w => []) (show (false) = (cmdEq a b) from by simp [cmdEq, *]) ?_
      exact KF.m [] [.bool false]
    · skip
      refine AW.skip ?_
      refine AW.seq ?_
      refine AW.r ?_
      refine At.a 5 ?_
      refine At.done rfl ?_
      refine AW.cU a.node b.node (fun h3 => ?_) (fun h3 => ?_)
      · skip
        refine AW.r ?_
        refine At.a 1 ?_
        refine At.done rfl ?_
        refine AW.ret ?_
        refine ⟨_, Sub.refl _ _, ?_⟩
        refine KF.conv (fun w => .bool w) (fun w => []) (show (false) = (cmdEq a b) from by simp [cmdEq, *]) ?_
        exact KF.m [] [.bool false]
      · skip
        refine AW.skip ?_
        refine AW.seq ?_
        refine AW.r ?_
        refine At.a 5 ?_
        refine At.done rfl ?_
        refine AW.cU a.size b.size (fun h4 => ?_) (fun h4 => ?_)
        · skip
          refine AW.r ?_
          refine At.a 1 ?_
          refine At.done rfl ?_
          refine AW.ret ?_
          refine ⟨_, Sub.refl _ _, ?_⟩
          refine KF.conv (fun w => .bool w) (fun w => []) (show (false) = (cmdEq a b) from by simp [cmdEq, *]) ?_
          exact KF.m [] [.bool false]
        · skip
          refine AW.skip ?_
          refine AW.seq ?_
          refine AW.r ?_
          refine At.a 5 ?_
          refine At.done rfl ?_
          refine AW.cNE (a.digest.toList) (b.digest.toList) (fun h5 => ?_) (fun h5 => ?_)
          · skip
            refine AW.r ?_
            refine At.a 1 ?_
            refine At.done rfl ?_
            refine AW.ret ?_
            refine ⟨_, Sub.refl _ _, ?_⟩
            refine KF.conv (fun w => .bool w) (fun w => []) (show (false) = (cmdEq a b) from by simp [cmdEq, *]) ?_
            exact KF.m [] [.bool false]
          · skip
            refine AW.skip ?_
            refine AW.r ?_
            refine At.a 1 ?_
            refine At.done rfl ?_
            refine AW.ret ?_
            refine ⟨_, Sub.refl _ _, ?_⟩
            refine KF.conv (fun w => .bool w) (fun w => []) (show (true) = (cmdEq a b) from by simp [cmdEq, *]) ?_
            exact KF.m [] [.bool true]
set_option maxRecDepth 100000 in
set_option maxHeartbeats 4000000 in
theorem laws_eqEntry_spec  (a : Ent) (b : Ent) : FnSpec Tryz.prog 166 [.agg [.int .i64 a.term, .int .i64 a.cmd.kind, .int .i64 a.cmd.release, .int .i64 a.cmd.node, .int .i64 a.cmd.size, .str a.cmd.digest], .agg [.int .i64 b.term, .int .i64 b.cmd.kind, .int .i64 b.cmd.release, .int .i64 b.cmd.node, .int .i64 b.cmd.size, .str b.cmd.digest]] [] (.bool (entEq a b)) [] := by
  refine FnSpec.of 16 Tryz.func166 rfl Tryz.ntmps166 (by simp) (AW.weakK ?_)
  refine AW.r ?_
  refine At.a 3 ?_
  refine At.done rfl ?_
  refine AW.seq ?_
  refine AW.r ?_
  refine At.a 5 ?_
  refine At.done rfl ?_
  refine AW.cU a.term b.term (fun h1 => ?_) (fun h1 => ?_)
  · skip
    refine AW.r ?_
    refine At.a 1 ?_
    refine At.done rfl ?_
    refine AW.ret ?_
    refine ⟨_, Sub.refl _ _, ?_⟩
    refine KF.conv (fun w => .bool w) (fun w => []) (show (false) = (entEq a b) from by simp [entEq, *]) ?_
    exact KF.m [] [.bool false]
  · skip
    refine AW.skip ?_
    refine AW.seq ?_
    refine AW.r ?_
    refine At.a 4 ?_
    refine At.c (laws_eqCmd_spec  a.cmd b.cmd ) Tryz.call128 true [] [] [] trivial ?_
    refine At.a 1 ?_
    refine At.done rfl ?_
    refine AW.cNB (cmdEq a.cmd b.cmd) (fun h2 => ?_) (fun h2 => ?_)
    · skip
      refine AW.r ?_
      refine At.a 1 ?_
      refine At.done rfl ?_
      refine AW.ret ?_
      refine ⟨_, Sub.refl _ _, ?_⟩
      refine KF.conv (fun w => .bool w) (fun w => []) (show (false) = (entEq a b) from by simp [entEq, *]) ?_
      exact KF.m [] [.bool false]
    · skip
      refine AW.skip ?_
      refine AW.r ?_
      refine At.a 1 ?_
      refine At.done rfl ?_
      refine AW.ret ?_
      refine ⟨_, Sub.refl _ _, ?_⟩
      refine KF.conv (fun w => .bool w) (fun w => []) (show (true) = (entEq a b) from by simp [entEq, *]) ?_
      exact KF.m [] [.bool true]
set_option maxRecDepth 100000 in
set_option maxHeartbeats 4000000 in
theorem laws_eqEntryS_spec  (a : List Ent) (b : List Ent) (ha : a.length ≤ 1048576) (hb : b.length ≤ 1048576) : FnSpec Tryz.prog 129 [.sl false 6 (a.map encEnt), .sl false 6 (b.map encEnt)] [] (.bool (listEq entEq a b)) [] := by
  refine FnSpec.of 27 Tryz.func129 rfl Tryz.ntmps129 (by simp) (AW.weakK ?_)
  refine AW.r ?_
  refine At.a 1 ?_
  refine At.done rfl ?_
  refine AW.seq ?_
  refine AW.r ?_
  refine At.a 2 ?_
  refine At.sL 7 encEnt a ?_
  refine At.a 2 ?_
  refine At.sL 9 encEnt b ?_
  refine At.a 1 ?_
  refine At.done rfl ?_
  refine AW.cU (a.length : Int) (b.length : Int) (fun h1 => ?_) (fun h1 => ?_)
  · skip
    refine AW.r ?_
    refine At.a 1 ?_
    refine At.done rfl ?_
    refine AW.ret ?_
    refine ⟨_, Sub.refl _ _, ?_⟩
    refine KF.conv (fun w => .bool w) (fun w => []) (show (false) = (listEq entEq a b) from by rw [listEq_len (by omega)]) ?_
    exact KF.m [] [.bool false]
  · skip
    refine AW.skip ?_
    refine AW.seq ?_
    refine AW.r ?_
    refine At.a 1 ?_
    refine At.done rfl ?_
    refine AW.block ?_
    refine AW.loopW (fun (k : Nat) => Go.Sy.mk [.sl false 6 (a.map encEnt), .sl false 6 (b.map encEnt), .un, .un, .un, .int .i64 (k : Int)] []) (fun (k : Nat) => k ≤ a.length ∧ listEq entEq a b = listEq entEq (a.drop k) (b.drop k)) (fun (k : Nat) => a.length - k) 0 ⟨by omega, by rw [List.drop_zero, List.drop_zero]⟩ (Sub.o [] [true, true, false, false, false, true]) ?_
    rintro k ⟨hk, hR⟩
    refine AW.seq ?_
    refine AW.r ?_
    refine At.a 3 ?_
    refine At.sL 13 encEnt a ?_
    refine At.a 1 ?_
    refine At.done rfl ?_
    refine AW.cD ((k : Int) < (a.length : Int)) (fun h2 => ?_) (fun h2 => ?_)
    · skip
      refine AW.skip ?_
      refine AW.seq ?_
      refine AW.block ?_
      refine AW.seq ?_
      refine AW.regionD Tryz_mix (At.start ?_)
      refine At.a 2 ?_
      refine At.iSl 24 19 (.tmp 17) (.tmp 18) false 6 (a.map encEnt) .i64 (k : Int) 45 (by omega) (by simp only [List.length_map, List.length_append, List.length_take, List.length_drop, List.length_replicate, List.length_set, List.length_cons, List.length_nil]; omega) ?_
      refine Exists.elim (show ∃ e, a[k]? = some e from ⟨_, List.getElem?_eq_getElem (by omega)⟩) fun e1 he1 => ?_
      refine At.lVp 45 20 (.tmp 19) false 6 (a.map encEnt) k 0 true 6 (encEnt e1) (.agg [.int .i64 e1.term, .int .i64 e1.cmd.kind, .int .i64 e1.cmd.release, .int .i64 e1.cmd.node, .int .i64 e1.cmd.size, .str e1.cmd.digest]) (mapGet he1) ?_
      refine At.a 2 ?_
      refine At.iSl 24 23 (.tmp 21) (.tmp 22) false 6 (b.map encEnt) .i64 (k : Int) 45 (by omega) (by simp only [List.length_map, List.length_append, List.length_take, List.length_drop, List.length_replicate, List.length_set, List.length_cons, List.length_nil]; omega) ?_
      refine Exists.elim (show ∃ e, b[k]? = some e from ⟨_, List.getElem?_eq_getElem (by omega)⟩) fun e2 he2 => ?_
      refine At.lVp 45 24 (.tmp 23) false 6 (b.map encEnt) k 0 true 6 (encEnt e2) (.agg [.int .i64 e2.term, .int .i64 e2.cmd.kind, .int .i64 e2.cmd.release, .int .i64 e2.cmd.node, .int .i64 e2.cmd.size, .str e2.cmd.digest]) (mapGet he2) ?_
      refine At.c (laws_eqEntry_spec  e1 e2 ) Tryz.call166 true [] [] [] trivial ?_
      refine At.a 1 ?_
      refine At.done rfl ⟨by kernel_rfl, ?_⟩
      refine AW.cNB (entEq e1 e2) (fun h3 => ?_) (fun h3 => ?_)
      · skip
        refine AW.r ?_
        refine At.a 1 ?_
        refine At.done rfl ?_
        refine AW.ret ?_
        refine ⟨_, Sub.refl _ _, ?_⟩
        refine KF.conv (fun w => .bool w) (fun w => []) (show (false) = (listEq entEq a b) from by rw [hR, dropCons he1, dropCons he2, listEq]; simp [eqI, *]) ?_
        exact KF.m [] [.bool false]
      · skip
        refine AW.skip ?_
        refine AW.region (At.start ?_)
        refine At.a 2 ?_
        refine At.sI 16 ((k : Int) + 1) (by omega) ?_
        refine At.a 1 ?_
        refine At.done rfl ?_
        exact ⟨k + 1, ⟨by omega, by rw [hR, dropCons he1, dropCons he2, listEq]; simp [eqI, *]⟩, (by omega), Sub.o [] [true, true, false, false, false, true]⟩
    · skip
      refine AW.exit ?_
      refine AW.r ?_
      refine At.a 1 ?_
      refine At.done rfl ?_
      refine AW.ret ?_
      refine ⟨_, Sub.refl _ _, ?_⟩
      refine KF.conv (fun w => .bool w) (fun w => []) (show (true) = (listEq entEq a b) from by rw [hR, List.drop_of_length_le (by omega), List.drop_of_length_le (by omega)]; rfl) ?_
      exact KF.m [] [.bool true]
set_option maxRecDepth 100000 in
set_option maxHeartbeats 4000000 in
theorem laws_eqHard_spec  (a : Hard) (b : Hard) (ha : a.log.length ≤ 1048576) (hb : b.log.length ≤ 1048576) : FnSpec Tryz.prog 124 [.agg [.int .i64 a.term, .int .i64 a.vote, .sl false 6 (a.log.map encEnt)], .agg [.int .i64 b.term, .int .i64 b.vote, .sl false 6 (b.log.map encEnt)]] [] (.bool (hardEq a b)) [] := by
  refine FnSpec.of 21 Tryz.func124 rfl Tryz.ntmps124 (by simp) (AW.weakK ?_)
  refine AW.r ?_
  refine At.a 3 ?_
  refine At.done rfl ?_
  refine AW.seq ?_
  refine AW.r ?_
  refine At.a 5 ?_
  refine At.done rfl ?_
  refine AW.cU a.term b.term (fun h1 => ?_) (fun h1 => ?_)
  · skip
    refine AW.r ?_
    refine At.a 1 ?_
    refine At.done rfl ?_
    refine AW.ret ?_
    refine ⟨_, Sub.refl _ _, ?_⟩
    refine KF.conv (fun w => .bool w) (fun w => []) (show (false) = (hardEq a b) from by simp [hardEq, *]) ?_
    exact KF.m [] [.bool false]
  · skip
    refine AW.skip ?_
    refine AW.seq ?_
    refine AW.r ?_
    refine At.a 5 ?_
    refine At.done rfl ?_
    refine AW.cU a.vote b.vote (fun h2 => ?_) (fun h2 => ?_)
    · skip
      refine AW.r ?_
      refine At.a 1 ?_
      refine At.done rfl ?_
      refine AW.ret ?_
      refine ⟨_, Sub.refl _ _, ?_⟩
      refine KF.conv (fun w => .bool w) (fun w => []) (show (false) = (hardEq a b) from by simp [hardEq, *]) ?_
      exact KF.m [] [.bool false]
    · skip
      refine AW.skip ?_
      refine AW.seq ?_
      refine AW.r ?_
      refine At.a 4 ?_
      refine At.c (laws_eqEntryS_spec  a.log b.log (by omega) (by omega)) Tryz.call129 true [] [] [] trivial ?_
      refine At.a 1 ?_
      refine At.done rfl ?_
      refine AW.cNB (listEq entEq a.log b.log) (fun h3 => ?_) (fun h3 => ?_)
      · skip
        refine AW.r ?_
        refine At.a 1 ?_
        refine At.done rfl ?_
        refine AW.ret ?_
        refine ⟨_, Sub.refl _ _, ?_⟩
        refine KF.conv (fun w => .bool w) (fun w => []) (show (false) = (hardEq a b) from by simp [hardEq, *]) ?_
        exact KF.m [] [.bool false]
      · skip
        refine AW.skip ?_
        refine AW.r ?_
        refine At.a 1 ?_
        refine At.done rfl ?_
        refine AW.ret ?_
        refine ⟨_, Sub.refl _ _, ?_⟩
        refine KF.conv (fun w => .bool w) (fun w => []) (show (true) = (hardEq a b) from by simp [hardEq, *]) ?_
        exact KF.m [] [.bool true]
set_option maxRecDepth 100000 in
set_option maxHeartbeats 4000000 in
theorem laws_eqIntS_spec  (a : List Int) (b : List Int) (ha : a.length ≤ 1048576) (hb : b.length ≤ 1048576) : FnSpec Tryz.prog 125 [.sl false 1 (a.map encI), .sl false 1 (b.map encI)] [] (.bool (listEq eqI a b)) [] := by
  refine FnSpec.of 26 Tryz.func125 rfl Tryz.ntmps125 (by simp) (AW.weakK ?_)
  refine AW.r ?_
  refine At.a 1 ?_
  refine At.done rfl ?_
  refine AW.seq ?_
  refine AW.r ?_
  refine At.a 2 ?_
  refine At.sL 7 encI a ?_
  refine At.a 2 ?_
  refine At.sL 9 encI b ?_
  refine At.a 1 ?_
  refine At.done rfl ?_
  refine AW.cU (a.length : Int) (b.length : Int) (fun h1 => ?_) (fun h1 => ?_)
  · skip
    refine AW.r ?_
    refine At.a 1 ?_
    refine At.done rfl ?_
    refine AW.ret ?_
    refine ⟨_, Sub.refl _ _, ?_⟩
    refine KF.conv (fun w => .bool w) (fun w => []) (show (false) = (listEq eqI a b) from by rw [listEq_len (by omega)]) ?_
    exact KF.m [] [.bool false]
  · skip
    refine AW.skip ?_
    refine AW.seq ?_
    refine AW.r ?_
    refine At.a 1 ?_
    refine At.done rfl ?_
    refine AW.block ?_
    refine AW.loopW (fun (k : Nat) => Go.Sy.mk [.sl false 1 (a.map encI), .sl false 1 (b.map encI), .un, .un, .un, .int .i64 (k : Int)] []) (fun (k : Nat) => k ≤ a.length ∧ listEq eqI a b = listEq eqI (a.drop k) (b.drop k)) (fun (k : Nat) => a.length - k) 0 ⟨by omega, by rw [List.drop_zero, List.drop_zero]⟩ (Sub.o [] [true, true, false, false, false, true]) ?_
    rintro k ⟨hk, hR⟩
    refine AW.seq ?_
    refine AW.r ?_
    refine At.a 3 ?_
    refine At.sL 13 encI a ?_
    refine At.a 1 ?_
    refine At.done rfl ?_
    refine AW.cD ((k : Int) < (a.length : Int)) (fun h2 => ?_) (fun h2 => ?_)
    · skip
      refine AW.skip ?_
      refine AW.seq ?_
      refine AW.block ?_
      refine AW.seq ?_
      refine AW.regionD Tryz_mix (At.start ?_)
      refine At.a 2 ?_
      refine At.iSl 27 19 (.tmp 17) (.tmp 18) false 1 (a.map encI) .i64 (k : Int) 3 (by omega) (by simp only [List.length_map, List.length_append, List.length_take, List.length_drop, List.length_replicate, List.length_set, List.length_cons, List.length_nil]; omega) ?_
      refine Exists.elim (show ∃ e, a[k]? = some e from ⟨_, List.getElem?_eq_getElem (by omega)⟩) fun e1 he1 => ?_
      refine At.lVp 3 20 (.tmp 19) false 1 (a.map encI) k 0 false 1 (encI e1) (.int .i64 e1) (mapGet he1) ?_
      refine At.a 2 ?_
      refine At.iSl 27 23 (.tmp 21) (.tmp 22) false 1 (b.map encI) .i64 (k : Int) 3 (by omega) (by simp only [List.length_map, List.length_append, List.length_take, List.length_drop, List.length_replicate, List.length_set, List.length_cons, List.length_nil]; omega) ?_
      refine Exists.elim (show ∃ e, b[k]? = some e from ⟨_, List.getElem?_eq_getElem (by omega)⟩) fun e2 he2 => ?_
      refine At.lVp 3 24 (.tmp 23) false 1 (b.map encI) k 0 false 1 (encI e2) (.int .i64 e2) (mapGet he2) ?_
      refine At.a 1 ?_
      refine At.done rfl ⟨by kernel_rfl, ?_⟩
      refine AW.cU e1 e2 (fun h3 => ?_) (fun h3 => ?_)
      · skip
        refine AW.r ?_
        refine At.a 1 ?_
        refine At.done rfl ?_
        refine AW.ret ?_
        refine ⟨_, Sub.refl _ _, ?_⟩
        refine KF.conv (fun w => .bool w) (fun w => []) (show (false) = (listEq eqI a b) from by rw [hR, dropCons he1, dropCons he2, listEq]; simp [eqI, *]) ?_
        exact KF.m [] [.bool false]
      · skip
        refine AW.skip ?_
        refine AW.region (At.start ?_)
        refine At.a 2 ?_
        refine At.sI 16 ((k : Int) + 1) (by omega) ?_
        refine At.a 1 ?_
        refine At.done rfl ?_
        exact ⟨k + 1, ⟨by omega, by rw [hR, dropCons he1, dropCons he2, listEq]; simp [eqI, *]⟩, (by omega), Sub.o [] [true, true, false, false, false, true]⟩
    · skip
      refine AW.exit ?_
      refine AW.r ?_
      refine At.a 1 ?_
      refine At.done rfl ?_
      refine AW.ret ?_
      refine ⟨_, Sub.refl _ _, ?_⟩
      refine KF.conv (fun w => .bool w) (fun w => []) (show (true) = (listEq eqI a b) from by rw [hR, List.drop_of_length_le (by omega), List.drop_of_length_le (by omega)]; rfl) ?_
      exact KF.m [] [.bool true]
set_option maxRecDepth 100000 in
set_option maxHeartbeats 4000000 in
theorem laws_eqRaft_spec  (a : Raft) (b : Raft) (ha : SmallR a) (hb : SmallR b) : FnSpec Tryz.prog 42 [.agg [.int .i64 a.id, .int .i64 a.of_, .int .i64 a.role, .int .i64 a.commit, .int .i64 a.hard.term, .int .i64 a.hard.vote, .sl false 6 (a.hard.log.map encEnt), .sl false 1 (a.yes.map encI), .sl false 1 (a.next.map encI), .sl false 1 (a.match_.map encI)], .agg [.int .i64 b.id, .int .i64 b.of_, .int .i64 b.role, .int .i64 b.commit, .int .i64 b.hard.term, .int .i64 b.hard.vote, .sl false 6 (b.hard.log.map encEnt), .sl false 1 (b.yes.map encI), .sl false 1 (b.next.map encI), .sl false 1 (b.match_.map encI)]] [] (.bool (raftEq a b)) [] := by
  obtain ⟨z1, z2, z3, z4⟩ := id ha
  obtain ⟨y1, y2, y3, y4⟩ := id hb
  refine FnSpec.of 49 Tryz.func42 rfl Tryz.ntmps42 (by simp) (AW.weakK ?_)
  refine AW.r ?_
  refine At.a 3 ?_
  refine At.done rfl ?_
  refine AW.seq ?_
  refine AW.r ?_
  refine At.a 5 ?_
  refine At.done rfl ?_
  refine AW.cU a.id b.id (fun h1 => ?_) (fun h1 => ?_)
  · skip
    refine AW.r ?_
    refine At.a 1 ?_
    refine At.done rfl ?_
    refine AW.ret ?_
    refine ⟨_, Sub.refl _ _, ?_⟩
    refine KF.conv (fun w => .bool w) (fun w => []) (show (false) = (raftEq a b) from by simp [raftEq, h1]) ?_
    exact KF.m [] [.bool false]
  · skip
    refine AW.skip ?_
    refine AW.seq ?_
    refine AW.r ?_
    refine At.a 5 ?_
    refine At.done rfl ?_
    refine AW.cU a.of_ b.of_ (fun h2 => ?_) (fun h2 => ?_)
    · skip
      refine AW.r ?_
      refine At.a 1 ?_
      refine At.done rfl ?_
      refine AW.ret ?_
      refine ⟨_, Sub.refl _ _, ?_⟩
      refine KF.conv (fun w => .bool w) (fun w => []) (show (false) = (raftEq a b) from by simp [raftEq, h1, h2]) ?_
      exact KF.m [] [.bool false]
    · skip
      refine AW.skip ?_
      refine AW.seq ?_
      refine AW.r ?_
      refine At.a 5 ?_
      refine At.done rfl ?_
      refine AW.cU a.role b.role (fun h3 => ?_) (fun h3 => ?_)
      · skip
        refine AW.r ?_
        refine At.a 1 ?_
        refine At.done rfl ?_
        refine AW.ret ?_
        refine ⟨_, Sub.refl _ _, ?_⟩
        refine KF.conv (fun w => .bool w) (fun w => []) (show (false) = (raftEq a b) from by simp [raftEq, h1, h2, h3]) ?_
        exact KF.m [] [.bool false]
      · skip
        refine AW.skip ?_
        refine AW.seq ?_
        refine AW.r ?_
        refine At.a 5 ?_
        refine At.done rfl ?_
        refine AW.cU a.commit b.commit (fun h4 => ?_) (fun h4 => ?_)
        · skip
          refine AW.r ?_
          refine At.a 1 ?_
          refine At.done rfl ?_
          refine AW.ret ?_
          refine ⟨_, Sub.refl _ _, ?_⟩
          refine KF.conv (fun w => .bool w) (fun w => []) (show (false) = (raftEq a b) from by simp [raftEq, h1, h2, h3, h4]) ?_
          exact KF.m [] [.bool false]
        · skip
          refine AW.skip ?_
          refine AW.seq ?_
          refine AW.r ?_
          refine At.a 4 ?_
          refine At.c (laws_eqHard_spec  a.hard b.hard (by omega) (by omega)) Tryz.call124 true [] [] [] trivial ?_
          refine At.a 1 ?_
          refine At.done rfl ?_
          refine AW.cNB (hardEq a.hard b.hard) (fun h5 => ?_) (fun h5 => ?_)
          · skip
            refine AW.r ?_
            refine At.a 1 ?_
            refine At.done rfl ?_
            refine AW.ret ?_
            refine ⟨_, Sub.refl _ _, ?_⟩
            refine KF.conv (fun w => .bool w) (fun w => []) (show (false) = (raftEq a b) from by simp [raftEq, h1, h2, h3, h4, h5]) ?_
            exact KF.m [] [.bool false]
          · skip
            refine AW.skip ?_
            refine AW.seq ?_
            refine AW.r ?_
            refine At.a 4 ?_
            refine At.c (laws_eqIntS_spec  a.yes b.yes (by omega) (by omega)) Tryz.call125 true [] [] [] trivial ?_
            refine At.a 1 ?_
            refine At.done rfl ?_
            refine AW.cNB (listEq eqI a.yes b.yes) (fun h6 => ?_) (fun h6 => ?_)
            · skip
              refine AW.r ?_
              refine At.a 1 ?_
              refine At.done rfl ?_
              refine AW.ret ?_
              refine ⟨_, Sub.refl _ _, ?_⟩
              refine KF.conv (fun w => .bool w) (fun w => []) (show (false) = (raftEq a b) from by simp [raftEq, h1, h2, h3, h4, h5, h6]) ?_
              exact KF.m [] [.bool false]
            · skip
              refine AW.skip ?_
              refine AW.seq ?_
              refine AW.r ?_
              refine At.a 4 ?_
              refine At.c (laws_eqIntS_spec  a.next b.next (by omega) (by omega)) Tryz.call125 true [] [] [] trivial ?_
              refine At.a 1 ?_
              refine At.done rfl ?_
              refine AW.cNB (listEq eqI a.next b.next) (fun h7 => ?_) (fun h7 => ?_)
              · skip
                refine AW.r ?_
                refine At.a 1 ?_
                refine At.done rfl ?_
                refine AW.ret ?_
                refine ⟨_, Sub.refl _ _, ?_⟩
                refine KF.conv (fun w => .bool w) (fun w => []) (show (false) = (raftEq a b) from by simp [raftEq, h1, h2, h3, h4, h5, h6, h7]) ?_
                exact KF.m [] [.bool false]
              · skip
                refine AW.skip ?_
                refine AW.seq ?_
                refine AW.r ?_
                refine At.a 4 ?_
                refine At.c (laws_eqIntS_spec  a.match_ b.match_ (by omega) (by omega)) Tryz.call125 true [] [] [] trivial ?_
                refine At.a 1 ?_
                refine At.done rfl ?_
                refine AW.cNB (listEq eqI a.match_ b.match_) (fun h8 => ?_) (fun h8 => ?_)
                · skip
                  refine AW.r ?_
                  refine At.a 1 ?_
                  refine At.done rfl ?_
                  refine AW.ret ?_
                  refine ⟨_, Sub.refl _ _, ?_⟩
                  refine KF.conv (fun w => .bool w) (fun w => []) (show (false) = (raftEq a b) from by simp [raftEq, h1, h2, h3, h4, h5, h6, h7, h8]) ?_
                  exact KF.m [] [.bool false]
                · skip
                  refine AW.skip ?_
                  refine AW.r ?_
                  refine At.a 1 ?_
                  refine At.done rfl ?_
                  refine AW.ret ?_
                  refine ⟨_, Sub.refl _ _, ?_⟩
                  refine KF.conv (fun w => .bool w) (fun w => []) (show (true) = (raftEq a b) from by simp [raftEq, h1, h2, h3, h4, h5, h6, h7, h8]) ?_
                  exact KF.m [] [.bool true]
set_option maxRecDepth 100000 in
set_option maxHeartbeats 4000000 in
theorem laws_eqRec_spec  (a : Rec) (b : Rec) : FnSpec Tryz.prog 126 [.agg [.int .i64 a.kind, .int .i64 a.term, .int .i64 a.vote, .int .i64 a.at_, .int .i64 a.entry.term, .int .i64 a.entry.cmd.kind, .int .i64 a.entry.cmd.release, .int .i64 a.entry.cmd.node, .int .i64 a.entry.cmd.size, .str a.entry.cmd.digest], .agg [.int .i64 b.kind, .int .i64 b.term, .int .i64 b.vote, .int .i64 b.at_, .int .i64 b.entry.term, .int .i64 b.entry.cmd.kind, .int .i64 b.entry.cmd.release, .int .i64 b.entry.cmd.node, .int .i64 b.entry.cmd.size, .str b.entry.cmd.digest]] [] (.bool (recEq a b)) [] := by
  refine FnSpec.of 31 Tryz.func126 rfl Tryz.ntmps126 (by simp) (AW.weakK ?_)
  refine AW.r ?_
  refine At.a 3 ?_
  refine At.done rfl ?_
  refine AW.seq ?_
  refine AW.r ?_
  refine At.a 5 ?_
  refine At.done rfl ?_
  refine AW.cU a.kind b.kind (fun h1 => ?_) (fun h1 => ?_)
  · skip
    refine AW.r ?_
    refine At.a 1 ?_
    refine At.done rfl ?_
    refine AW.ret ?_
    refine ⟨_, Sub.refl _ _, ?_⟩
    refine KF.conv (fun w => .bool w) (fun w => []) (show (false) = (recEq a b) from by simp [recEq, *]) ?_
    exact KF.m [] [.bool false]
  · skip
    refine AW.skip ?_
    refine AW.seq ?_
    refine AW.r ?_
    refine At.a 5 ?_
    refine At.done rfl ?_
    refine AW.cU a.term b.term (fun h2 => ?_) (fun h2 => ?_)
    · skip
      refine AW.r ?_
      refine At.a 1 ?_
      refine At.done rfl ?_
      refine AW.ret ?_
      refine ⟨_, Sub.refl _ _, ?_⟩
      refine KF.conv (fun w => .bool w) (fun w => []) (show (false) = (recEq a b) from by simp [recEq, *]) ?_
      exact KF.m [] [.bool false]
    · skip
      refine AW.skip ?_
      refine AW.seq ?_
      refine AW.r ?_
      refine At.a 5 ?_
      refine At.done rfl ?_
      refine AW.cU a.vote b.vote (fun h3 => ?_) (fun h3 => ?_)
      · skip
        refine AW.r ?_
        refine At.a 1 ?_
        refine At.done rfl ?_
        refine AW.ret ?_
        refine ⟨_, Sub.refl _ _, ?_⟩
        refine KF.conv (fun w => .bool w) (fun w => []) (show (false) = (recEq a b) from by simp [recEq, *]) ?_
        exact KF.m [] [.bool false]
      · skip
        refine AW.skip ?_
        refine AW.seq ?_
        refine AW.r ?_
        refine At.a 5 ?_
        refine At.done rfl ?_
        refine AW.cU a.at_ b.at_ (fun h4 => ?_) (fun h4 => ?_)
        · skip
          refine AW.r ?_
          refine At.a 1 ?_
          refine At.done rfl ?_
          refine AW.ret ?_
          refine ⟨_, Sub.refl _ _, ?_⟩
          refine KF.conv (fun w => .bool w) (fun w => []) (show (false) = (recEq a b) from by simp [recEq, *]) ?_
          exact KF.m [] [.bool false]
        · skip
          refine AW.skip ?_
          refine AW.seq ?_
          refine AW.r ?_
          refine At.a 4 ?_
          refine At.c (laws_eqEntry_spec  a.entry b.entry ) Tryz.call166 true [] [] [] trivial ?_
          refine At.a 1 ?_
          refine At.done rfl ?_
          refine AW.cNB (entEq a.entry b.entry) (fun h5 => ?_) (fun h5 => ?_)
          · skip
            refine AW.r ?_
            refine At.a 1 ?_
            refine At.done rfl ?_
            refine AW.ret ?_
            refine ⟨_, Sub.refl _ _, ?_⟩
            refine KF.conv (fun w => .bool w) (fun w => []) (show (false) = (recEq a b) from by simp [recEq, *]) ?_
            exact KF.m [] [.bool false]
          · skip
            refine AW.skip ?_
            refine AW.r ?_
            refine At.a 1 ?_
            refine At.done rfl ?_
            refine AW.ret ?_
            refine ⟨_, Sub.refl _ _, ?_⟩
            refine KF.conv (fun w => .bool w) (fun w => []) (show (true) = (recEq a b) from by simp [recEq, *]) ?_
            exact KF.m [] [.bool true]
set_option maxRecDepth 100000 in
set_option maxHeartbeats 4000000 in
theorem laws_eqRecS_spec  (a : List Rec) (b : List Rec) (ha : a.length ≤ 1048576) (hb : b.length ≤ 1048576) : FnSpec Tryz.prog 43 [.sl false 10 (a.map encRec), .sl false 10 (b.map encRec)] [] (.bool (listEq recEq a b)) [] := by
  refine FnSpec.of 27 Tryz.func43 rfl Tryz.ntmps43 (by simp) (AW.weakK ?_)
  refine AW.r ?_
  refine At.a 1 ?_
  refine At.done rfl ?_
  refine AW.seq ?_
  refine AW.r ?_
  refine At.a 2 ?_
  refine At.sL 7 encRec a ?_
  refine At.a 2 ?_
  refine At.sL 9 encRec b ?_
  refine At.a 1 ?_
  refine At.done rfl ?_
  refine AW.cU (a.length : Int) (b.length : Int) (fun h1 => ?_) (fun h1 => ?_)
  · skip
    refine AW.r ?_
    refine At.a 1 ?_
    refine At.done rfl ?_
    refine AW.ret ?_
    refine ⟨_, Sub.refl _ _, ?_⟩
    refine KF.conv (fun w => .bool w) (fun w => []) (show (false) = (listEq recEq a b) from by rw [listEq_len (by omega)]) ?_
    exact KF.m [] [.bool false]
  · skip
    refine AW.skip ?_
    refine AW.seq ?_
    refine AW.r ?_
    refine At.a 1 ?_
    refine At.done rfl ?_
    refine AW.block ?_
    refine AW.loopW (fun (k : Nat) => Go.Sy.mk [.sl false 10 (a.map encRec), .sl false 10 (b.map encRec), .un, .un, .un, .int .i64 (k : Int)] []) (fun (k : Nat) => k ≤ a.length ∧ listEq recEq a b = listEq recEq (a.drop k) (b.drop k)) (fun (k : Nat) => a.length - k) 0 ⟨by omega, by rw [List.drop_zero, List.drop_zero]⟩ (Sub.o [] [true, true, false, false, false, true]) ?_
    rintro k ⟨hk, hR⟩
    refine AW.seq ?_
    refine AW.r ?_
    refine At.a 3 ?_
    refine At.sL 13 encRec a ?_
    refine At.a 1 ?_
    refine At.done rfl ?_
    refine AW.cD ((k : Int) < (a.length : Int)) (fun h2 => ?_) (fun h2 => ?_)
    · skip
      refine AW.skip ?_
      refine AW.seq ?_
      refine AW.block ?_
      refine AW.seq ?_
      refine AW.regionD Tryz_mix (At.start ?_)
      refine At.a 2 ?_
      refine At.iSl 37 19 (.tmp 17) (.tmp 18) false 10 (a.map encRec) .i64 (k : Int) 47 (by omega) (by simp only [List.length_map, List.length_append, List.length_take, List.length_drop, List.length_replicate, List.length_set, List.length_cons, List.length_nil]; omega) ?_
      refine Exists.elim (show ∃ e, a[k]? = some e from ⟨_, List.getElem?_eq_getElem (by omega)⟩) fun e1 he1 => ?_
      refine At.lVp 47 20 (.tmp 19) false 10 (a.map encRec) k 0 true 10 (encRec e1) (.agg [.int .i64 e1.kind, .int .i64 e1.term, .int .i64 e1.vote, .int .i64 e1.at_, .int .i64 e1.entry.term, .int .i64 e1.entry.cmd.kind, .int .i64 e1.entry.cmd.release, .int .i64 e1.entry.cmd.node, .int .i64 e1.entry.cmd.size, .str e1.entry.cmd.digest]) (mapGet he1) ?_
      refine At.a 2 ?_
      refine At.iSl 37 23 (.tmp 21) (.tmp 22) false 10 (b.map encRec) .i64 (k : Int) 47 (by omega) (by simp only [List.length_map, List.length_append, List.length_take, List.length_drop, List.length_replicate, List.length_set, List.length_cons, List.length_nil]; omega) ?_
      refine Exists.elim (show ∃ e, b[k]? = some e from ⟨_, List.getElem?_eq_getElem (by omega)⟩) fun e2 he2 => ?_
      refine At.lVp 47 24 (.tmp 23) false 10 (b.map encRec) k 0 true 10 (encRec e2) (.agg [.int .i64 e2.kind, .int .i64 e2.term, .int .i64 e2.vote, .int .i64 e2.at_, .int .i64 e2.entry.term, .int .i64 e2.entry.cmd.kind, .int .i64 e2.entry.cmd.release, .int .i64 e2.entry.cmd.node, .int .i64 e2.entry.cmd.size, .str e2.entry.cmd.digest]) (mapGet he2) ?_
      refine At.c (laws_eqRec_spec  e1 e2 ) Tryz.call126 true [] [] [] trivial ?_
      refine At.a 1 ?_
      refine At.done rfl ⟨by kernel_rfl, ?_⟩
      refine AW.cNB (recEq e1 e2) (fun h3 => ?_) (fun h3 => ?_)
      · skip
        refine AW.r ?_
        refine At.a 1 ?_
        refine At.done rfl ?_
        refine AW.ret ?_
        refine ⟨_, Sub.refl _ _, ?_⟩
        refine KF.conv (fun w => .bool w) (fun w => []) (show (false) = (listEq recEq a b) from by rw [hR, dropCons he1, dropCons he2, listEq]; simp [eqI, *]) ?_
        exact KF.m [] [.bool false]
      · skip
        refine AW.skip ?_
        refine AW.region (At.start ?_)
        refine At.a 2 ?_
        refine At.sI 16 ((k : Int) + 1) (by omega) ?_
        refine At.a 1 ?_
        refine At.done rfl ?_
        exact ⟨k + 1, ⟨by omega, by rw [hR, dropCons he1, dropCons he2, listEq]; simp [eqI, *]⟩, (by omega), Sub.o [] [true, true, false, false, false, true]⟩
    · skip
      refine AW.exit ?_
      refine AW.r ?_
      refine At.a 1 ?_
      refine At.done rfl ?_
      refine AW.ret ?_
      refine ⟨_, Sub.refl _ _, ?_⟩
      refine KF.conv (fun w => .bool w) (fun w => []) (show (true) = (listEq recEq a b) from by rw [hR, List.drop_of_length_le (by omega), List.drop_of_length_le (by omega)]; rfl) ?_
      exact KF.m [] [.bool true]
set_option maxRecDepth 100000 in
set_option maxHeartbeats 4000000 in
theorem laws_eqMsg_spec  (a : Msg) (b : Msg) (ha : a.entries.length ≤ 1048576) (hb : b.entries.length ≤ 1048576) : FnSpec Tryz.prog 45 [.agg [.int .i64 a.kind, .int .i64 a.from_, .int .i64 a.term, .int .i64 a.at_, .int .i64 a.atTerm, .int .i64 a.commit, .bool a.yes, .int .i64 a.release, .int .i64 a.part, .str a.bytes, .int .i64 a.cmd.kind, .int .i64 a.cmd.release, .int .i64 a.cmd.node, .int .i64 a.cmd.size, .str a.cmd.digest, .sl false 6 (a.entries.map encEnt)], .agg [.int .i64 b.kind, .int .i64 b.from_, .int .i64 b.term, .int .i64 b.at_, .int .i64 b.atTerm, .int .i64 b.commit, .bool b.yes, .int .i64 b.release, .int .i64 b.part, .str b.bytes, .int .i64 b.cmd.kind, .int .i64 b.cmd.release, .int .i64 b.cmd.node, .int .i64 b.cmd.size, .str b.cmd.digest, .sl false 6 (b.entries.map encEnt)]] [] (.bool (msgEq a b)) [] := by
  refine FnSpec.of 67 Tryz.func45 rfl Tryz.ntmps45 (by simp) (AW.weakK ?_)
  refine AW.r ?_
  refine At.a 3 ?_
  refine At.done rfl ?_
  refine AW.seq ?_
  refine AW.r ?_
  refine At.a 5 ?_
  refine At.done rfl ?_
  refine AW.cU a.kind b.kind (fun h1 => ?_) (fun h1 => ?_)
  · skip
    refine AW.r ?_
    refine At.a 1 ?_
    refine At.done rfl ?_
    refine AW.ret ?_
    refine ⟨_, Sub.refl _ _, ?_⟩
    refine KF.conv (fun w => .bool w) (fun w => []) (show (false) = (msgEq a b) from by simp [msgEq, h1]) ?_
    exact KF.m [] [.bool false]
  · skip
    refine AW.skip ?_
    refine AW.seq ?_
    refine AW.r ?_
    refine At.a 5 ?_
    refine At.done rfl ?_
    refine AW.cU a.from_ b.from_ (fun h2 => ?_) (fun h2 => ?_)
    · skip
      refine AW.r ?_
      refine At.a 1 ?_
      refine At.done rfl ?_
      refine AW.ret ?_
      refine ⟨_, Sub.refl _ _, ?_⟩
      refine KF.conv (fun w => .bool w) (fun w => []) (show (false) = (msgEq a b) from by simp [msgEq, h1, h2]) ?_
      exact KF.m [] [.bool false]
    · skip
      refine AW.skip ?_
      refine AW.seq ?_
      refine AW.r ?_
      refine At.a 5 ?_
      refine At.done rfl ?_
      refine AW.cU a.term b.term (fun h3 => ?_) (fun h3 => ?_)
      · skip
        refine AW.r ?_
        refine At.a 1 ?_
        refine At.done rfl ?_
        refine AW.ret ?_
        refine ⟨_, Sub.refl _ _, ?_⟩
        refine KF.conv (fun w => .bool w) (fun w => []) (show (false) = (msgEq a b) from by simp [msgEq, h1, h2, h3]) ?_
        exact KF.m [] [.bool false]
      · skip
        refine AW.skip ?_
        refine AW.seq ?_
        refine AW.r ?_
        refine At.a 5 ?_
        refine At.done rfl ?_
        refine AW.cU a.at_ b.at_ (fun h4 => ?_) (fun h4 => ?_)
        · skip
          refine AW.r ?_
          refine At.a 1 ?_
          refine At.done rfl ?_
          refine AW.ret ?_
          refine ⟨_, Sub.refl _ _, ?_⟩
          refine KF.conv (fun w => .bool w) (fun w => []) (show (false) = (msgEq a b) from by simp [msgEq, h1, h2, h3, h4]) ?_
          exact KF.m [] [.bool false]
        · skip
          refine AW.skip ?_
          refine AW.seq ?_
          refine AW.r ?_
          refine At.a 5 ?_
          refine At.done rfl ?_
          refine AW.cU a.atTerm b.atTerm (fun h5 => ?_) (fun h5 => ?_)
          · skip
            refine AW.r ?_
            refine At.a 1 ?_
            refine At.done rfl ?_
            refine AW.ret ?_
            refine ⟨_, Sub.refl _ _, ?_⟩
            refine KF.conv (fun w => .bool w) (fun w => []) (show (false) = (msgEq a b) from by simp [msgEq, h1, h2, h3, h4, h5]) ?_
            exact KF.m [] [.bool false]
          · skip
            refine AW.skip ?_
            refine AW.seq ?_
            refine AW.r ?_
            refine At.a 5 ?_
            refine At.done rfl ?_
            refine AW.cU a.commit b.commit (fun h6 => ?_) (fun h6 => ?_)
            · skip
              refine AW.r ?_
              refine At.a 1 ?_
              refine At.done rfl ?_
              refine AW.ret ?_
              refine ⟨_, Sub.refl _ _, ?_⟩
              refine KF.conv (fun w => .bool w) (fun w => []) (show (false) = (msgEq a b) from by simp [msgEq, h1, h2, h3, h4, h5, h6]) ?_
              exact KF.m [] [.bool false]
            · skip
              refine AW.skip ?_
              refine AW.seq ?_
              refine AW.r ?_
              refine At.a 4 ?_
              refine At.eqB (t := 4) (u := 4) (d := 39) (op := .neq) (x := .tmp 36) (y := .tmp 38) (a := a.yes) (b := b.yes) (by kernel_rfl) (by kernel_rfl) (by kernel_rfl) (by kernel_rfl) (by kernel_rfl) (.bool (!(a.yes == b.yes))) (.inr ⟨rfl, rfl⟩) ?_
              refine At.done rfl ?_
              refine AW.cNB (a.yes == b.yes) (fun h7 => ?_) (fun h7 => ?_)
              · skip
                refine AW.r ?_
                refine At.a 1 ?_
                refine At.done rfl ?_
                refine AW.ret ?_
                refine ⟨_, Sub.refl _ _, ?_⟩
                refine KF.conv (fun w => .bool w) (fun w => []) (show (false) = (msgEq a b) from by simp [msgEq, h1, h2, h3, h4, h5, h6, h7]) ?_
                exact KF.m [] [.bool false]
              · skip
                refine AW.skip ?_
                refine AW.seq ?_
                refine AW.r ?_
                refine At.a 5 ?_
                refine At.done rfl ?_
                refine AW.cU a.release b.release (fun h8 => ?_) (fun h8 => ?_)
                · skip
                  refine AW.r ?_
                  refine At.a 1 ?_
                  refine At.done rfl ?_
                  refine AW.ret ?_
                  refine ⟨_, Sub.refl _ _, ?_⟩
                  refine KF.conv (fun w => .bool w) (fun w => []) (show (false) = (msgEq a b) from by simp [msgEq, h1, h2, h3, h4, h5, h6, h7, h8]) ?_
                  exact KF.m [] [.bool false]
                · skip
                  refine AW.skip ?_
                  refine AW.seq ?_
                  refine AW.r ?_
                  refine At.a 5 ?_
                  refine At.done rfl ?_
                  refine AW.cU a.part b.part (fun h9 => ?_) (fun h9 => ?_)
                  · skip
                    refine AW.r ?_
                    refine At.a 1 ?_
                    refine At.done rfl ?_
                    refine AW.ret ?_
                    refine ⟨_, Sub.refl _ _, ?_⟩
                    refine KF.conv (fun w => .bool w) (fun w => []) (show (false) = (msgEq a b) from by simp [msgEq, h1, h2, h3, h4, h5, h6, h7, h8, h9]) ?_
                    exact KF.m [] [.bool false]
                  · skip
                    refine AW.skip ?_
                    refine AW.seq ?_
                    refine AW.r ?_
                    refine At.a 5 ?_
                    refine At.done rfl ?_
                    refine AW.cNE (a.bytes.toList) (b.bytes.toList) (fun h10 => ?_) (fun h10 => ?_)
                    · skip
                      refine AW.r ?_
                      refine At.a 1 ?_
                      refine At.done rfl ?_
                      refine AW.ret ?_
                      refine ⟨_, Sub.refl _ _, ?_⟩
                      refine KF.conv (fun w => .bool w) (fun w => []) (show (false) = (msgEq a b) from by simp [msgEq, h1, h2, h3, h4, h5, h6, h7, h8, h9, h10]) ?_
                      exact KF.m [] [.bool false]
                    · skip
                      refine AW.skip ?_
                      refine AW.seq ?_
                      refine AW.r ?_
                      refine At.a 4 ?_
                      refine At.c (laws_eqCmd_spec  a.cmd b.cmd ) Tryz.call128 true [] [] [] trivial ?_
                      refine At.a 1 ?_
                      refine At.done rfl ?_
                      refine AW.cNB (cmdEq a.cmd b.cmd) (fun h11 => ?_) (fun h11 => ?_)
                      · skip
                        refine AW.r ?_
                        refine At.a 1 ?_
                        refine At.done rfl ?_
                        refine AW.ret ?_
                        refine ⟨_, Sub.refl _ _, ?_⟩
                        refine KF.conv (fun w => .bool w) (fun w => []) (show (false) = (msgEq a b) from by simp [msgEq, h1, h2, h3, h4, h5, h6, h7, h8, h9, h10, h11]) ?_
                        exact KF.m [] [.bool false]
                      · skip
                        refine AW.skip ?_
                        refine AW.seq ?_
                        refine AW.r ?_
                        refine At.a 4 ?_
                        refine At.c (laws_eqEntryS_spec  a.entries b.entries (by omega) (by omega)) Tryz.call129 true [] [] [] trivial ?_
                        refine At.a 1 ?_
                        refine At.done rfl ?_
                        refine AW.cNB (listEq entEq a.entries b.entries) (fun h12 => ?_) (fun h12 => ?_)
                        · skip
                          refine AW.r ?_
                          refine At.a 1 ?_
                          refine At.done rfl ?_
                          refine AW.ret ?_
                          refine ⟨_, Sub.refl _ _, ?_⟩
                          refine KF.conv (fun w => .bool w) (fun w => []) (show (false) = (msgEq a b) from by simp [msgEq, h1, h2, h3, h4, h5, h6, h7, h8, h9, h10, h11, h12]) ?_
                          exact KF.m [] [.bool false]
                        · skip
                          refine AW.skip ?_
                          refine AW.r ?_
                          refine At.a 1 ?_
                          refine At.done rfl ?_
                          refine AW.ret ?_
                          refine ⟨_, Sub.refl _ _, ?_⟩
                          refine KF.conv (fun w => .bool w) (fun w => []) (show (true) = (msgEq a b) from by simp [msgEq, h1, h2, h3, h4, h5, h6, h7, h8, h9, h10, h11, h12]) ?_
                          exact KF.m [] [.bool true]
set_option maxRecDepth 100000 in
set_option maxHeartbeats 4000000 in
theorem laws_eqOut_spec  (a : Out) (b : Out) (ha : a.msg.entries.length ≤ 1048576) (hb : b.msg.entries.length ≤ 1048576) : FnSpec Tryz.prog 127 [.agg [.int .i64 a.to, .int .i64 a.msg.kind, .int .i64 a.msg.from_, .int .i64 a.msg.term, .int .i64 a.msg.at_, .int .i64 a.msg.atTerm, .int .i64 a.msg.commit, .bool a.msg.yes, .int .i64 a.msg.release, .int .i64 a.msg.part, .str a.msg.bytes, .int .i64 a.msg.cmd.kind, .int .i64 a.msg.cmd.release, .int .i64 a.msg.cmd.node, .int .i64 a.msg.cmd.size, .str a.msg.cmd.digest, .sl false 6 (a.msg.entries.map encEnt)], .agg [.int .i64 b.to, .int .i64 b.msg.kind, .int .i64 b.msg.from_, .int .i64 b.msg.term, .int .i64 b.msg.at_, .int .i64 b.msg.atTerm, .int .i64 b.msg.commit, .bool b.msg.yes, .int .i64 b.msg.release, .int .i64 b.msg.part, .str b.msg.bytes, .int .i64 b.msg.cmd.kind, .int .i64 b.msg.cmd.release, .int .i64 b.msg.cmd.node, .int .i64 b.msg.cmd.size, .str b.msg.cmd.digest, .sl false 6 (b.msg.entries.map encEnt)]] [] (.bool (outEq a b)) [] := by
  refine FnSpec.of 16 Tryz.func127 rfl Tryz.ntmps127 (by simp) (AW.weakK ?_)
  refine AW.r ?_
  refine At.a 3 ?_
  refine At.done rfl ?_
  refine AW.seq ?_
  refine AW.r ?_
  refine At.a 5 ?_
  refine At.done rfl ?_
  refine AW.cU a.to b.to (fun h1 => ?_) (fun h1 => ?_)
  · skip
    refine AW.r ?_
    refine At.a 1 ?_
    refine At.done rfl ?_
    refine AW.ret ?_
    refine ⟨_, Sub.refl _ _, ?_⟩
    refine KF.conv (fun w => .bool w) (fun w => []) (show (false) = (outEq a b) from by simp [outEq, h1]) ?_
    exact KF.m [] [.bool false]
  · skip
    refine AW.skip ?_
    refine AW.seq ?_
    refine AW.r ?_
    refine At.a 4 ?_
    refine At.c (laws_eqMsg_spec  a.msg b.msg (by omega) (by omega)) Tryz.call45 true [] [] [] trivial ?_
    refine At.a 1 ?_
    refine At.done rfl ?_
    refine AW.cNB (msgEq a.msg b.msg) (fun h2 => ?_) (fun h2 => ?_)
    · skip
      refine AW.r ?_
      refine At.a 1 ?_
      refine At.done rfl ?_
      refine AW.ret ?_
      refine ⟨_, Sub.refl _ _, ?_⟩
      refine KF.conv (fun w => .bool w) (fun w => []) (show (false) = (outEq a b) from by simp [outEq, h1, h2]) ?_
      exact KF.m [] [.bool false]
    · skip
      refine AW.skip ?_
      refine AW.r ?_
      refine At.a 1 ?_
      refine At.done rfl ?_
      refine AW.ret ?_
      refine ⟨_, Sub.refl _ _, ?_⟩
      refine KF.conv (fun w => .bool w) (fun w => []) (show (true) = (outEq a b) from by simp [outEq, h1, h2]) ?_
      exact KF.m [] [.bool true]
set_option maxRecDepth 100000 in
set_option maxHeartbeats 4000000 in
theorem laws_eqOutS_spec  (a : List Out) (b : List Out) (ha : a.length ≤ 1048576) (hb : b.length ≤ 1048576) (hea : ∀ o ∈ a, o.msg.entries.length ≤ 1048576) (heb : ∀ o ∈ b, o.msg.entries.length ≤ 1048576) : FnSpec Tryz.prog 44 [.sl false 17 (a.map encOutV), .sl false 17 (b.map encOutV)] [] (.bool (listEq outEq a b)) [] := by
  refine FnSpec.of 27 Tryz.func44 rfl Tryz.ntmps44 (by simp) (AW.weakK ?_)
  refine AW.r ?_
  refine At.a 1 ?_
  refine At.done rfl ?_
  refine AW.seq ?_
  refine AW.r ?_
  refine At.a 2 ?_
  refine At.sL 7 encOutV a ?_
  refine At.a 2 ?_
  refine At.sL 9 encOutV b ?_
  refine At.a 1 ?_
  refine At.done rfl ?_
  refine AW.cU (a.length : Int) (b.length : Int) (fun h1 => ?_) (fun h1 => ?_)
  · skip
    refine AW.r ?_
    refine At.a 1 ?_
    refine At.done rfl ?_
    refine AW.ret ?_
    refine ⟨_, Sub.refl _ _, ?_⟩
    refine KF.conv (fun w => .bool w) (fun w => []) (show (false) = (listEq outEq a b) from by rw [listEq_len (by omega)]) ?_
    exact KF.m [] [.bool false]
  · skip
    refine AW.skip ?_
    refine AW.seq ?_
    refine AW.r ?_
    refine At.a 1 ?_
    refine At.done rfl ?_
    refine AW.block ?_
    refine AW.loopW (fun (k : Nat) => Go.Sy.mk [.sl false 17 (a.map encOutV), .sl false 17 (b.map encOutV), .un, .un, .un, .int .i64 (k : Int)] []) (fun (k : Nat) => k ≤ a.length ∧ listEq outEq a b = listEq outEq (a.drop k) (b.drop k)) (fun (k : Nat) => a.length - k) 0 ⟨by omega, by rw [List.drop_zero, List.drop_zero]⟩ (Sub.o [] [true, true, false, false, false, true]) ?_
    rintro k ⟨hk, hR⟩
    refine AW.seq ?_
    refine AW.r ?_
    refine At.a 3 ?_
    refine At.sL 13 encOutV a ?_
    refine At.a 1 ?_
    refine At.done rfl ?_
    refine AW.cD ((k : Int) < (a.length : Int)) (fun h2 => ?_) (fun h2 => ?_)
    · skip
      refine AW.skip ?_
      refine AW.seq ?_
      refine AW.block ?_
      refine AW.seq ?_
      refine AW.regionD Tryz_mix (At.start ?_)
      refine At.a 2 ?_
      refine At.iSl 38 19 (.tmp 17) (.tmp 18) false 17 (a.map encOutV) .i64 (k : Int) 51 (by omega) (by simp only [List.length_map, List.length_append, List.length_take, List.length_drop, List.length_replicate, List.length_set, List.length_cons, List.length_nil]; omega) ?_
      refine Exists.elim (show ∃ e, a[k]? = some e from ⟨_, List.getElem?_eq_getElem (by omega)⟩) fun e1 he1 => ?_
      refine At.lVp 51 20 (.tmp 19) false 17 (a.map encOutV) k 0 true 17 (encOutV e1) (.agg [.int .i64 e1.to, .int .i64 e1.msg.kind, .int .i64 e1.msg.from_, .int .i64 e1.msg.term, .int .i64 e1.msg.at_, .int .i64 e1.msg.atTerm, .int .i64 e1.msg.commit, .bool e1.msg.yes, .int .i64 e1.msg.release, .int .i64 e1.msg.part, .str e1.msg.bytes, .int .i64 e1.msg.cmd.kind, .int .i64 e1.msg.cmd.release, .int .i64 e1.msg.cmd.node, .int .i64 e1.msg.cmd.size, .str e1.msg.cmd.digest, .sl false 6 (e1.msg.entries.map encEnt)]) (mapGet he1) ?_
      refine At.a 2 ?_
      refine At.iSl 38 23 (.tmp 21) (.tmp 22) false 17 (b.map encOutV) .i64 (k : Int) 51 (by omega) (by simp only [List.length_map, List.length_append, List.length_take, List.length_drop, List.length_replicate, List.length_set, List.length_cons, List.length_nil]; omega) ?_
      refine Exists.elim (show ∃ e, b[k]? = some e from ⟨_, List.getElem?_eq_getElem (by omega)⟩) fun e2 he2 => ?_
      refine At.lVp 51 24 (.tmp 23) false 17 (b.map encOutV) k 0 true 17 (encOutV e2) (.agg [.int .i64 e2.to, .int .i64 e2.msg.kind, .int .i64 e2.msg.from_, .int .i64 e2.msg.term, .int .i64 e2.msg.at_, .int .i64 e2.msg.atTerm, .int .i64 e2.msg.commit, .bool e2.msg.yes, .int .i64 e2.msg.release, .int .i64 e2.msg.part, .str e2.msg.bytes, .int .i64 e2.msg.cmd.kind, .int .i64 e2.msg.cmd.release, .int .i64 e2.msg.cmd.node, .int .i64 e2.msg.cmd.size, .str e2.msg.cmd.digest, .sl false 6 (e2.msg.entries.map encEnt)]) (mapGet he2) ?_
      refine At.c (laws_eqOut_spec  e1 e2 (hea _ (List.mem_of_getElem? he1)) (heb _ (List.mem_of_getElem? he2))) Tryz.call127 true [] [] [] trivial ?_
      refine At.a 1 ?_
      refine At.done rfl ⟨by kernel_rfl, ?_⟩
      refine AW.cNB (outEq e1 e2) (fun h3 => ?_) (fun h3 => ?_)
      · skip
        refine AW.r ?_
        refine At.a 1 ?_
        refine At.done rfl ?_
        refine AW.ret ?_
        refine ⟨_, Sub.refl _ _, ?_⟩
        refine KF.conv (fun w => .bool w) (fun w => []) (show (false) = (listEq outEq a b) from by rw [hR, dropCons he1, dropCons he2, listEq]; simp [*]) ?_
        exact KF.m [] [.bool false]
      · skip
        refine AW.skip ?_
        refine AW.region (At.start ?_)
        refine At.a 2 ?_
        refine At.sI 16 ((k : Int) + 1) (by omega) ?_
        refine At.a 1 ?_
        refine At.done rfl ?_
        exact ⟨k + 1, ⟨by omega, by rw [hR, dropCons he1, dropCons he2, listEq]; simp [*]⟩, (by omega), Sub.o [] [true, true, false, false, false, true]⟩
    · skip
      refine AW.exit ?_
      refine AW.r ?_
      refine At.a 1 ?_
      refine At.done rfl ?_
      refine AW.ret ?_
      refine ⟨_, Sub.refl _ _, ?_⟩
      refine KF.conv (fun w => .bool w) (fun w => []) (show (true) = (listEq outEq a b) from by rw [hR, List.drop_of_length_le (by omega), List.drop_of_length_le (by omega)]; rfl) ?_
      exact KF.m [] [.bool true]
set_option maxRecDepth 100000 in
set_option maxHeartbeats 4000000 in
theorem laws_markText_spec  (k : Int) (hk : k ≤ 4611686018427387904) : FnSpec Tryz.prog 133 [.int .i64 k] [] (.str (markT k)) [] := by
  refine FnSpec.of 20 Tryz.func133 rfl Tryz.ntmps133 (by simp) (AW.weakK ?_)
  refine AW.r ?_
  refine At.a 1 ?_
  refine At.done rfl ?_
  refine AW.seq ?_
  refine AW.r ?_
  refine At.a 2 ?_
  refine At.done rfl ?_
  refine AW.cD (k ≤ 0) (fun h1 => ?_) (fun h1 => ?_)
  · skip
    refine AW.r ?_
    refine At.a 1 ?_
    refine At.done rfl ?_
    refine AW.ret ?_
    refine ⟨_, Sub.refl _ _, ?_⟩
    refine KF.conv (fun w => .str w) (fun w => []) (show ((⟨#[109, 48]⟩ : ByteArray)) = (markT k) from by rw [markT, if_pos (by omega)]) ?_
    exact KF.m [] [.str (⟨#[109, 48]⟩ : ByteArray)]
  · skip
    refine AW.skip ?_
    refine AW.r ?_
    refine At.a 1 ?_
    refine At.done rfl ?_
    refine AW.seq ?_
    refine AW.block ?_
    refine AW.loopW (fun (x : Int × ByteArray) => match x with | (n, acc) => Go.Sy.mk [.int .i64 n, .un, .un, .str acc] []) (fun (x : Int × ByteArray) => match x with | (n, acc) => 0 ≤ n ∧ (acc.size : Int) + n ≤ k ∧ markGo k.toNat ⟨#[]⟩ = markGo n.toNat acc) (fun (x : Int × ByteArray) => match x with | (n, acc) => n.toNat) (k, ⟨#[]⟩) ⟨by omega, by show ((0 : Nat) : Int) + k ≤ k; omega, rfl⟩ (Sub.o [] [true, false, false, true]) ?_
    rintro ⟨n, acc⟩ ⟨hn, hs, hR⟩
    refine AW.seq ?_
    refine AW.r ?_
    refine At.a 2 ?_
    refine At.done rfl ?_
    refine AW.cD (n > 0) (fun h2 => ?_) (fun h2 => ?_)
    · skip
      refine AW.skip ?_
      refine AW.block ?_
      refine AW.r ?_
      refine At.a 1 ?_
      refine At.div (t := 3) (u := 3) (d := 9) (op := .rem) (x := .tmp 8) (y := .const (.int .i64 10)) (kd := .i64) (a := n) (b := 10) (by kernel_rfl) (by kernel_rfl) (by kernel_rfl) (by kernel_rfl) (by omega) (.int .i64 (n.tmod 10)) (.inr ⟨rfl, rfl⟩) ?_
      refine At.say 9 (.int .i64 (n.tmod 10)) (.int .i64 (n % 10)) (by kernel_rfl) (sayRem (by omega)) ?_
      refine At.a 1 ?_
      refine At.sI 10 (48 + (n % 10)) (by omega) ?_
      refine At.conv (s := 3) (t := 5) (d := 11) (x := .tmp 10) (kd := .i64) (kd' := .u8) (a := 48 + (n % 10)) (.int .u8 ((u8Of (48 + (n % 10))).toNat : Int)) (by kernel_rfl) (by kernel_rfl) (by kernel_rfl) (by kernel_rfl) (sayByte _) ?_
      refine At.litK (t := 22) (d := 12) (e := 5) (es := 1) (bytes := 1) (n := 1) (parts := #[(0, .tmp 11)]) (45, 6) 112 [] [.int .u8 ((u8Of (48 + (n % 10))).toNat : Int)] [.int .u8 ((u8Of (48 + (n % 10))).toNat : Int)] [.int .u8 0] [.int .u8 ((u8Of (48 + (n % 10))).toNat : Int)] [] (by kernel_rfl) (by kernel_rfl) (by kernel_rfl) (by kernel_rfl) rfl (fun p hp => by cases hp) (by kernel_rfl) ?_
      refine At.b2s (s := 22) (t := 9) (e := 5) (d := 13) (x := .tmp 12) (T := .ref 112) ([(u8Of (48 + (n % 10)))]) [] (by kernel_rfl) (by kernel_rfl) (by kernel_rfl) (by kernel_rfl) ⟨by kernel_rfl, .inl ⟨rfl, (allP_encU8 _)⟩⟩ ?_
      refine At.a 1 ?_
      refine At.cat (t := 9) (u := 9) (d := 15) (x := .tmp 13) (y := .tmp 14) (a := strOf ([(u8Of (48 + (n % 10)))])) (b := acc) (by kernel_rfl) (by kernel_rfl) (by kernel_rfl) (by kernel_rfl) (by simp only [strOf_size, cat_size, List.length_cons, List.length_nil]; omega) ?_
      refine At.a 1 ?_
      refine At.done rfl ?_
      refine AW.region (At.start ?_)
      refine At.a 1 ?_
      refine At.div (t := 3) (u := 3) (d := 17) (op := .quo) (x := .tmp 16) (y := .const (.int .i64 10)) (kd := .i64) (a := n) (b := 10) (by kernel_rfl) (by kernel_rfl) (by kernel_rfl) (by kernel_rfl) (by omega) (.int .i64 (IntKind.i64.wrap (n.tdiv 10))) (.inl ⟨rfl, rfl⟩) ?_
      refine At.say 17 (.int .i64 (IntKind.i64.wrap (n.tdiv 10))) (.int .i64 (n / 10)) (by kernel_rfl) (sayQuo (by omega) (by omega) (by omega)) ?_
      refine At.a 1 ?_
      refine At.done rfl ?_
      exact ⟨((n / 10), ((strOf ([(u8Of (48 + (n % 10)))])) ++ acc)), ⟨by omega, by rw [cat_size, strOf_size]; simp only [List.length_cons, List.length_nil]; omega, by rw [hR, markGo_step (by assumption)]⟩, (by simp only; omega), Sub.o [] [true, false, false, true]⟩
    · skip
      refine AW.exit ?_
      refine AW.r ?_
      refine At.a 1 ?_
      refine At.cat (t := 9) (u := 9) (d := 19) (x := .const (.string ⟨#[109]⟩)) (y := .tmp 18) (a := (⟨#[109]⟩ : ByteArray)) (b := acc) (by kernel_rfl) (by kernel_rfl) (by kernel_rfl) (by kernel_rfl) (by have q : (⟨#[109]⟩ : ByteArray).size = 1 := rfl; rw [q]; omega) ?_
      refine At.a 1 ?_
      refine At.done rfl ?_
      refine AW.ret ?_
      refine ⟨_, Sub.refl _ _, ?_⟩
      refine KF.conv (fun w => .str w) (fun w => []) (show ((⟨#[109]⟩ : ByteArray) ++ acc) = (markT k) from by rw [markT, if_neg (by omega), hR, markGo_zero (by assumption)]) ?_
      exact KF.m [] [.str ((⟨#[109]⟩ : ByteArray) ++ acc)]
end Go.Proofs.YtlmadhahghiedaaGreat
