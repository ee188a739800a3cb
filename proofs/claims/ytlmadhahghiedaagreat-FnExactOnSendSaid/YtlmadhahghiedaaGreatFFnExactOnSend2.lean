/- The contracts of the functions that FnExactOnSend reaches (each: what it answers, said over values), printed by a program of this session (wip/sy/g/gen.py). -/
import Derived.Test.YtlmadhahghiedaaGreatFFnExactOnSend1
set_option linter.unusedVariables false
set_option linter.unusedSimpArgs false
namespace Go.Proofs.YtlmadhahghiedaaGreat
open Go Go.Sy Go.Proofs
set_option maxRecDepth 100000 in
set_option maxHeartbeats 4000000 in
theorem spec_l10Fits_spec  (r : Raft) (m : Msg) (hz : SmallR r) (hm : m.entries.length ≤ 1048576) (ha : 0 ≤ m.at_ ∧ m.at_ ≤ 80) (hc : r.commit ≤ r.hard.log.length) : FnSpec Tryz.prog 137 [.agg [.int .i64 r.id, .int .i64 r.of_, .int .i64 r.role, .int .i64 r.commit, .int .i64 r.hard.term, .int .i64 r.hard.vote, .sl false 6 (r.hard.log.map encEnt), .sl false 1 (r.yes.map encI), .sl false 1 (r.next.map encI), .sl false 1 (r.match_.map encI)], .agg [.int .i64 m.kind, .int .i64 m.from_, .int .i64 m.term, .int .i64 m.at_, .int .i64 m.atTerm, .int .i64 m.commit, .bool m.yes, .int .i64 m.release, .int .i64 m.part, .str m.bytes, .int .i64 m.cmd.kind, .int .i64 m.cmd.release, .int .i64 m.cmd.node, .int .i64 m.cmd.size, .str m.cmd.digest, .sl false 6 (m.entries.map encEnt)]] [] (.bool (rowB m && !cutsB r m)) [] := by
  obtain ⟨z1, z2, z3, z4⟩ := id hz
  refine FnSpec.of 112 Tryz.func137 rfl Tryz.ntmps137 (by simp) (AW.weakK ?_)
  refine AW.r ?_
  refine At.a 3 ?_
  refine At.done rfl ?_
  refine AW.r ?_
  refine At.a 1 ?_
  refine At.done rfl ?_
  refine AW.seq ?_
  refine AW.r ?_
  refine At.a 3 ?_
  refine At.done rfl ?_
  refine AW.cD (m.at_ > 0) (fun h1 => ?_) (fun h1 => ?_)
  · skip
    refine AW.region (At.start ?_)
    refine At.a 3 ?_
    refine At.done rfl ?_
    refine AW.seq ?_
    refine AW.r ?_
    refine At.a 1 ?_
    refine At.done rfl ?_
    refine AW.block ?_
    refine AW.loopW (fun (x : Nat × Int) => match x with | (k, lo) => Go.Sy.mk [.un, .un, .ptr 102 0 0, .ptr 103 0 0, .un, .int .i64 lo, .int .i64 (k : Int)] [(102, .box 29 [.int .i64 r.id, .int .i64 r.of_, .int .i64 r.role, .int .i64 r.commit, .int .i64 r.hard.term, .int .i64 r.hard.vote, .sl false 6 (r.hard.log.map encEnt), .sl false 1 (r.yes.map encI), .sl false 1 (r.next.map encI), .sl false 1 (r.match_.map encI)]), (103, .box 33 [.int .i64 m.kind, .int .i64 m.from_, .int .i64 m.term, .int .i64 m.at_, .int .i64 m.atTerm, .int .i64 m.commit, .bool m.yes, .int .i64 m.release, .int .i64 m.part, .str m.bytes, .int .i64 m.cmd.kind, .int .i64 m.cmd.release, .int .i64 m.cmd.node, .int .i64 m.cmd.size, .str m.cmd.digest, .sl false 6 (m.entries.map encEnt)])]) (fun (x : Nat × Int) => match x with | (k, lo) => k ≤ m.entries.length ∧ rowGo m.term m.atTerm m.entries = rowGo m.term lo (m.entries.drop k)) (fun (x : Nat × Int) => match x with | (k, lo) => m.entries.length - k) (0, m.atTerm) ⟨by omega, by rw [List.drop_zero]⟩ (Sub.o [(102, 102), (103, 103)] [false, false, true, true, false, true, true]) ?_
    rintro ⟨k, lo⟩ ⟨hk, hR⟩
    refine AW.seq ?_
    refine AW.r ?_
    refine At.a 4 ?_
    refine At.sL 17 encEnt m.entries ?_
    refine At.a 1 ?_
    refine At.done rfl ?_
    refine AW.cD ((k : Int) < (m.entries.length : Int)) (fun h2 => ?_) (fun h2 => ?_)
    · skip
      refine AW.skip ?_
      refine AW.seq ?_
      refine AW.block ?_
      refine AW.seq ?_
      refine AW.seq ?_
      refine AW.regionD Tryz_mix (At.start ?_)
      refine At.a 3 ?_
      refine At.iSl 24 24 (.tmp 22) (.tmp 23) false 6 (m.entries.map encEnt) .i64 (k : Int) 45 (by omega) (by simp only [List.length_map, List.length_append, List.length_take, List.length_drop, List.length_replicate, List.length_set, List.length_cons, List.length_nil]; omega) ?_
      refine At.a 1 ?_
      refine Exists.elim (show ∃ e, m.entries[k]? = some e from ⟨_, List.getElem?_eq_getElem (by omega)⟩) fun e1 he1 => ?_
      refine At.lVp 3 26 (.tmp 25) false 6 (m.entries.map encEnt) k 0 false 1 (encEnt e1) (.int .i64 e1.term) (mapGet he1) ?_
      refine At.a 3 ?_
      by_cases h3 : e1.term < lo
      · refine At.sB 29 (decide (e1.term < lo)) true (sayT h3) ?_
        refine At.a 10 ?_
        refine At.done rfl ⟨by kernel_rfl, ?_⟩
        refine AW.cond true (by kernel_rfl) (fun _ => ?_) (fun h => by cases h)
        refine AW.r ?_
        refine At.a 1 ?_
        refine At.done rfl ?_
        refine AW.ret ?_
        refine ⟨_, Sub.refl _ _, ?_⟩
        refine KF.conv (fun w => .bool w) (fun w => []) (show (false) = (rowB m && !cutsB r m) from by have q : rowB m = false := (by unfold rowB; (first | rw [if_pos (by omega)] | rw [if_neg (by omega)]); rw [hR, dropCons (by assumption), rowGo, Bool.and_eq_false_iff]; left; rw [Bool.eq_false_iff, ne_eq, inR_iff]; omega); rw [q]; rfl) ?_
        exact KF.m [] [.bool false]
      · refine At.sB 29 (decide (e1.term < lo)) false (sayF h3) ?_
        refine At.a 3 ?_
        refine At.iSl 24 33 (.tmp 31) (.tmp 32) false 6 (m.entries.map encEnt) .i64 (k : Int) 45 (by omega) (by simp only [List.length_map, List.length_append, List.length_take, List.length_drop, List.length_replicate, List.length_set, List.length_cons, List.length_nil]; omega) ?_
        refine At.a 1 ?_
        refine At.lVp 3 35 (.tmp 34) false 6 (m.entries.map encEnt) k 0 false 1 (encEnt e1) (.int .i64 e1.term) (mapGet he1) ?_
        refine At.a 4 ?_
        refine At.done rfl ⟨by kernel_rfl, ?_⟩
        refine AW.cD (e1.term > m.term) (fun h4 => ?_) (fun h4 => ?_)
        · skip
          refine AW.r ?_
          refine At.a 1 ?_
          refine At.done rfl ?_
          refine AW.ret ?_
          refine ⟨_, Sub.refl _ _, ?_⟩
          refine KF.conv (fun w => .bool w) (fun w => []) (show (false) = (rowB m && !cutsB r m) from by have q : rowB m = false := (by unfold rowB; (first | rw [if_pos (by omega)] | rw [if_neg (by omega)]); rw [hR, dropCons (by assumption), rowGo, Bool.and_eq_false_iff]; left; rw [Bool.eq_false_iff, ne_eq, inR_iff]; omega); rw [q]; rfl) ?_
          exact KF.m [] [.bool false]
        · skip
          refine AW.skip ?_
          refine AW.region (At.start ?_)
          refine At.a 3 ?_
          refine At.iSl 24 43 (.tmp 41) (.tmp 42) false 6 (m.entries.map encEnt) .i64 (k : Int) 45 (by omega) (by simp only [List.length_map, List.length_append, List.length_take, List.length_drop, List.length_replicate, List.length_set, List.length_cons, List.length_nil]; omega) ?_
          refine At.a 1 ?_
          refine At.lVp 3 45 (.tmp 44) false 6 (m.entries.map encEnt) k 0 false 1 (encEnt e1) (.int .i64 e1.term) (mapGet he1) ?_
          refine At.a 1 ?_
          refine At.done rfl ?_
          refine AW.region (At.start ?_)
          refine At.a 2 ?_
          refine At.sI 20 ((k : Int) + 1) (by omega) ?_
          refine At.a 1 ?_
          refine At.done rfl ?_
          exact ⟨(k + 1, e1.term), ⟨by omega, by rw [hR, dropCons (by assumption), rowGo, inR_iff.2 (by omega), Bool.true_and]⟩, (by simp only; omega), Sub.o [(102, 102), (103, 103)] [false, false, true, true, false, true, true]⟩
    · skip
      refine AW.exit ?_
      refine AW.seq ?_
      refine AW.seq ?_
      refine AW.regionD Tryz_mix (At.start ?_)
      refine At.a 3 ?_
      refine At.c (spec_l10End_spec  r ) Tryz.call65 true [] [] [] trivial ?_
      refine At.a 2 ?_
      by_cases h5 : m.at_ > (r.hard.log.length : Int)
      · refine At.sB 51 (decide (m.at_ > (r.hard.log.length : Int))) true (sayT h5) ?_
        have hrow : rowB m = true := by (have q := hR; rw [List.drop_of_length_le (by omega), rowGo] at q; unfold rowB; first | (rw [if_pos (by omega)]; exact q) | (rw [if_neg (by omega)]; exact q))
        refine At.a 14 ?_
        refine At.done rfl ⟨by kernel_rfl, ?_⟩
        refine AW.cond true (by kernel_rfl) (fun _ => ?_) (fun h => by cases h)
        refine AW.r ?_
        refine At.a 1 ?_
        refine At.done rfl ?_
        refine AW.ret ?_
        refine ⟨_, Sub.refl _ _, ?_⟩
        refine KF.conv (fun w => .bool w) (fun w => []) (show (true) = (rowB m && !cutsB r m) from by have q : fitsB r.hard.log m = false := (by grind [fitsB]); rw [hrow, cutsB, q]; rfl) ?_
        exact KF.m [] [.bool true]
      · refine At.sB 51 (decide (m.at_ > (r.hard.log.length : Int))) false (sayF h5) ?_
        have hrow : rowB m = true := by (have q := hR; rw [List.drop_of_length_le (by omega), rowGo] at q; unfold rowB; first | (rw [if_pos (by omega)]; exact q) | (rw [if_neg (by omega)]; exact q))
        refine At.a 4 ?_
        refine At.sB 55 (decide (m.at_ > 0)) true (sayT h1) ?_
        refine At.a 4 ?_
        refine At.c (spec_l10Term_spec  r.hard m.at_ (by omega)) Tryz.call115 true [] [] [] trivial ?_
        refine At.a 5 ?_
        refine At.done rfl ⟨by kernel_rfl, ?_⟩
        refine AW.cU (termAt r.hard.log m.at_) m.atTerm (fun h7 => ?_) (fun h7 => ?_)
        · skip
          refine AW.r ?_
          refine At.a 1 ?_
          refine At.done rfl ?_
          refine AW.ret ?_
          refine ⟨_, Sub.refl _ _, ?_⟩
          refine KF.conv (fun w => .bool w) (fun w => []) (show (true) = (rowB m && !cutsB r m) from by have q : fitsB r.hard.log m = false := (by grind [fitsB]); rw [hrow, cutsB, q]; rfl) ?_
          exact KF.m [] [.bool true]
        · skip
          refine AW.skip ?_
          refine AW.seq ?_
          refine AW.r ?_
          refine At.a 1 ?_
          refine At.done rfl ?_
          refine AW.block ?_
          have hfit : fitsB r.hard.log m = true := by grind [fitsB]
          refine AW.loopW (fun (j : Nat) => Go.Sy.mk [.un, .un, .ptr 102 0 0, .ptr 103 0 0, .un, .un, .un, .int .i64 (j : Int)] [(102, .box 29 [.int .i64 r.id, .int .i64 r.of_, .int .i64 r.role, .int .i64 r.commit, .int .i64 r.hard.term, .int .i64 r.hard.vote, .sl false 6 (r.hard.log.map encEnt), .sl false 1 (r.yes.map encI), .sl false 1 (r.next.map encI), .sl false 1 (r.match_.map encI)]), (103, .box 33 [.int .i64 m.kind, .int .i64 m.from_, .int .i64 m.term, .int .i64 m.at_, .int .i64 m.atTerm, .int .i64 m.commit, .bool m.yes, .int .i64 m.release, .int .i64 m.part, .str m.bytes, .int .i64 m.cmd.kind, .int .i64 m.cmd.release, .int .i64 m.cmd.node, .int .i64 m.cmd.size, .str m.cmd.digest, .sl false 6 (m.entries.map encEnt)])]) (fun (j : Nat) => j ≤ m.entries.length ∧ cutGo r.hard.log r.commit m.at_ m.entries = cutGo r.hard.log r.commit (m.at_ + (j : Int)) (m.entries.drop j)) (fun (j : Nat) => m.entries.length - j) 0 ⟨by omega, by rw [List.drop_zero]; simp⟩ (Sub.o [(102, 102), (103, 103)] [false, false, true, true, false, false, false, true]) ?_
          rintro j ⟨hkj, hQ⟩
          refine AW.seq ?_
          refine AW.r ?_
          refine At.a 4 ?_
          refine At.sL 69 encEnt m.entries ?_
          refine At.a 1 ?_
          refine At.done rfl ?_
          refine AW.cD ((j : Int) < (m.entries.length : Int)) (fun h8 => ?_) (fun h8 => ?_)
          · skip
            refine AW.skip ?_
            refine AW.seq ?_
            refine AW.block ?_
            refine AW.r ?_
            refine At.a 3 ?_
            refine At.sI 75 (m.at_ + 1) (by omega) ?_
            refine At.a 2 ?_
            refine At.say 77 (.int .i64 (IntKind.i64.wrap ((m.at_ + 1) + (j : Int)))) (.int .i64 (m.at_ + (j : Int) + 1)) (by kernel_rfl) (sayAs (by omega) (by omega)) ?_
            refine At.a 1 ?_
            refine At.done rfl ?_
            refine AW.seq ?_
            refine AW.seq ?_
            refine AW.regionD Tryz_mix (At.start ?_)
            refine At.a 5 ?_
            by_cases h9 : (m.at_ + (j : Int) + 1) ≤ r.commit
            · refine At.sB 82 (decide ((m.at_ + (j : Int) + 1) ≤ r.commit)) true (sayT h9) ?_
              refine At.a 3 ?_
              refine At.c (spec_l10Term_spec  r.hard (m.at_ + (j : Int) + 1) (by omega)) Tryz.call115 true [] [] [] trivial ?_
              refine At.a 3 ?_
              refine At.iSl 24 90 (.tmp 88) (.tmp 89) false 6 (m.entries.map encEnt) .i64 (j : Int) 45 (by omega) (by simp only [List.length_map, List.length_append, List.length_take, List.length_drop, List.length_replicate, List.length_set, List.length_cons, List.length_nil]; omega) ?_
              refine At.a 1 ?_
              refine Exists.elim (show ∃ e, m.entries[j]? = some e from ⟨_, List.getElem?_eq_getElem (by omega)⟩) fun e2 he2 => ?_
              refine At.lVp 3 92 (.tmp 91) false 6 (m.entries.map encEnt) j 0 false 1 (encEnt e2) (.int .i64 e2.term) (mapGet he2) ?_
              refine At.a 2 ?_
              refine At.done rfl ⟨by kernel_rfl, ?_⟩
              refine AW.cU (termAt r.hard.log (m.at_ + (j : Int) + 1)) e2.term (fun h10 => ?_) (fun h10 => ?_)
              · skip
                refine AW.r ?_
                refine At.a 1 ?_
                refine At.done rfl ?_
                refine AW.ret ?_
                refine ⟨_, Sub.refl _ _, ?_⟩
                refine KF.conv (fun w => .bool w) (fun w => []) (show (false) = (rowB m && !cutsB r m) from by have q : cutsB r m = true := (by first | (rw [cutsB, hfit, Bool.true_and, hQ, List.drop_of_length_le (by omega), cutGo]; rw [decide_eq_true (by omega)]) | (rw [cutsB, hfit, Bool.true_and, hQ, dropCons (List.getElem?_eq_getElem (l := m.entries) (i := j) (by omega)), cutGo, if_neg (by omega)]; rw [decide_eq_true (by omega)]) | (rw [cutsB, hfit, Bool.true_and, hQ, dropCons (by assumption), cutGo, if_pos (by omega), if_neg (by assumption)]; rw [decide_eq_true (by omega)])); rw [hrow, q]; rfl) ?_
                exact KF.m [] [.bool false]
              · skip
                refine AW.skip ?_
                refine AW.seq ?_
                refine AW.regionD Tryz_mix (At.start ?_)
                refine At.a 2 ?_
                refine At.c (spec_l10End_spec  r ) Tryz.call65 true [] [] [] trivial ?_
                refine At.a 2 ?_
                by_cases h11 : (m.at_ + (j : Int) + 1) > (r.hard.log.length : Int)
                · refine At.sB 99 (decide ((m.at_ + (j : Int) + 1) > (r.hard.log.length : Int))) true (sayT h11) ?_
                  refine At.a 12 ?_
                  refine At.done rfl ⟨by kernel_rfl, ?_⟩
                  refine AW.cond true (by kernel_rfl) (fun _ => ?_) (fun h => by cases h)
                  refine AW.r ?_
                  refine At.a 1 ?_
                  refine At.done rfl ?_
                  refine AW.ret ?_
                  refine ⟨_, Sub.refl _ _, ?_⟩
                  refine KF.conv (fun w => .bool w) (fun w => []) (show (true) = (rowB m && !cutsB r m) from by have q : fitsB r.hard.log m = false := (by grind [fitsB]); rw [hrow, cutsB, q]; rfl) ?_
                  exact KF.m [] [.bool true]
                · refine At.sB 99 (decide ((m.at_ + (j : Int) + 1) > (r.hard.log.length : Int))) false (sayF h11) ?_
                  refine At.a 3 ?_
                  refine At.c (spec_l10Term_spec  r.hard (m.at_ + (j : Int) + 1) (by omega)) Tryz.call115 true [] [] [] trivial ?_
                  refine At.a 3 ?_
                  refine At.iSl 24 107 (.tmp 105) (.tmp 106) false 6 (m.entries.map encEnt) .i64 (j : Int) 45 (by omega) (by simp only [List.length_map, List.length_append, List.length_take, List.length_drop, List.length_replicate, List.length_set, List.length_cons, List.length_nil]; omega) ?_
                  refine At.a 1 ?_
                  refine At.lVp 3 109 (.tmp 108) false 6 (m.entries.map encEnt) j 0 false 1 (encEnt e2) (.int .i64 e2.term) (mapGet he2) ?_
                  refine At.a 2 ?_
                  refine At.done rfl ⟨by kernel_rfl, ?_⟩
                  refine AW.cU (termAt r.hard.log (m.at_ + (j : Int) + 1)) e2.term (fun h12 => ?_) (fun h12 => ?_)
                  · skip
                    refine AW.r ?_
                    refine At.a 1 ?_
                    refine At.done rfl ?_
                    refine AW.ret ?_
                    refine ⟨_, Sub.refl _ _, ?_⟩
                    refine KF.conv (fun w => .bool w) (fun w => []) (show (true) = (rowB m && !cutsB r m) from by have q : fitsB r.hard.log m = false := (by grind [fitsB]); rw [hrow, cutsB, q]; rfl) ?_
                    exact KF.m [] [.bool true]
                  · skip
                    refine AW.skip ?_
                    refine AW.region (At.start ?_)
                    refine At.a 2 ?_
                    refine At.sI 72 ((j : Int) + 1) (by omega) ?_
                    refine At.a 1 ?_
                    refine At.done rfl ?_
                    exact ⟨j + 1, ⟨by omega, by rw [hQ, dropCons (by assumption), cutGo, if_pos (by omega), if_pos (by assumption), show m.at_ + ((j + 1 : Nat) : Int) = m.at_ + (j : Int) + 1 from by omega]⟩, (by omega), Sub.o [(102, 102), (103, 103)] [false, false, true, true, false, false, false, true]⟩
            · refine At.sB 82 (decide ((m.at_ + (j : Int) + 1) ≤ r.commit)) false (sayF h9) ?_
              refine At.a 12 ?_
              refine At.done rfl ⟨by kernel_rfl, ?_⟩
              refine AW.cond false (by kernel_rfl) (fun h => by cases h) (fun _ => ?_)
              refine AW.skip ?_
              refine AW.seq ?_
              refine AW.regionD Tryz_mix (At.start ?_)
              refine At.a 2 ?_
              refine At.c (spec_l10End_spec  r ) Tryz.call65 true [] [] [] trivial ?_
              refine At.a 2 ?_
              by_cases h13 : (m.at_ + (j : Int) + 1) > (r.hard.log.length : Int)
              · refine At.sB 99 (decide ((m.at_ + (j : Int) + 1) > (r.hard.log.length : Int))) true (sayT h13) ?_
                refine At.a 12 ?_
                refine At.done rfl ⟨by kernel_rfl, ?_⟩
                refine AW.cond true (by kernel_rfl) (fun _ => ?_) (fun h => by cases h)
                refine AW.r ?_
                refine At.a 1 ?_
                refine At.done rfl ?_
                refine AW.ret ?_
                refine ⟨_, Sub.refl _ _, ?_⟩
                refine KF.conv (fun w => .bool w) (fun w => []) (show (true) = (rowB m && !cutsB r m) from by have q : cutsB r m = false := (by first | (rw [cutsB, hfit, Bool.true_and, hQ, List.drop_of_length_le (by omega), cutGo]; done) | (rw [cutsB, hfit, Bool.true_and, hQ, dropCons (List.getElem?_eq_getElem (l := m.entries) (i := j) (by omega)), cutGo, if_neg (by omega)]; done) | (rw [cutsB, hfit, Bool.true_and, hQ, dropCons (by assumption), cutGo, if_pos (by omega), if_neg (by assumption)]; done) | (rw [cutsB, hfit, Bool.true_and, hQ, List.drop_of_length_le (by omega), cutGo]; rw [decide_eq_false (by omega)]) | (rw [cutsB, hfit, Bool.true_and, hQ, dropCons (List.getElem?_eq_getElem (l := m.entries) (i := j) (by omega)), cutGo, if_neg (by omega)]; rw [decide_eq_false (by omega)]) | (rw [cutsB, hfit, Bool.true_and, hQ, dropCons (by assumption), cutGo, if_pos (by omega), if_neg (by assumption)]; rw [decide_eq_false (by omega)])); rw [hrow, q]; rfl) ?_
                exact KF.m [] [.bool true]
              · refine At.sB 99 (decide ((m.at_ + (j : Int) + 1) > (r.hard.log.length : Int))) false (sayF h13) ?_
                refine At.a 3 ?_
                refine At.c (spec_l10Term_spec  r.hard (m.at_ + (j : Int) + 1) (by omega)) Tryz.call115 true [] [] [] trivial ?_
                refine At.a 3 ?_
                refine At.iSl 24 107 (.tmp 105) (.tmp 106) false 6 (m.entries.map encEnt) .i64 (j : Int) 45 (by omega) (by simp only [List.length_map, List.length_append, List.length_take, List.length_drop, List.length_replicate, List.length_set, List.length_cons, List.length_nil]; omega) ?_
                refine At.a 1 ?_
                refine Exists.elim (show ∃ e, m.entries[j]? = some e from ⟨_, List.getElem?_eq_getElem (by omega)⟩) fun e3 he3 => ?_
                refine At.lVp 3 109 (.tmp 108) false 6 (m.entries.map encEnt) j 0 false 1 (encEnt e3) (.int .i64 e3.term) (mapGet he3) ?_
                refine At.a 2 ?_
                refine At.done rfl ⟨by kernel_rfl, ?_⟩
                refine AW.cU (termAt r.hard.log (m.at_ + (j : Int) + 1)) e3.term (fun h14 => ?_) (fun h14 => ?_)
                · skip
                  refine AW.r ?_
                  refine At.a 1 ?_
                  refine At.done rfl ?_
                  refine AW.ret ?_
                  refine ⟨_, Sub.refl _ _, ?_⟩
                  refine KF.conv (fun w => .bool w) (fun w => []) (show (true) = (rowB m && !cutsB r m) from by have q : cutsB r m = false := (by first | (rw [cutsB, hfit, Bool.true_and, hQ, List.drop_of_length_le (by omega), cutGo]; done) | (rw [cutsB, hfit, Bool.true_and, hQ, dropCons (List.getElem?_eq_getElem (l := m.entries) (i := j) (by omega)), cutGo, if_neg (by omega)]; done) | (rw [cutsB, hfit, Bool.true_and, hQ, dropCons (by assumption), cutGo, if_pos (by omega), if_neg (by assumption)]; done) | (rw [cutsB, hfit, Bool.true_and, hQ, List.drop_of_length_le (by omega), cutGo]; rw [decide_eq_false (by omega)]) | (rw [cutsB, hfit, Bool.true_and, hQ, dropCons (List.getElem?_eq_getElem (l := m.entries) (i := j) (by omega)), cutGo, if_neg (by omega)]; rw [decide_eq_false (by omega)]) | (rw [cutsB, hfit, Bool.true_and, hQ, dropCons (by assumption), cutGo, if_pos (by omega), if_neg (by assumption)]; rw [decide_eq_false (by omega)])); rw [hrow, q]; rfl) ?_
                  exact KF.m [] [.bool true]
                · skip
                  refine AW.skip ?_
                  refine AW.region (At.start ?_)
                  refine At.a 2 ?_
                  refine At.sI 72 ((j : Int) + 1) (by omega) ?_
                  refine At.a 1 ?_
                  refine At.done rfl ?_
                  exact ⟨j + 1, ⟨by omega, by rw [hQ, dropCons (by assumption), cutGo, if_pos (by omega), if_pos (by assumption), show m.at_ + ((j + 1 : Nat) : Int) = m.at_ + (j : Int) + 1 from by omega]⟩, (by omega), Sub.o [(102, 102), (103, 103)] [false, false, true, true, false, false, false, true]⟩
          · skip
            refine AW.exit ?_
            refine AW.r ?_
            refine At.a 1 ?_
            refine At.done rfl ?_
            refine AW.ret ?_
            refine ⟨_, Sub.refl _ _, ?_⟩
            refine KF.conv (fun w => .bool w) (fun w => []) (show (true) = (rowB m && !cutsB r m) from by have q : cutsB r m = false := (by first | (rw [cutsB, hfit, Bool.true_and, hQ, List.drop_of_length_le (by omega), cutGo]; done) | (rw [cutsB, hfit, Bool.true_and, hQ, dropCons (List.getElem?_eq_getElem (l := m.entries) (i := j) (by omega)), cutGo, if_neg (by omega)]; done) | (rw [cutsB, hfit, Bool.true_and, hQ, dropCons (by assumption), cutGo, if_pos (by omega), if_neg (by assumption)]; done) | (rw [cutsB, hfit, Bool.true_and, hQ, List.drop_of_length_le (by omega), cutGo]; rw [decide_eq_false (by omega)]) | (rw [cutsB, hfit, Bool.true_and, hQ, dropCons (List.getElem?_eq_getElem (l := m.entries) (i := j) (by omega)), cutGo, if_neg (by omega)]; rw [decide_eq_false (by omega)]) | (rw [cutsB, hfit, Bool.true_and, hQ, dropCons (by assumption), cutGo, if_pos (by omega), if_neg (by assumption)]; rw [decide_eq_false (by omega)])); rw [hrow, q]; rfl) ?_
            exact KF.m [] [.bool true]
  · skip
    refine AW.skip ?_
    refine AW.seq ?_
    refine AW.r ?_
    refine At.a 1 ?_
    refine At.done rfl ?_
    refine AW.block ?_
    refine AW.loopW (fun (x : Nat × Int) => match x with | (k, lo) => Go.Sy.mk [.un, .un, .ptr 102 0 0, .ptr 103 0 0, .un, .int .i64 lo, .int .i64 (k : Int)] [(102, .box 29 [.int .i64 r.id, .int .i64 r.of_, .int .i64 r.role, .int .i64 r.commit, .int .i64 r.hard.term, .int .i64 r.hard.vote, .sl false 6 (r.hard.log.map encEnt), .sl false 1 (r.yes.map encI), .sl false 1 (r.next.map encI), .sl false 1 (r.match_.map encI)]), (103, .box 33 [.int .i64 m.kind, .int .i64 m.from_, .int .i64 m.term, .int .i64 m.at_, .int .i64 m.atTerm, .int .i64 m.commit, .bool m.yes, .int .i64 m.release, .int .i64 m.part, .str m.bytes, .int .i64 m.cmd.kind, .int .i64 m.cmd.release, .int .i64 m.cmd.node, .int .i64 m.cmd.size, .str m.cmd.digest, .sl false 6 (m.entries.map encEnt)])]) (fun (x : Nat × Int) => match x with | (k, lo) => k ≤ m.entries.length ∧ rowGo m.term 0 m.entries = rowGo m.term lo (m.entries.drop k)) (fun (x : Nat × Int) => match x with | (k, lo) => m.entries.length - k) (0, 0) ⟨by omega, by rw [List.drop_zero]⟩ (Sub.o [(102, 102), (103, 103)] [false, false, true, true, false, true, true]) ?_
    rintro ⟨k, lo⟩ ⟨hk, hR⟩
    refine AW.seq ?_
    refine AW.r ?_
    refine At.a 4 ?_
    refine At.sL 17 encEnt m.entries ?_
    refine At.a 1 ?_
    refine At.done rfl ?_
    refine AW.cD ((k : Int) < (m.entries.length : Int)) (fun h15 => ?_) (fun h15 => ?_)
    · skip
      refine AW.skip ?_
      refine AW.seq ?_
      refine AW.block ?_
      refine AW.seq ?_
      refine AW.seq ?_
      refine AW.regionD Tryz_mix (At.start ?_)
      refine At.a 3 ?_
      refine At.iSl 24 24 (.tmp 22) (.tmp 23) false 6 (m.entries.map encEnt) .i64 (k : Int) 45 (by omega) (by simp only [List.length_map, List.length_append, List.length_take, List.length_drop, List.length_replicate, List.length_set, List.length_cons, List.length_nil]; omega) ?_
      refine At.a 1 ?_
      refine Exists.elim (show ∃ e, m.entries[k]? = some e from ⟨_, List.getElem?_eq_getElem (by omega)⟩) fun e4 he4 => ?_
      refine At.lVp 3 26 (.tmp 25) false 6 (m.entries.map encEnt) k 0 false 1 (encEnt e4) (.int .i64 e4.term) (mapGet he4) ?_
      refine At.a 3 ?_
      by_cases h16 : e4.term < lo
      · refine At.sB 29 (decide (e4.term < lo)) true (sayT h16) ?_
        refine At.a 10 ?_
        refine At.done rfl ⟨by kernel_rfl, ?_⟩
        refine AW.cond true (by kernel_rfl) (fun _ => ?_) (fun h => by cases h)
        refine AW.r ?_
        refine At.a 1 ?_
        refine At.done rfl ?_
        refine AW.ret ?_
        refine ⟨_, Sub.refl _ _, ?_⟩
        refine KF.conv (fun w => .bool w) (fun w => []) (show (false) = (rowB m && !cutsB r m) from by have q : rowB m = false := (by unfold rowB; (first | rw [if_pos (by omega)] | rw [if_neg (by omega)]); rw [hR, dropCons (by assumption), rowGo, Bool.and_eq_false_iff]; left; rw [Bool.eq_false_iff, ne_eq, inR_iff]; omega); rw [q]; rfl) ?_
        exact KF.m [] [.bool false]
      · refine At.sB 29 (decide (e4.term < lo)) false (sayF h16) ?_
        refine At.a 3 ?_
        refine At.iSl 24 33 (.tmp 31) (.tmp 32) false 6 (m.entries.map encEnt) .i64 (k : Int) 45 (by omega) (by simp only [List.length_map, List.length_append, List.length_take, List.length_drop, List.length_replicate, List.length_set, List.length_cons, List.length_nil]; omega) ?_
        refine At.a 1 ?_
        refine At.lVp 3 35 (.tmp 34) false 6 (m.entries.map encEnt) k 0 false 1 (encEnt e4) (.int .i64 e4.term) (mapGet he4) ?_
        refine At.a 4 ?_
        refine At.done rfl ⟨by kernel_rfl, ?_⟩
        refine AW.cD (e4.term > m.term) (fun h17 => ?_) (fun h17 => ?_)
        · skip
          refine AW.r ?_
          refine At.a 1 ?_
          refine At.done rfl ?_
          refine AW.ret ?_
          refine ⟨_, Sub.refl _ _, ?_⟩
          refine KF.conv (fun w => .bool w) (fun w => []) (show (false) = (rowB m && !cutsB r m) from by have q : rowB m = false := (by unfold rowB; (first | rw [if_pos (by omega)] | rw [if_neg (by omega)]); rw [hR, dropCons (by assumption), rowGo, Bool.and_eq_false_iff]; left; rw [Bool.eq_false_iff, ne_eq, inR_iff]; omega); rw [q]; rfl) ?_
          exact KF.m [] [.bool false]
        · skip
          refine AW.skip ?_
          refine AW.region (At.start ?_)
          refine At.a 3 ?_
          refine At.iSl 24 43 (.tmp 41) (.tmp 42) false 6 (m.entries.map encEnt) .i64 (k : Int) 45 (by omega) (by simp only [List.length_map, List.length_append, List.length_take, List.length_drop, List.length_replicate, List.length_set, List.length_cons, List.length_nil]; omega) ?_
          refine At.a 1 ?_
          refine At.lVp 3 45 (.tmp 44) false 6 (m.entries.map encEnt) k 0 false 1 (encEnt e4) (.int .i64 e4.term) (mapGet he4) ?_
          refine At.a 1 ?_
          refine At.done rfl ?_
          refine AW.region (At.start ?_)
          refine At.a 2 ?_
          refine At.sI 20 ((k : Int) + 1) (by omega) ?_
          refine At.a 1 ?_
          refine At.done rfl ?_
          exact ⟨(k + 1, e4.term), ⟨by omega, by rw [hR, dropCons (by assumption), rowGo, inR_iff.2 (by omega), Bool.true_and]⟩, (by simp only; omega), Sub.o [(102, 102), (103, 103)] [false, false, true, true, false, true, true]⟩
    · skip
      refine AW.exit ?_
      refine AW.seq ?_
      refine AW.seq ?_
      refine AW.regionD Tryz_mix (At.start ?_)
      refine At.a 3 ?_
      refine At.c (spec_l10End_spec  r ) Tryz.call65 true [] [] [] trivial ?_
      refine At.a 2 ?_
      by_cases h18 : m.at_ > (r.hard.log.length : Int)
      · refine At.sB 51 (decide (m.at_ > (r.hard.log.length : Int))) true (sayT h18) ?_
        have hrow : rowB m = true := by (have q := hR; rw [List.drop_of_length_le (by omega), rowGo] at q; unfold rowB; first | (rw [if_pos (by omega)]; exact q) | (rw [if_neg (by omega)]; exact q))
        refine At.a 14 ?_
        refine At.done rfl ⟨by kernel_rfl, ?_⟩
        refine AW.cond true (by kernel_rfl) (fun _ => ?_) (fun h => by cases h)
        refine AW.r ?_
        refine At.a 1 ?_
        refine At.done rfl ?_
        refine AW.ret ?_
        refine ⟨_, Sub.refl _ _, ?_⟩
        refine KF.conv (fun w => .bool w) (fun w => []) (show (true) = (rowB m && !cutsB r m) from by have q : fitsB r.hard.log m = false := (by grind [fitsB]); rw [hrow, cutsB, q]; rfl) ?_
        exact KF.m [] [.bool true]
      · refine At.sB 51 (decide (m.at_ > (r.hard.log.length : Int))) false (sayF h18) ?_
        have hrow : rowB m = true := by (have q := hR; rw [List.drop_of_length_le (by omega), rowGo] at q; unfold rowB; first | (rw [if_pos (by omega)]; exact q) | (rw [if_neg (by omega)]; exact q))
        refine At.a 4 ?_
        refine At.sB 55 (decide (m.at_ > 0)) false (sayF h1) ?_
        refine At.a 10 ?_
        refine At.done rfl ⟨by kernel_rfl, ?_⟩
        refine AW.cond false (by kernel_rfl) (fun h => by cases h) (fun _ => ?_)
        refine AW.skip ?_
        refine AW.seq ?_
        refine AW.r ?_
        refine At.a 1 ?_
        refine At.done rfl ?_
        refine AW.block ?_
        have hfit : fitsB r.hard.log m = true := by grind [fitsB]
        refine AW.loopW (fun (j : Nat) => Go.Sy.mk [.un, .un, .ptr 102 0 0, .ptr 103 0 0, .un, .un, .un, .int .i64 (j : Int)] [(102, .box 29 [.int .i64 r.id, .int .i64 r.of_, .int .i64 r.role, .int .i64 r.commit, .int .i64 r.hard.term, .int .i64 r.hard.vote, .sl false 6 (r.hard.log.map encEnt), .sl false 1 (r.yes.map encI), .sl false 1 (r.next.map encI), .sl false 1 (r.match_.map encI)]), (103, .box 33 [.int .i64 m.kind, .int .i64 m.from_, .int .i64 m.term, .int .i64 m.at_, .int .i64 m.atTerm, .int .i64 m.commit, .bool m.yes, .int .i64 m.release, .int .i64 m.part, .str m.bytes, .int .i64 m.cmd.kind, .int .i64 m.cmd.release, .int .i64 m.cmd.node, .int .i64 m.cmd.size, .str m.cmd.digest, .sl false 6 (m.entries.map encEnt)])]) (fun (j : Nat) => j ≤ m.entries.length ∧ cutGo r.hard.log r.commit m.at_ m.entries = cutGo r.hard.log r.commit (m.at_ + (j : Int)) (m.entries.drop j)) (fun (j : Nat) => m.entries.length - j) 0 ⟨by omega, by rw [List.drop_zero]; simp⟩ (Sub.o [(102, 102), (103, 103)] [false, false, true, true, false, false, false, true]) ?_
        rintro j ⟨hkj, hQ⟩
        refine AW.seq ?_
        refine AW.r ?_
        refine At.a 4 ?_
        refine At.sL 69 encEnt m.entries ?_
        refine At.a 1 ?_
        refine At.done rfl ?_
        refine AW.cD ((j : Int) < (m.entries.length : Int)) (fun h20 => ?_) (fun h20 => ?_)
        · skip
          refine AW.skip ?_
          refine AW.seq ?_
          refine AW.block ?_
          refine AW.r ?_
          refine At.a 3 ?_
          refine At.sI 75 (m.at_ + 1) (by omega) ?_
          refine At.a 2 ?_
          refine At.say 77 (.int .i64 (IntKind.i64.wrap ((m.at_ + 1) + (j : Int)))) (.int .i64 (m.at_ + (j : Int) + 1)) (by kernel_rfl) (sayAs (by omega) (by omega)) ?_
          refine At.a 1 ?_
          refine At.done rfl ?_
          refine AW.seq ?_
          refine AW.seq ?_
          refine AW.regionD Tryz_mix (At.start ?_)
          refine At.a 5 ?_
          by_cases h21 : (m.at_ + (j : Int) + 1) ≤ r.commit
          · refine At.sB 82 (decide ((m.at_ + (j : Int) + 1) ≤ r.commit)) true (sayT h21) ?_
            refine At.a 3 ?_
            refine At.c (spec_l10Term_spec  r.hard (m.at_ + (j : Int) + 1) (by omega)) Tryz.call115 true [] [] [] trivial ?_
            refine At.a 3 ?_
            refine At.iSl 24 90 (.tmp 88) (.tmp 89) false 6 (m.entries.map encEnt) .i64 (j : Int) 45 (by omega) (by simp only [List.length_map, List.length_append, List.length_take, List.length_drop, List.length_replicate, List.length_set, List.length_cons, List.length_nil]; omega) ?_
            refine At.a 1 ?_
            refine Exists.elim (show ∃ e, m.entries[j]? = some e from ⟨_, List.getElem?_eq_getElem (by omega)⟩) fun e5 he5 => ?_
            refine At.lVp 3 92 (.tmp 91) false 6 (m.entries.map encEnt) j 0 false 1 (encEnt e5) (.int .i64 e5.term) (mapGet he5) ?_
            refine At.a 2 ?_
            refine At.done rfl ⟨by kernel_rfl, ?_⟩
            refine AW.cU (termAt r.hard.log (m.at_ + (j : Int) + 1)) e5.term (fun h22 => ?_) (fun h22 => ?_)
            · skip
              refine AW.r ?_
              refine At.a 1 ?_
              refine At.done rfl ?_
              refine AW.ret ?_
              refine ⟨_, Sub.refl _ _, ?_⟩
              refine KF.conv (fun w => .bool w) (fun w => []) (show (false) = (rowB m && !cutsB r m) from by have q : cutsB r m = true := (by first | (rw [cutsB, hfit, Bool.true_and, hQ, List.drop_of_length_le (by omega), cutGo]; rw [decide_eq_true (by omega)]) | (rw [cutsB, hfit, Bool.true_and, hQ, dropCons (List.getElem?_eq_getElem (l := m.entries) (i := j) (by omega)), cutGo, if_neg (by omega)]; rw [decide_eq_true (by omega)]) | (rw [cutsB, hfit, Bool.true_and, hQ, dropCons (by assumption), cutGo, if_pos (by omega), if_neg (by assumption)]; rw [decide_eq_true (by omega)])); rw [hrow, q]; rfl) ?_
              exact KF.m [] [.bool false]
            · skip
              refine AW.skip ?_
              refine AW.seq ?_
              refine AW.regionD Tryz_mix (At.start ?_)
              refine At.a 2 ?_
              refine At.c (spec_l10End_spec  r ) Tryz.call65 true [] [] [] trivial ?_
              refine At.a 2 ?_
              by_cases h23 : (m.at_ + (j : Int) + 1) > (r.hard.log.length : Int)
              · refine At.sB 99 (decide ((m.at_ + (j : Int) + 1) > (r.hard.log.length : Int))) true (sayT h23) ?_
                refine At.a 12 ?_
                refine At.done rfl ⟨by kernel_rfl, ?_⟩
                refine AW.cond true (by kernel_rfl) (fun _ => ?_) (fun h => by cases h)
                refine AW.r ?_
                refine At.a 1 ?_
                refine At.done rfl ?_
                refine AW.ret ?_
                refine ⟨_, Sub.refl _ _, ?_⟩
                refine KF.conv (fun w => .bool w) (fun w => []) (show (true) = (rowB m && !cutsB r m) from by have q : fitsB r.hard.log m = false := (by grind [fitsB]); rw [hrow, cutsB, q]; rfl) ?_
                exact KF.m [] [.bool true]
              · refine At.sB 99 (decide ((m.at_ + (j : Int) + 1) > (r.hard.log.length : Int))) false (sayF h23) ?_
                refine At.a 3 ?_
                refine At.c (spec_l10Term_spec  r.hard (m.at_ + (j : Int) + 1) (by omega)) Tryz.call115 true [] [] [] trivial ?_
                refine At.a 3 ?_
                refine At.iSl 24 107 (.tmp 105) (.tmp 106) false 6 (m.entries.map encEnt) .i64 (j : Int) 45 (by omega) (by simp only [List.length_map, List.length_append, List.length_take, List.length_drop, List.length_replicate, List.length_set, List.length_cons, List.length_nil]; omega) ?_
                refine At.a 1 ?_
                refine At.lVp 3 109 (.tmp 108) false 6 (m.entries.map encEnt) j 0 false 1 (encEnt e5) (.int .i64 e5.term) (mapGet he5) ?_
                refine At.a 2 ?_
                refine At.done rfl ⟨by kernel_rfl, ?_⟩
                refine AW.cU (termAt r.hard.log (m.at_ + (j : Int) + 1)) e5.term (fun h24 => ?_) (fun h24 => ?_)
                · skip
                  refine AW.r ?_
                  refine At.a 1 ?_
                  refine At.done rfl ?_
                  refine AW.ret ?_
                  refine ⟨_, Sub.refl _ _, ?_⟩
                  refine KF.conv (fun w => .bool w) (fun w => []) (show (true) = (rowB m && !cutsB r m) from by have q : fitsB r.hard.log m = false := (by grind [fitsB]); rw [hrow, cutsB, q]; rfl) ?_
                  exact KF.m [] [.bool true]
                · skip
                  refine AW.skip ?_
                  refine AW.region (At.start ?_)
                  refine At.a 2 ?_
                  refine At.sI 72 ((j : Int) + 1) (by omega) ?_
                  refine At.a 1 ?_
                  refine At.done rfl ?_
                  exact ⟨j + 1, ⟨by omega, by rw [hQ, dropCons (by assumption), cutGo, if_pos (by omega), if_pos (by assumption), show m.at_ + ((j + 1 : Nat) : Int) = m.at_ + (j : Int) + 1 from by omega]⟩, (by omega), Sub.o [(102, 102), (103, 103)] [false, false, true, true, false, false, false, true]⟩
          · refine At.sB 82 (decide ((m.at_ + (j : Int) + 1) ≤ r.commit)) false (sayF h21) ?_
            refine At.a 12 ?_
            refine At.done rfl ⟨by kernel_rfl, ?_⟩
            refine AW.cond false (by kernel_rfl) (fun h => by cases h) (fun _ => ?_)
            refine AW.skip ?_
            refine AW.seq ?_
            refine AW.regionD Tryz_mix (At.start ?_)
            refine At.a 2 ?_
            refine At.c (spec_l10End_spec  r ) Tryz.call65 true [] [] [] trivial ?_
            refine At.a 2 ?_
            by_cases h25 : (m.at_ + (j : Int) + 1) > (r.hard.log.length : Int)
            · refine At.sB 99 (decide ((m.at_ + (j : Int) + 1) > (r.hard.log.length : Int))) true (sayT h25) ?_
              refine At.a 12 ?_
              refine At.done rfl ⟨by kernel_rfl, ?_⟩
              refine AW.cond true (by kernel_rfl) (fun _ => ?_) (fun h => by cases h)
              refine AW.r ?_
              refine At.a 1 ?_
              refine At.done rfl ?_
              refine AW.ret ?_
              refine ⟨_, Sub.refl _ _, ?_⟩
              refine KF.conv (fun w => .bool w) (fun w => []) (show (true) = (rowB m && !cutsB r m) from by have q : cutsB r m = false := (by first | (rw [cutsB, hfit, Bool.true_and, hQ, List.drop_of_length_le (by omega), cutGo]; done) | (rw [cutsB, hfit, Bool.true_and, hQ, dropCons (List.getElem?_eq_getElem (l := m.entries) (i := j) (by omega)), cutGo, if_neg (by omega)]; done) | (rw [cutsB, hfit, Bool.true_and, hQ, dropCons (by assumption), cutGo, if_pos (by omega), if_neg (by assumption)]; done) | (rw [cutsB, hfit, Bool.true_and, hQ, List.drop_of_length_le (by omega), cutGo]; rw [decide_eq_false (by omega)]) | (rw [cutsB, hfit, Bool.true_and, hQ, dropCons (List.getElem?_eq_getElem (l := m.entries) (i := j) (by omega)), cutGo, if_neg (by omega)]; rw [decide_eq_false (by omega)]) | (rw [cutsB, hfit, Bool.true_and, hQ, dropCons (by assumption), cutGo, if_pos (by omega), if_neg (by assumption)]; rw [decide_eq_false (by omega)])); rw [hrow, q]; rfl) ?_
              exact KF.m [] [.bool true]
            · refine At.sB 99 (decide ((m.at_ + (j : Int) + 1) > (r.hard.log.length : Int))) false (sayF h25) ?_
              refine At.a 3 ?_
              refine At.c (spec_l10Term_spec  r.hard (m.at_ + (j : Int) + 1) (by omega)) Tryz.call115 true [] [] [] trivial ?_
              refine At.a 3 ?_
              refine At.iSl 24 107 (.tmp 105) (.tmp 106) false 6 (m.entries.map encEnt) .i64 (j : Int) 45 (by omega) (by simp only [List.length_map, List.length_append, List.length_take, List.length_drop, List.length_replicate, List.length_set, List.length_cons, List.length_nil]; omega) ?_
              refine At.a 1 ?_
              refine Exists.elim (show ∃ e, m.entries[j]? = some e from ⟨_, List.getElem?_eq_getElem (by omega)⟩) fun e6 he6 => ?_
              refine At.lVp 3 109 (.tmp 108) false 6 (m.entries.map encEnt) j 0 false 1 (encEnt e6) (.int .i64 e6.term) (mapGet he6) ?_
              refine At.a 2 ?_
              refine At.done rfl ⟨by kernel_rfl, ?_⟩
              refine AW.cU (termAt r.hard.log (m.at_ + (j : Int) + 1)) e6.term (fun h26 => ?_) (fun h26 => ?_)
              · skip
                refine AW.r ?_
                refine At.a 1 ?_
                refine At.done rfl ?_
                refine AW.ret ?_
                refine ⟨_, Sub.refl _ _, ?_⟩
                refine KF.conv (fun w => .bool w) (fun w => []) (show (true) = (rowB m && !cutsB r m) from by have q : cutsB r m = false := (by first | (rw [cutsB, hfit, Bool.true_and, hQ, List.drop_of_length_le (by omega), cutGo]; done) | (rw [cutsB, hfit, Bool.true_and, hQ, dropCons (List.getElem?_eq_getElem (l := m.entries) (i := j) (by omega)), cutGo, if_neg (by omega)]; done) | (rw [cutsB, hfit, Bool.true_and, hQ, dropCons (by assumption), cutGo, if_pos (by omega), if_neg (by assumption)]; done) | (rw [cutsB, hfit, Bool.true_and, hQ, List.drop_of_length_le (by omega), cutGo]; rw [decide_eq_false (by omega)]) | (rw [cutsB, hfit, Bool.true_and, hQ, dropCons (List.getElem?_eq_getElem (l := m.entries) (i := j) (by omega)), cutGo, if_neg (by omega)]; rw [decide_eq_false (by omega)]) | (rw [cutsB, hfit, Bool.true_and, hQ, dropCons (by assumption), cutGo, if_pos (by omega), if_neg (by assumption)]; rw [decide_eq_false (by omega)])); rw [hrow, q]; rfl) ?_
                exact KF.m [] [.bool true]
              · skip
                refine AW.skip ?_
                refine AW.region (At.start ?_)
                refine At.a 2 ?_
                refine At.sI 72 ((j : Int) + 1) (by omega) ?_
                refine At.a 1 ?_
                refine At.done rfl ?_
                exact ⟨j + 1, ⟨by omega, by rw [hQ, dropCons (by assumption), cutGo, if_pos (by omega), if_pos (by assumption), show m.at_ + ((j + 1 : Nat) : Int) = m.at_ + (j : Int) + 1 from by omega]⟩, (by omega), Sub.o [(102, 102), (103, 103)] [false, false, true, true, false, false, false, true]⟩
        · skip
          refine AW.exit ?_
          refine AW.r ?_
          refine At.a 1 ?_
          refine At.done rfl ?_
          refine AW.ret ?_
          refine ⟨_, Sub.refl _ _, ?_⟩
          refine KF.conv (fun w => .bool w) (fun w => []) (show (true) = (rowB m && !cutsB r m) from by have q : cutsB r m = false := (by first | (rw [cutsB, hfit, Bool.true_and, hQ, List.drop_of_length_le (by omega), cutGo]; done) | (rw [cutsB, hfit, Bool.true_and, hQ, dropCons (List.getElem?_eq_getElem (l := m.entries) (i := j) (by omega)), cutGo, if_neg (by omega)]; done) | (rw [cutsB, hfit, Bool.true_and, hQ, dropCons (by assumption), cutGo, if_pos (by omega), if_neg (by assumption)]; done) | (rw [cutsB, hfit, Bool.true_and, hQ, List.drop_of_length_le (by omega), cutGo]; rw [decide_eq_false (by omega)]) | (rw [cutsB, hfit, Bool.true_and, hQ, dropCons (List.getElem?_eq_getElem (l := m.entries) (i := j) (by omega)), cutGo, if_neg (by omega)]; rw [decide_eq_false (by omega)]) | (rw [cutsB, hfit, Bool.true_and, hQ, dropCons (by assumption), cutGo, if_pos (by omega), if_neg (by assumption)]; rw [decide_eq_false (by omega)])); rw [hrow, q]; rfl) ?_
          exact KF.m [] [.bool true]
set_option maxRecDepth 100000 in
set_option maxHeartbeats 4000000 in
theorem spec_l10Rest_spec  (r : Raft) : FnSpec Tryz.prog 138 [.agg [.int .i64 r.id, .int .i64 r.of_, .int .i64 r.role, .int .i64 r.commit, .int .i64 r.hard.term, .int .i64 r.hard.vote, .ref 0, .ref 1, .ref 2, .ref 3]] [.arr 45 6 (r.hard.log.map encEnt), .arr 3 1 (r.yes.map encI), .arr 3 1 (r.next.map encI), .arr 3 1 (r.match_.map encI)] (.agg [.int .i64 r.id, .int .i64 r.of_, .int .i64 1, .int .i64 r.commit, .int .i64 r.hard.term, .int .i64 r.hard.vote, .ref 0, .ref 4, .ref 5, .ref 6]) [.arr 45 6 (r.hard.log.map encEnt), .arr 3 1 (r.yes.map encI), .arr 3 1 (r.next.map encI), .arr 3 1 (r.match_.map encI), .arr 3 1 [], .arr 3 1 [], .arr 3 1 []] := by
  refine FnSpec.of 8 Tryz.func138 rfl Tryz.ntmps138 (by simp) (AW.weakK ?_)
  refine AW.r ?_
  refine At.a 2 ?_
  refine At.done rfl ?_
  refine AW.seq ?_
  refine AW.weak (Sub.nils [⟨true, 102, some 6, 5001, 45, 6⟩, ⟨true, 102, some 7, 5002, 3, 1⟩, ⟨true, 102, some 8, 5003, 3, 1⟩, ⟨true, 102, some 9, 5004, 3, 1⟩] (by kernel_rfl)) ?_
  refine AW.region (At.start ?_)
  refine At.a 2 ?_
  refine At.done rfl ?_
  refine AW.r ?_
  refine At.a 2 ?_
  refine At.done rfl ?_
  refine AW.seq ?_
  refine AW.weak (Sub.nils [⟨true, 101, some 7, 5005, 3, 1⟩] (by kernel_rfl)) ?_
  refine AW.region (At.start ?_)
  refine At.a 2 ?_
  refine At.done rfl ?_
  refine AW.seq ?_
  refine AW.weak (Sub.nils [⟨true, 101, some 8, 5006, 3, 1⟩] (by kernel_rfl)) ?_
  refine AW.region (At.start ?_)
  refine At.a 2 ?_
  refine At.done rfl ?_
  refine AW.seq ?_
  refine AW.weak (Sub.nils [⟨true, 101, some 9, 5007, 3, 1⟩] (by kernel_rfl)) ?_
  refine AW.region (At.start ?_)
  refine At.a 2 ?_
  refine At.done rfl ?_
  refine AW.ret ?_
  refine ⟨_, Sub.refl _ _, ?_⟩
  refine KF.conv (fun w => .agg [.int .i64 w.id, .int .i64 w.of_, .int .i64 w.role, .int .i64 w.commit, .int .i64 w.hard.term, .int .i64 w.hard.vote, .ref 0, .ref 4, .ref 5, .ref 6]) (fun w => [.arr 45 6 (r.hard.log.map encEnt), .arr 3 1 (r.yes.map encI), .arr 3 1 (r.next.map encI), .arr 3 1 (r.match_.map encI), .arr 3 1 (w.yes.map encI), .arr 3 1 (w.next.map encI), .arr 3 1 (w.match_.map encI)]) (show ((⟨r.id, r.of_, 1, r.commit, r.hard, [], [], []⟩ : Raft)) = (({ r with role := 1, yes := [], next := [], match_ := [] } : Raft)) from by simp_all) ?_
  exact KF.m [(0, 0), (1, 1), (2, 2), (3, 3), (5005, 4), (5006, 5), (5007, 6)] [.agg [.int .i64 r.id, .int .i64 r.of_, .int .i64 1, .int .i64 r.commit, .int .i64 r.hard.term, .int .i64 r.hard.vote, .ref 0, .ref 5005, .ref 5006, .ref 5007]]
set_option maxRecDepth 100000 in
set_option maxHeartbeats 4000000 in
theorem spec_l10Follow_spec  (r : Raft) (t_ : Int) : FnSpec Tryz.prog 109 [.agg [.int .i64 r.id, .int .i64 r.of_, .int .i64 r.role, .int .i64 r.commit, .int .i64 r.hard.term, .int .i64 r.hard.vote, .ref 0, .ref 1, .ref 2, .ref 3], .int .i64 t_] [.arr 45 6 (r.hard.log.map encEnt), .arr 3 1 (r.yes.map encI), .arr 3 1 (r.next.map encI), .arr 3 1 (r.match_.map encI)] (.agg [.int .i64 r.id, .int .i64 r.of_, .int .i64 1, .int .i64 r.commit, .int .i64 t_, .int .i64 0, .ref 0, .ref 4, .ref 5, .ref 6]) [.arr 45 6 (r.hard.log.map encEnt), .arr 3 1 (r.yes.map encI), .arr 3 1 (r.next.map encI), .arr 3 1 (r.match_.map encI), .arr 3 1 [], .arr 3 1 [], .arr 3 1 []] := by
  refine FnSpec.of 13 Tryz.func109 rfl Tryz.ntmps109 (by simp) (AW.weakK ?_)
  refine AW.r ?_
  refine At.a 2 ?_
  refine At.done rfl ?_
  refine AW.seq ?_
  refine AW.weak (Sub.nils [⟨true, 104, some 6, 5001, 45, 6⟩, ⟨true, 104, some 7, 5002, 3, 1⟩, ⟨true, 104, some 8, 5003, 3, 1⟩, ⟨true, 104, some 9, 5004, 3, 1⟩] (by kernel_rfl)) ?_
  refine AW.region (At.start ?_)
  refine At.a 1 ?_
  refine At.c (spec_l10Rest_spec  r ) Tryz.call138 true [(0, 0), (1, 1), (2, 2), (3, 3)] [(1120, 4), (1121, 5), (1122, 6)] [] trivial ?_
  refine At.a 1 ?_
  refine At.done rfl ?_
  refine AW.r ?_
  refine At.a 4 ?_
  refine At.done rfl ?_
  refine AW.r ?_
  refine At.a 3 ?_
  refine At.done rfl ?_
  refine AW.r ?_
  refine At.a 2 ?_
  refine At.done rfl ?_
  refine AW.ret ?_
  refine ⟨_, Sub.refl _ _, ?_⟩
  refine KF.conv (fun w => .agg [.int .i64 w.id, .int .i64 w.of_, .int .i64 w.role, .int .i64 w.commit, .int .i64 w.hard.term, .int .i64 w.hard.vote, .ref 0, .ref 4, .ref 5, .ref 6]) (fun w => [.arr 45 6 (r.hard.log.map encEnt), .arr 3 1 (r.yes.map encI), .arr 3 1 (r.next.map encI), .arr 3 1 (r.match_.map encI), .arr 3 1 (w.yes.map encI), .arr 3 1 (w.next.map encI), .arr 3 1 (w.match_.map encI)]) (show ((⟨r.id, r.of_, 1, r.commit, ⟨t_, 0, r.hard.log⟩, [], [], []⟩ : Raft)) = (({ r with role := 1, yes := [], next := [], match_ := [], hard := { r.hard with term := t_, vote := 0 } } : Raft)) from by simp_all) ?_
  exact KF.m [(0, 0), (1, 1), (2, 2), (3, 3), (1120, 4), (1121, 5), (1122, 6)] [.agg [.int .i64 r.id, .int .i64 r.of_, .int .i64 1, .int .i64 r.commit, .int .i64 t_, .int .i64 0, .ref 0, .ref 1120, .ref 1121, .ref 1122]]
set_option maxRecDepth 100000 in
set_option maxHeartbeats 4000000 in
theorem spec_l10Vote_spec  (r : Raft) : FnSpec Tryz.prog 98 [.agg [.int .i64 r.id, .int .i64 r.of_, .int .i64 r.role, .int .i64 r.commit, .int .i64 r.hard.term, .int .i64 r.hard.vote, .sl false 6 (r.hard.log.map encEnt), .sl false 1 (r.yes.map encI), .sl false 1 (r.next.map encI), .sl false 1 (r.match_.map encI)]] [] (.agg [.int .i64 1, .int .i64 r.hard.term, .int .i64 r.hard.vote, .int .i64 0, .int .i64 0, .int .i64 0, .int .i64 0, .int .i64 0, .int .i64 0, .str (⟨#[]⟩ : ByteArray)]) [] := by
  refine FnSpec.of 10 Tryz.func98 rfl Tryz.ntmps98 (by simp) (AW.weakK ?_)
  refine AW.r ?_
  refine At.a 2 ?_
  refine At.done rfl ?_
  refine AW.r ?_
  refine At.a 8 ?_
  refine At.done rfl ?_
  refine AW.ret ?_
  refine ⟨_, Sub.refl _ _, ?_⟩
  exact KF.m [] [.agg [.int .i64 1, .int .i64 r.hard.term, .int .i64 r.hard.vote, .int .i64 0, .int .i64 0, .int .i64 0, .int .i64 0, .int .i64 0, .int .i64 0, .str (⟨#[]⟩ : ByteArray)]]
set_option maxRecDepth 100000 in
set_option maxHeartbeats 4000000 in
theorem spec_l1Min_spec  (a : Int) (b : Int) : FnSpec Tryz.prog 111 [.int .i64 a, .int .i64 b] [] (.int .i64 (min a b)) [] := by
  refine FnSpec.of 10 Tryz.func111 rfl Tryz.ntmps111 (by simp) (AW.weakK ?_)
  refine AW.r ?_
  refine At.a 1 ?_
  refine At.done rfl ?_
  refine AW.seq ?_
  refine AW.r ?_
  refine At.a 3 ?_
  refine At.done rfl ?_
  refine AW.cD (a < b) (fun h1 => ?_) (fun h1 => ?_)
  · skip
    refine AW.r ?_
    refine At.a 2 ?_
    refine At.done rfl ?_
    refine AW.ret ?_
    refine ⟨_, Sub.refl _ _, ?_⟩
    refine KF.conv (fun w => .int .i64 w) (fun w => []) (show (a) = (min a b) from by omega) ?_
    exact KF.m [] [.int .i64 a]
  · skip
    refine AW.skip ?_
    refine AW.r ?_
    refine At.a 2 ?_
    refine At.done rfl ?_
    refine AW.ret ?_
    refine ⟨_, Sub.refl _ _, ?_⟩
    refine KF.conv (fun w => .int .i64 w) (fun w => []) (show (b) = (min a b) from by omega) ?_
    exact KF.m [] [.int .i64 b]
set_option maxRecDepth 100000 in
set_option maxHeartbeats 4000000 in
theorem spec_l10Put_spec  (r : Raft) (e : Ent) (recs : List Rec) (hl : r.hard.log.length ≤ 1048576) (hr : recs.length ≤ 1048576) : FnSpec Tryz.prog 105 [.agg [.int .i64 r.id, .int .i64 r.of_, .int .i64 r.role, .int .i64 r.commit, .int .i64 r.hard.term, .int .i64 r.hard.vote, .ref 0, .ref 1, .ref 2, .ref 3], .agg [.int .i64 e.term, .int .i64 e.cmd.kind, .int .i64 e.cmd.release, .int .i64 e.cmd.node, .int .i64 e.cmd.size, .str e.cmd.digest], .ref 4] [.arr 45 6 (r.hard.log.map encEnt), .arr 3 1 (r.yes.map encI), .arr 3 1 (r.next.map encI), .arr 3 1 (r.match_.map encI), .arr 47 10 (recs.map encRec)] (.tup [.agg [.int .i64 r.id, .int .i64 r.of_, .int .i64 r.role, .int .i64 r.commit, .int .i64 r.hard.term, .int .i64 r.hard.vote, .ref 5, .ref 1, .ref 2, .ref 3], .ref 6]) [.arr 45 6 (r.hard.log.map encEnt), .arr 3 1 (r.yes.map encI), .arr 3 1 (r.next.map encI), .arr 3 1 (r.match_.map encI), .dead, .arr 45 6 ((r.hard.log ++ [e]).map encEnt), .arr 47 10 ((recs ++ [(⟨2, 0, 0, ((r.hard.log ++ [e]).length : Int), e⟩ : Rec)]).map encRec)] := by
  refine FnSpec.of 26 Tryz.func105 rfl Tryz.ntmps105 (by simp) (AW.weakK ?_)
  refine AW.r ?_
  refine At.a 4 ?_
  refine At.done rfl ?_
  refine AW.seq ?_
  refine AW.weak (Sub.nils [⟨true, 106, some 6, 5001, 45, 6⟩, ⟨true, 106, some 7, 5002, 3, 1⟩, ⟨true, 106, some 8, 5003, 3, 1⟩, ⟨true, 106, some 9, 5004, 3, 1⟩] (by kernel_rfl)) ?_
  refine AW.regionD Tryz_mix (At.start ?_)
  refine At.lit0 (t := 24) (d := 8) (e := 45) (es := 6) (bytes := 56) 108 (by kernel_rfl) (by kernel_rfl) (by kernel_rfl) (by kernel_rfl) ?_
  refine At.a 3 ?_
  refine At.append (t := 24) (d := 12) (e := 45) (es := 6) (bytes := 56) (s := .tmp 8) (x := .tmp 11) (S := .ref 108) (T := .ref 0) (xs := []) (ys := (r.hard.log.map encEnt)) 112 [108] [] (r.hard.log.map encEnt) (by kernel_rfl) (by kernel_rfl) (by kernel_rfl) (by kernel_rfl) ⟨by kernel_rfl, rfl⟩ ⟨by kernel_rfl, .inl ⟨rfl, (allP_encEnt _)⟩⟩ (by kernel_rfl) (by kernel_rfl) (by simp) (by simp only [List.length_map, List.length_append, List.length_take, List.length_drop, List.length_replicate, List.length_set, List.length_cons, List.length_nil]; omega) (by simp only [List.length_map, List.length_append, List.length_take, List.length_drop, List.length_replicate, List.length_set, List.length_cons, List.length_nil]; omega) ?_
  refine At.a 1 ?_
  refine At.litK (t := 24) (d := 14) (e := 45) (es := 6) (bytes := 56) (n := 1) (parts := #[(0, .tmp 13)]) (45, 6) 114 [] [.int .i64 e.term, .int .i64 e.cmd.kind, .int .i64 e.cmd.release, .int .i64 e.cmd.node, .int .i64 e.cmd.size, .str e.cmd.digest] [.int .i64 e.term, .int .i64 e.cmd.kind, .int .i64 e.cmd.release, .int .i64 e.cmd.node, .int .i64 e.cmd.size, .str e.cmd.digest] [.int .i64 0, .int .i64 0, .int .i64 0, .int .i64 0, .int .i64 0, .str (⟨#[]⟩ : ByteArray)] [.agg [.int .i64 e.term, .int .i64 e.cmd.kind, .int .i64 e.cmd.release, .int .i64 e.cmd.node, .int .i64 e.cmd.size, .str e.cmd.digest]] [] (by kernel_rfl) (by kernel_rfl) (by kernel_rfl) (by kernel_rfl) rfl (fun p hp => by cases hp) (by kernel_rfl) ?_
  refine At.append (t := 24) (d := 15) (e := 45) (es := 6) (bytes := 56) (s := .tmp 12) (x := .tmp 14) (S := .ref 112) (T := .ref 114) (xs := (r.hard.log.map encEnt)) (ys := (([e]).map encEnt)) 115 [112] [114] ((r.hard.log ++ ([e])).map encEnt) (by kernel_rfl) (by kernel_rfl) (by kernel_rfl) (by kernel_rfl) ⟨by kernel_rfl, rfl⟩ ⟨by kernel_rfl, .inr rfl⟩ (by kernel_rfl) (by kernel_rfl) (by simp) (by simp only [List.length_map, List.length_append, List.length_take, List.length_drop, List.length_replicate, List.length_set, List.length_cons, List.length_nil]; omega) (by simp only [List.length_map, List.length_append, List.length_take, List.length_drop, List.length_replicate, List.length_set, List.length_cons, List.length_nil]; omega) ?_
  refine At.a 3 ?_
  refine At.done rfl ⟨by kernel_rfl, ?_⟩
  refine AW.seq ?_
  refine AW.regionD Tryz_mix (At.start ?_)
  refine At.a 3 ?_
  refine At.c (spec_l10End_spec  (⟨r.id, r.of_, r.role, r.commit, ⟨r.hard.term, r.hard.vote, r.hard.log ++ ([e])⟩, r.yes, r.next, r.match_⟩ : Raft) ) Tryz.call65 false [] [] [(115, 6, ((r.hard.log ++ ([e])).map encEnt)), (1, 1, (r.yes.map encI)), (2, 1, (r.next.map encI)), (3, 1, (r.match_.map encI))] ⟨rfl, ⟨45, ((r.hard.log ++ ([e])).map encEnt), by kernel_rfl, FrzIs.same (allP_encEnt _)⟩, rfl, ⟨3, (r.yes.map encI), by kernel_rfl, FrzIs.same (allP_encI _)⟩, rfl, ⟨3, (r.next.map encI), by kernel_rfl, FrzIs.same (allP_encI _)⟩, rfl, ⟨3, (r.match_.map encI), by kernel_rfl, FrzIs.same (allP_encI _)⟩, trivial⟩ ?_
  refine At.a 2 ?_
  refine At.litK (t := 37) (d := 24) (e := 47) (es := 10) (bytes := 88) (n := 1) (parts := #[(0, .tmp 23)]) (45, 6) 124 [] [.int .i64 2, .int .i64 0, .int .i64 0, .int .i64 ((r.hard.log ++ ([e])).length : Int), .int .i64 e.term, .int .i64 e.cmd.kind, .int .i64 e.cmd.release, .int .i64 e.cmd.node, .int .i64 e.cmd.size, .str e.cmd.digest] [.int .i64 2, .int .i64 0, .int .i64 0, .int .i64 ((r.hard.log ++ ([e])).length : Int), .int .i64 e.term, .int .i64 e.cmd.kind, .int .i64 e.cmd.release, .int .i64 e.cmd.node, .int .i64 e.cmd.size, .str e.cmd.digest] [.int .i64 0, .int .i64 0, .int .i64 0, .int .i64 0, .int .i64 0, .int .i64 0, .int .i64 0, .int .i64 0, .int .i64 0, .str (⟨#[]⟩ : ByteArray)] [.agg [.int .i64 2, .int .i64 0, .int .i64 0, .int .i64 ((r.hard.log ++ ([e])).length : Int), .int .i64 e.term, .int .i64 e.cmd.kind, .int .i64 e.cmd.release, .int .i64 e.cmd.node, .int .i64 e.cmd.size, .str e.cmd.digest]] [] (by kernel_rfl) (by kernel_rfl) (by kernel_rfl) (by kernel_rfl) rfl (fun p hp => by cases hp) (by kernel_rfl) ?_
  refine At.append (t := 37) (d := 25) (e := 47) (es := 10) (bytes := 88) (s := .tmp 19) (x := .tmp 24) (S := .ref 4) (T := .ref 124) (xs := (recs.map encRec)) (ys := (([(⟨2, 0, 0, ((r.hard.log ++ ([e])).length : Int), e⟩ : Rec)]).map encRec)) 125 [4] [124] ((recs ++ ([(⟨2, 0, 0, ((r.hard.log ++ ([e])).length : Int), e⟩ : Rec)])).map encRec) (by kernel_rfl) (by kernel_rfl) (by kernel_rfl) (by kernel_rfl) ⟨by kernel_rfl, rfl⟩ ⟨by kernel_rfl, .inr rfl⟩ (by kernel_rfl) (by kernel_rfl) (by simp) (by simp only [List.length_map, List.length_append, List.length_take, List.length_drop, List.length_replicate, List.length_set, List.length_cons, List.length_nil]; omega) (by simp only [List.length_map, List.length_append, List.length_take, List.length_drop, List.length_replicate, List.length_set, List.length_cons, List.length_nil]; omega) ?_
  refine At.a 2 ?_
  refine At.done rfl ⟨by kernel_rfl, ?_⟩
  refine AW.ret ?_
  refine ⟨_, Sub.refl _ _, ?_⟩
  refine KF.conv (fun w => .tup [.agg [.int .i64 w.id, .int .i64 w.of_, .int .i64 w.role, .int .i64 w.commit, .int .i64 w.hard.term, .int .i64 w.hard.vote, .ref 5, .ref 1, .ref 2, .ref 3], .ref 6]) (fun w => [.arr 45 6 (r.hard.log.map encEnt), .arr 3 1 (r.yes.map encI), .arr 3 1 (r.next.map encI), .arr 3 1 (r.match_.map encI), .dead, .arr 45 6 (w.hard.log.map encEnt), .arr 47 10 ((recs ++ [(⟨2, 0, 0, ((r.hard.log ++ [e]).length : Int), e⟩ : Rec)]).map encRec)]) (show ((⟨r.id, r.of_, r.role, r.commit, ⟨r.hard.term, r.hard.vote, r.hard.log ++ ([e])⟩, r.yes, r.next, r.match_⟩ : Raft)) = (({ r with hard := { r.hard with log := r.hard.log ++ [e] } } : Raft)) from by rfl) ?_
  refine KF.conv (fun w => .tup [.agg [.int .i64 r.id, .int .i64 r.of_, .int .i64 r.role, .int .i64 r.commit, .int .i64 r.hard.term, .int .i64 r.hard.vote, .ref 5, .ref 1, .ref 2, .ref 3], .ref 6]) (fun w => [.arr 45 6 (r.hard.log.map encEnt), .arr 3 1 (r.yes.map encI), .arr 3 1 (r.next.map encI), .arr 3 1 (r.match_.map encI), .dead, .arr 45 6 ((r.hard.log ++ ([e])).map encEnt), .arr 47 10 (w.map encRec)]) (show (recs ++ ([(⟨2, 0, 0, ((r.hard.log ++ ([e])).length : Int), e⟩ : Rec)])) = (recs ++ [(⟨2, 0, 0, ((r.hard.log ++ [e]).length : Int), e⟩ : Rec)]) from by rfl) ?_
  exact KF.m [(0, 0), (1, 1), (2, 2), (3, 3), (4, 4), (115, 5), (125, 6)] [.agg [.int .i64 r.id, .int .i64 r.of_, .int .i64 r.role, .int .i64 r.commit, .int .i64 r.hard.term, .int .i64 r.hard.vote, .ref 115, .ref 1, .ref 2, .ref 3], .ref 125]
set_option maxRecDepth 100000 in
set_option maxHeartbeats 4000000 in
theorem spec_l1Max_spec  (a : Int) (b : Int) : FnSpec Tryz.prog 59 [.int .i64 a, .int .i64 b] [] (.int .i64 (max a b)) [] := by
  refine FnSpec.of 10 Tryz.func59 rfl Tryz.ntmps59 (by simp) (AW.weakK ?_)
  refine AW.r ?_
  refine At.a 1 ?_
  refine At.done rfl ?_
  refine AW.seq ?_
  refine AW.r ?_
  refine At.a 3 ?_
  refine At.done rfl ?_
  refine AW.cD (a > b) (fun h1 => ?_) (fun h1 => ?_)
  · skip
    refine AW.r ?_
    refine At.a 2 ?_
    refine At.done rfl ?_
    refine AW.ret ?_
    refine ⟨_, Sub.refl _ _, ?_⟩
    refine KF.conv (fun w => .int .i64 w) (fun w => []) (show (a) = (max a b) from by omega) ?_
    exact KF.m [] [.int .i64 a]
  · skip
    refine AW.skip ?_
    refine AW.r ?_
    refine At.a 2 ?_
    refine At.done rfl ?_
    refine AW.ret ?_
    refine ⟨_, Sub.refl _ _, ?_⟩
    refine KF.conv (fun w => .int .i64 w) (fun w => []) (show (b) = (max a b) from by omega) ?_
    exact KF.m [] [.int .i64 b]
end Go.Proofs.YtlmadhahghiedaaGreat
