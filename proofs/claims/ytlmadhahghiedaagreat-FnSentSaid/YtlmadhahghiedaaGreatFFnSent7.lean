/- The contracts of the functions that FnSent reaches (each: what it answers, said over values), printed by a program of this session (wip/sy/g/gen.py). -/
import Derived.Test.YtlmadhahghiedaaGreatFFnSent6
set_option linter.unusedVariables false
set_option linter.unusedSimpArgs false
set_option maxRecDepth 100000
set_option maxHeartbeats 4000000
namespace Go.Proofs.YtlmadhahghiedaaGreat
open Go Go.Sy Go.Proofs
def K_impl_stepper_take (rs : List ResultVar) (s : Stepper) (m : Msg) (w0_ : Int) (w1_ : Stepper) : Exit → Sg → Prop := KF Tryz.prog 7 rs (.int .i64 w0_) [.box 102 [.int .i64 w1_.r.id, .int .i64 w1_.r.of_, .int .i64 w1_.r.role, .int .i64 w1_.r.commit, .int .i64 w1_.r.hard.term, .int .i64 w1_.r.hard.vote, .ref 7, .ref 2, .ref 3, .ref 4, .int .i64 w1_.was.id, .int .i64 w1_.was.of_, .int .i64 w1_.was.role, .int .i64 w1_.was.commit, .int .i64 w1_.was.hard.term, .int .i64 w1_.was.hard.vote, .sl false 6 (w1_.was.hard.log.map encEnt), .sl false 1 (w1_.was.yes.map encI), .sl false 1 (w1_.was.next.map encI), .sl false 1 (w1_.was.match_.map encI), .ref 8, .ref 6], .dead, .arr 3 1 (w1_.r.yes.map encI), .arr 3 1 (w1_.r.next.map encI), .arr 3 1 (w1_.r.match_.map encI), .dead, .arr 51 17 (w1_.outs.map encOut), .arr 45 6 (w1_.r.hard.log.map encEnt), .arr 47 10 (w1_.recs.map encRec)]
theorem impl_stepper_take_spec  (s : Stepper) (m : Msg) (hm : m.entries.length ≤ 6) (ha : 0 ≤ m.at_ ∧ m.at_ ≤ s.r.hard.log.length) (hl : s.r.hard.log.length ≤ 80) (hr : s.recs.length ≤ 1000) : FnSpec Tryz.prog 94 [.ptr 0 0 0, (msgA m)] [.box 102 [.int .i64 s.r.id, .int .i64 s.r.of_, .int .i64 s.r.role, .int .i64 s.r.commit, .int .i64 s.r.hard.term, .int .i64 s.r.hard.vote, .ref 1, .ref 2, .ref 3, .ref 4, .int .i64 s.was.id, .int .i64 s.was.of_, .int .i64 s.was.role, .int .i64 s.was.commit, .int .i64 s.was.hard.term, .int .i64 s.was.hard.vote, .sl false 6 (s.was.hard.log.map encEnt), .sl false 1 (s.was.yes.map encI), .sl false 1 (s.was.next.map encI), .sl false 1 (s.was.match_.map encI), .ref 5, .ref 6], .arr 45 6 (s.r.hard.log.map encEnt), .arr 3 1 (s.r.yes.map encI), .arr 3 1 (s.r.next.map encI), .arr 3 1 (s.r.match_.map encI), .arr 47 10 (s.recs.map encRec), .arr 51 17 (s.outs.map encOut)] (.int .i64 ((takeE m.entries m.at_ s.r.hard.log s.recs).2.2)) [.box 102 [.int .i64 s.r.id, .int .i64 s.r.of_, .int .i64 s.r.role, .int .i64 s.r.commit, .int .i64 s.r.hard.term, .int .i64 s.r.hard.vote, .ref 7, .ref 2, .ref 3, .ref 4, .int .i64 s.was.id, .int .i64 s.was.of_, .int .i64 s.was.role, .int .i64 s.was.commit, .int .i64 s.was.hard.term, .int .i64 s.was.hard.vote, .sl false 6 (s.was.hard.log.map encEnt), .sl false 1 (s.was.yes.map encI), .sl false 1 (s.was.next.map encI), .sl false 1 (s.was.match_.map encI), .ref 8, .ref 6], .dead, .arr 3 1 (s.r.yes.map encI), .arr 3 1 (s.r.next.map encI), .arr 3 1 (s.r.match_.map encI), .dead, .arr 51 17 (s.outs.map encOut), .arr 45 6 (((takeE m.entries m.at_ s.r.hard.log s.recs).1).map encEnt), .arr 47 10 (((takeE m.entries m.at_ s.r.hard.log s.recs).2.1).map encRec)] := by
 refine FnSpec.of 95 Tryz.func94 rfl Tryz.ntmps94 (by simp) (AW.weakK ?_)
 refine AW.q 2 ?_
 refine AW.q 3 ?_
 refine AW.seq ?_
 refine AW.r ?_
 refine At.a 3 ?_
 refine At.sL 13 encEnt m.entries ?_
 refine At.z 1 ?_
 refine AW.block ?_
 refine AW.weak (Sub.mv 1 7000 (by kernel_rfl) (by decide)) ?_
 refine AW.weak (Sub.mv 5 7001 (by kernel_rfl) (by decide)) ?_
 refine AW.loopW (fun (x : Nat × Int × List Ent × List Rec) => match x with | (k, b, lg, rc) => Go.Sy.mk [.ptr 0 0 0, .un, .un, .ptr 103 0 0, .un, .int .i64 b, .un, .un, .un, .un, .un, .un, .sl false 6 (m.entries.map encEnt), .int .i64 (m.entries.length : Int), .int .i64 (k : Int)] [(0, .box 102 [.int .i64 s.r.id, .int .i64 s.r.of_, .int .i64 s.r.role, .int .i64 s.r.commit, .int .i64 s.r.hard.term, .int .i64 s.r.hard.vote, .ref 7000, .ref 2, .ref 3, .ref 4, .int .i64 s.was.id, .int .i64 s.was.of_, .int .i64 s.was.role, .int .i64 s.was.commit, .int .i64 s.was.hard.term, .int .i64 s.was.hard.vote, .sl false 6 (s.was.hard.log.map encEnt), .sl false 1 (s.was.yes.map encI), .sl false 1 (s.was.next.map encI), .sl false 1 (s.was.match_.map encI), .ref 7001, .ref 6]), (1, .dead), (2, .arr 3 1 (s.r.yes.map encI)), (3, .arr 3 1 (s.r.next.map encI)), (4, .arr 3 1 (s.r.match_.map encI)), (5, .dead), (6, .arr 51 17 (s.outs.map encOut)), (103, .box 33 [.int .i64 m.kind, .int .i64 m.from_, .int .i64 m.term, .int .i64 m.at_, .int .i64 m.atTerm, .int .i64 m.commit, .bool m.yes, .int .i64 m.release, .int .i64 m.part, .str m.bytes, .int .i64 m.cmd.kind, .int .i64 m.cmd.release, .int .i64 m.cmd.node, .int .i64 m.cmd.size, .str m.cmd.digest, .sl false 6 (m.entries.map encEnt)]), (7000, .arr 45 6 (lg.map encEnt)), (7001, .arr 47 10 (rc.map encRec))]) (fun (x : Nat × Int × List Ent × List Rec) => match x with | (k, b, lg, rc) => k ≤ m.entries.length ∧ (b = m.at_ + (k : Int) ∧ b ≤ lg.length ∧ lg.length ≤ 80 ∧ rc.length ≤ 1000 + 2 * k) ∧ takeE m.entries m.at_ s.r.hard.log s.recs = takeE (m.entries.drop k) b lg rc) (fun (x : Nat × Int × List Ent × List Rec) => match x with | (k, b, lg, rc) => m.entries.length - k) (0, m.at_, s.r.hard.log, s.recs) ⟨by omega, by omega, by rw [List.drop_zero]⟩ (Sub.o [(0, 0), (1, 1), (2, 2), (3, 3), (4, 4), (5, 5), (6, 6), (103, 103), (7000, 7000), (7001, 7001)] [true, false, false, true, false, true, false, false, false, false, false, false, true, true, true]) ?_
 rintro ⟨k, b, lg, rc⟩ ⟨hk, hb, hR⟩
 refine AW.q 1 ?_
 refine AW.seq ?_
 refine AW.cD ((k : Int) < (m.entries.length : Int)) (fun h1 => ?_) (fun h1 => ?_)
 · refine AW.skip ?_
   refine AW.seq ?_
   refine AW.block ?_
   refine AW.r ?_
   refine At.a 1 ?_
   refine At.iSl 24 17 (.tmp 12) (.tmp 14) false 6 (m.entries.map encEnt) .i64 (k : Int) 45 (by omega) (by simp only [List.length_map]; omega) ?_
   refine Exists.elim (gE m.entries k (by omega)) fun e1 he1 => ?_
   refine At.lVp 45 18 (.tmp 17) false 6 (m.entries.map encEnt) k 0 true 6 (encEnt e1) (.agg [.int .i64 e1.term, .int .i64 e1.cmd.kind, .int .i64 e1.cmd.release, .int .i64 e1.cmd.node, .int .i64 e1.cmd.size, .str e1.cmd.digest]) (mapGet he1) ?_
   refine At.z 3 ?_
   refine AW.r ?_
   refine At.a 4 ?_
   refine At.sI 22 (m.at_ + (k : Int)) (by omega) ?_
   refine At.a 1 ?_
   refine At.say 23 (.int .i64 (IntKind.i64.wrap ((m.at_ + (k : Int)) + 1))) (.int .i64 (b + 1)) (by kernel_rfl) (sayAs (by omega) (by omega)) ?_
   refine At.z 1 ?_
   refine AW.seq ?_
   refine AW.seq ?_
   refine AW.gD Tryz_mix ?_
   refine At.a 8 ?_
   refine At.sL 31 encEnt lg ?_
   refine At.a 2 ?_
   by_cases h2 : (b + 1) ≤ (lg.length : Int)
   · refine At.sB 33 _ _ (sayT h2) ?_
     refine At.a 7 ?_
     refine At.c (impl_termAt_spec  lg (b + 1) (by omega) (by omega)) Tryz.call158 false [] [] [(7000, 6, (lg.map encEnt))] ⟨rfl, ⟨45, (lg.map encEnt), by kernel_rfl, FrzIs.same (allP_encEnt _)⟩, trivial⟩ ?_
     refine At.zD 4 ?_
     refine AW.cU (termAt lg (b + 1)) e1.term (fun h3 => ?_) (fun h3 => ?_)
     · refine AW.r ?_
       refine At.a 9 ?_
       refine At.sJ 54 ((b + 1) - 1) b (by omega) (by omega) ?_
       refine At.cutRef (t := 24) (d := 55) (e := 45) (es := 6) (i := 7000) (x := .tmp 52) (lx := none) (hx := some (.tmp 54)) (xs := (lg.map encEnt)) (vl := .un) (vh := .int .i64 b) 155 ((b).toNat) ((lg.take ((b).toNat)).map encEnt) (by kernel_rfl) (by kernel_rfl) (by kernel_rfl) (by kernel_rfl) (by kernel_rfl) (by kernel_rfl) (by decide) (.inl ⟨rfl, rfl⟩) (.inr ⟨_, _, rfl, sayNat (by omega)⟩) (by simp only [List.length_map]; omega) (by rw [List.map_take]) ?_
       refine At.z 5 ?_
       refine AW.g ?_
       refine At.a 7 ?_
       refine At.sJ 66 ((b + 1) - 1) b (by omega) (by omega) ?_
       refine At.a 1 ?_
       refine At.ll 68 47 10 168 (45, 6) (([(⟨3, 0, 0, b, ⟨0, ⟨0, 0, 0, 0, (⟨#[]⟩ : ByteArray)⟩⟩⟩ : Rec)]).map encRec) ?_
       refine At.apK 69 47 10 88 169 7001 168 encRec rc ([(⟨3, 0, 0, b, ⟨0, ⟨0, 0, 0, 0, (⟨#[]⟩ : ByteArray)⟩⟩⟩ : Rec)]) (by simp only [List.length_map, List.length_append, List.length_take, List.length_drop, List.length_replicate, List.length_set, List.length_cons, List.length_nil]; omega) ?_
       refine At.z 3 ?_
       refine AW.seq ?_
       refine AW.r ?_
       refine At.a 8 ?_
       refine At.sL 79 encEnt (lg.take ((b).toNat)) ?_
       refine At.z 1 ?_
       refine AW.condT (decide ((b + 1) > ((lg.take ((b).toNat)).length : Int))) (by kernel_rfl) (decide_eq_true (by rw [List.length_take]; omega)) ?_
       refine AW.seq ?_
       refine AW.r ?_
       refine At.a 7 ?_
       refine At.sL 87 encEnt (lg.take ((b).toNat)) ?_
       refine At.z 1 ?_
       refine AW.condF (((lg.take ((b).toNat)).length : Int) == 80) (by kernel_rfl) (beq_eq_false_iff_ne.2 (by rw [List.length_take]; omega)) ?_
       refine AW.skip ?_
       refine AW.g ?_
       refine At.a 2 ?_
       refine At.c (impl_stepper_put_spec  (⟨⟨s.r.id, s.r.of_, s.r.role, s.r.commit, ⟨s.r.hard.term, s.r.hard.vote, lg.take ((b).toNat)⟩, s.r.yes, s.r.next, s.r.match_⟩, s.was, rc ++ ([(⟨3, 0, 0, b, ⟨0, ⟨0, 0, 0, 0, (⟨#[]⟩ : ByteArray)⟩⟩⟩ : Rec)]), s.outs⟩ : Stepper) e1 (by dsimp only; first | omega | (rw [List.length_take]; omega)) (by dsimp only; first | omega | (simp only [List.length_append, List.length_cons, List.length_nil]; omega))) Tryz.call102 true [(0, 0), (155, 1), (2, 2), (3, 3), (4, 4), (169, 5), (6, 6)] [(2820, 7), (2821, 8)] [] trivial ?_
       refine At.done rfl ?_
       refine AW.gq 2 ?_
       refine AW.g ?_
       refine At.a 1 ?_
       refine At.sI 93 ((k : Int) + 1) (by omega) ?_
       refine At.z 1 ?_
       exact ⟨(k + 1, (b + 1), ((lg.take ((b).toNat)) ++ [e1]), ((rc ++ ([(⟨3, 0, 0, b, ⟨0, ⟨0, 0, 0, 0, (⟨#[]⟩ : ByteArray)⟩⟩⟩ : Rec)])) ++ [(⟨2, 0, 0, (((lg.take ((b).toNat)) ++ [e1]).length : Int), e1⟩ : Rec)])), ⟨by omega, ⟨by omega, by simp only [List.length_append, List.length_take, List.length_cons, List.length_nil]; omega, by simp only [List.length_append, List.length_take, List.length_cons, List.length_nil]; omega, by simp only [List.length_append, List.length_cons, List.length_nil]; omega⟩, by rw [hR, dropCons (by assumption)]; exact takeE_cut2 (by omega) (by assumption) (by simp only [List.length_append, List.length_take, List.length_cons, List.length_nil]; omega)⟩, (by simp only; omega), Sub.o [(0, 0), (1, 1), (2, 2), (3, 3), (4, 4), (5, 5), (6, 6), (103, 103), (2820, 7000), (2821, 7001)] [true, false, false, true, false, true, false, false, false, false, false, false, true, true, true]⟩
     refine AW.skip ?_
     refine AW.seq ?_
     refine AW.r ?_
     refine At.a 8 ?_
     refine At.sL 79 encEnt lg ?_
     refine At.z 1 ?_
     refine AW.cD ((b + 1) > (lg.length : Int)) (fun h4 => ?_) (fun h4 => ?_)
     · refine AW.seq ?_
       refine AW.r ?_
       refine At.a 7 ?_
       refine At.sL 87 encEnt lg ?_
       refine At.z 1 ?_
       refine AW.cE (lg.length : Int) (80 : Int) (fun h5 => ?_) (fun h5 => ?_)
       · refine AW.exit ?_
         refine AW.q 2 ?_
         exact AW.ret (rf (k2 (K_impl_stepper_take _ s m) (show (b) = ((takeE m.entries m.at_ s.r.hard.log s.recs).2.2) from by rw [hR, List.drop_of_length_le (by omega)]; rfl) (show ((⟨⟨s.r.id, s.r.of_, s.r.role, s.r.commit, ⟨s.r.hard.term, s.r.hard.vote, lg⟩, s.r.yes, s.r.next, s.r.match_⟩, s.was, rc, s.outs⟩ : Stepper)) = (({ s with r := { s.r with hard := { s.r.hard with log := (takeE m.entries m.at_ s.r.hard.log s.recs).1 } }, recs := (takeE m.entries m.at_ s.r.hard.log s.recs).2.1 } : Stepper)) from by rw [hR, List.drop_of_length_le (by omega)]; rfl) (KF.n [(0, 0), (1, 1), (2, 2), (3, 3), (4, 4), (5, 5), (6, 6), (7000, 7), (7001, 8)])))
       refine AW.skip ?_
       refine AW.g ?_
       refine At.a 2 ?_
       refine At.c (impl_stepper_put_spec  (⟨⟨s.r.id, s.r.of_, s.r.role, s.r.commit, ⟨s.r.hard.term, s.r.hard.vote, lg⟩, s.r.yes, s.r.next, s.r.match_⟩, s.was, rc, s.outs⟩ : Stepper) e1 (by dsimp only; first | omega | (rw [List.length_take]; omega)) (by dsimp only; first | omega | (simp only [List.length_append, List.length_cons, List.length_nil]; omega))) Tryz.call102 true [(0, 0), (7000, 1), (2, 2), (3, 3), (4, 4), (7001, 5), (6, 6)] [(2820, 7), (2821, 8)] [] trivial ?_
       refine At.done rfl ?_
       refine AW.gq 2 ?_
       refine AW.g ?_
       refine At.a 1 ?_
       refine At.sI 93 ((k : Int) + 1) (by omega) ?_
       refine At.z 1 ?_
       exact ⟨(k + 1, (b + 1), (lg ++ [e1]), (rc ++ [(⟨2, 0, 0, ((lg ++ [e1]).length : Int), e1⟩ : Rec)])), ⟨by omega, ⟨by omega, by omega, by omega, by omega⟩, by exfalso; omega⟩, (by omega), Sub.o [(0, 0), (1, 1), (2, 2), (3, 3), (4, 4), (5, 5), (6, 6), (103, 103), (2820, 7000), (2821, 7001)] [true, false, false, true, false, true, false, false, false, false, false, false, true, true, true]⟩
     refine AW.skip ?_
     refine AW.gq 2 ?_
     refine AW.g ?_
     refine At.a 1 ?_
     refine At.sI 93 ((k : Int) + 1) (by omega) ?_
     refine At.z 1 ?_
     exact ⟨(k + 1, (b + 1), lg, rc), ⟨by omega, ⟨by omega, by omega, by omega, by omega⟩, by rw [hR, dropCons (by assumption), takeE_same (by omega) (by assumption)]⟩, (by simp only; omega), Sub.o [(0, 0), (1, 1), (2, 2), (3, 3), (4, 4), (5, 5), (6, 6), (103, 103), (7000, 7000), (7001, 7001)] [true, false, false, true, false, true, false, false, false, false, false, false, true, true, true]⟩
   refine At.sB 33 _ _ (sayF h2) ?_
   refine At.zD 12 ?_
   refine AW.cond false (by kernel_rfl) (fun h => by cases h) (fun _ => ?_)
   refine AW.skip ?_
   refine AW.seq ?_
   refine AW.r ?_
   refine At.a 8 ?_
   refine At.sL 79 encEnt lg ?_
   refine At.z 1 ?_
   refine AW.cD ((b + 1) > (lg.length : Int)) (fun h6 => ?_) (fun h6 => ?_)
   · refine AW.seq ?_
     refine AW.r ?_
     refine At.a 7 ?_
     refine At.sL 87 encEnt lg ?_
     refine At.z 1 ?_
     refine AW.cE (lg.length : Int) (80 : Int) (fun h7 => ?_) (fun h7 => ?_)
     · refine AW.exit ?_
       refine AW.q 2 ?_
       exact AW.ret (rf (k2 (K_impl_stepper_take _ s m) (show (b) = ((takeE m.entries m.at_ s.r.hard.log s.recs).2.2) from by rw [hR, dropCons (by assumption), takeE_full (by omega) (by omega)]) (show ((⟨⟨s.r.id, s.r.of_, s.r.role, s.r.commit, ⟨s.r.hard.term, s.r.hard.vote, lg⟩, s.r.yes, s.r.next, s.r.match_⟩, s.was, rc, s.outs⟩ : Stepper)) = (({ s with r := { s.r with hard := { s.r.hard with log := (takeE m.entries m.at_ s.r.hard.log s.recs).1 } }, recs := (takeE m.entries m.at_ s.r.hard.log s.recs).2.1 } : Stepper)) from by rw [hR, dropCons (by assumption), takeE_full (by omega) (by omega)]) (KF.n [(0, 0), (1, 1), (2, 2), (3, 3), (4, 4), (5, 5), (6, 6), (7000, 7), (7001, 8)])))
     refine AW.skip ?_
     refine AW.g ?_
     refine At.a 2 ?_
     refine At.c (impl_stepper_put_spec  (⟨⟨s.r.id, s.r.of_, s.r.role, s.r.commit, ⟨s.r.hard.term, s.r.hard.vote, lg⟩, s.r.yes, s.r.next, s.r.match_⟩, s.was, rc, s.outs⟩ : Stepper) e1 (by dsimp only; first | omega | (rw [List.length_take]; omega)) (by dsimp only; first | omega | (simp only [List.length_append, List.length_cons, List.length_nil]; omega))) Tryz.call102 true [(0, 0), (7000, 1), (2, 2), (3, 3), (4, 4), (7001, 5), (6, 6)] [(2820, 7), (2821, 8)] [] trivial ?_
     refine At.done rfl ?_
     refine AW.gq 2 ?_
     refine AW.g ?_
     refine At.a 1 ?_
     refine At.sI 93 ((k : Int) + 1) (by omega) ?_
     refine At.z 1 ?_
     exact ⟨(k + 1, (b + 1), (lg ++ [e1]), (rc ++ [(⟨2, 0, 0, ((lg ++ [e1]).length : Int), e1⟩ : Rec)])), ⟨by omega, ⟨by omega, by simp only [List.length_append, List.length_take, List.length_cons, List.length_nil]; omega, by simp only [List.length_append, List.length_take, List.length_cons, List.length_nil]; omega, by simp only [List.length_append, List.length_cons, List.length_nil]; omega⟩, by rw [hR, dropCons (by assumption)]; exact takeE_put2 (by omega) (by omega) (by simp only [List.length_append, List.length_take, List.length_cons, List.length_nil]; omega)⟩, (by simp only; omega), Sub.o [(0, 0), (1, 1), (2, 2), (3, 3), (4, 4), (5, 5), (6, 6), (103, 103), (2820, 7000), (2821, 7001)] [true, false, false, true, false, true, false, false, false, false, false, false, true, true, true]⟩
   refine AW.skip ?_
   refine AW.gq 2 ?_
   refine AW.g ?_
   refine At.a 1 ?_
   refine At.sI 93 ((k : Int) + 1) (by omega) ?_
   refine At.z 1 ?_
   exact ⟨(k + 1, (b + 1), lg, rc), ⟨by omega, ⟨by omega, by omega, by omega, by omega⟩, by exfalso; omega⟩, (by omega), Sub.o [(0, 0), (1, 1), (2, 2), (3, 3), (4, 4), (5, 5), (6, 6), (103, 103), (7000, 7000), (7001, 7001)] [true, false, false, true, false, true, false, false, false, false, false, false, true, true, true]⟩
 refine AW.exit ?_
 refine AW.q 2 ?_
 exact AW.ret (rf (k2 (K_impl_stepper_take _ s m) (show (b) = ((takeE m.entries m.at_ s.r.hard.log s.recs).2.2) from by rw [hR, List.drop_of_length_le (by omega)]; rfl) (show ((⟨⟨s.r.id, s.r.of_, s.r.role, s.r.commit, ⟨s.r.hard.term, s.r.hard.vote, lg⟩, s.r.yes, s.r.next, s.r.match_⟩, s.was, rc, s.outs⟩ : Stepper)) = (({ s with r := { s.r with hard := { s.r.hard with log := (takeE m.entries m.at_ s.r.hard.log s.recs).1 } }, recs := (takeE m.entries m.at_ s.r.hard.log s.recs).2.1 } : Stepper)) from by rw [hR, List.drop_of_length_le (by omega)]; rfl) (KF.n [(0, 0), (1, 1), (2, 2), (3, 3), (4, 4), (5, 5), (6, 6), (7000, 7), (7001, 8)])))
def K_impl_OnSend (rs : List ResultVar) (r : Raft) (m : Msg) (w0_ : Raft) (w1_ : List Rec) (w2_ : List Out) : Exit → Sg → Prop := KF Tryz.prog 0 rs (.tup [.agg [.int .i64 w0_.id, .int .i64 w0_.of_, .int .i64 w0_.role, .int .i64 w0_.commit, .int .i64 w0_.hard.term, .int .i64 w0_.hard.vote, .ref 0, .ref 1, .ref 2, .ref 3], .ref 4, .ref 5]) [.arr 45 6 (w0_.hard.log.map encEnt), .arr 3 1 (w0_.yes.map encI), .arr 3 1 (w0_.next.map encI), .arr 3 1 (w0_.match_.map encI), .arr 47 10 (w1_.map encRec), .arr 51 17 (w2_.map encOut)]
theorem impl_OnSend_spec  (r : Raft) (m : Msg) (hz : SmallR r) (hm : m.entries.length ≤ 1048576) : FnSpec Tryz.prog 27 [(raftA r), (msgA m)] [] (.tup [.agg [.int .i64 (((sends r m).1).id), .int .i64 (((sends r m).1).of_), .int .i64 (((sends r m).1).role), .int .i64 (((sends r m).1).commit), .int .i64 (((sends r m).1).hard.term), .int .i64 (((sends r m).1).hard.vote), .ref 0, .ref 1, .ref 2, .ref 3], .ref 4, .ref 5]) [.arr 45 6 ((((sends r m).1).hard.log).map encEnt), .arr 3 1 ((((sends r m).1).yes).map encI), .arr 3 1 ((((sends r m).1).next).map encI), .arr 3 1 ((((sends r m).1).match_).map encI), .arr 47 10 (((sends r m).2.1).map encRec), .arr 51 17 (((sends r m).2.2).map encOut)] := by
 obtain ⟨z1, z2, z3, z4⟩ := id hz
 refine FnSpec.of 112 Tryz.func27 rfl Tryz.ntmps27 (by simp) (AW.weakK ?_)
 by_cases hok : raftOk r = true
 · have hokn := raftOk1_nums (raftOk_1 hok)
   refine AW.q 5 ?_
   refine AW.seq ?_
   refine AW.weak (Sub.nils [⟨true, 104, some 6, 5001, 45, 6⟩, ⟨true, 104, some 7, 5002, 3, 1⟩, ⟨true, 104, some 8, 5003, 3, 1⟩, ⟨true, 104, some 9, 5004, 3, 1⟩] (by kernel_rfl)) ?_
   refine AW.g ?_
   refine At.a 1 ?_
   refine At.c (impl_stepOf_spec  r (by exact hz)) Tryz.call80 true [] [(1200, 0), (1201, 1), (1202, 2), (1203, 3), (1204, 4), (1205, 5), (1206, 6)] [] trivial ?_
   refine At.z 1 ?_
   refine AW.seq ?_
   refine AW.r ?_
   refine At.a 2 ?_
   refine At.c (impl_stepper_mayHear_spec  (⟨r, r, [], []⟩ : Stepper) m 3 (by exact hz) hm) Tryz.call85 true [(1200, 0), (1201, 1), (1202, 2), (1203, 3), (1204, 4), (1205, 5), (1206, 6)] [] [] trivial ?_
   refine At.a 2 ?_
   by_cases h1 : (hears r m 3) = true
   · refine At.sB 15 (!(hears r m 3)) false (sayNF (sayB h1)) ?_
     have hhr := hears_ok h1
     have hnu := msgFits_nums hhr.2.1
     refine At.a 1 ?_
     refine At.c (impl_inRow_spec  m hm hnu.2.1) Tryz.call86 true [] [] [] trivial ?_
     refine At.a 3 ?_
     by_cases h2 : (rowB m) = true
     · refine At.sB 20 (!(rowB m)) false (sayNF (sayB h2)) ?_
       refine At.a 2 ?_
       refine At.c (impl_cutsBelow_spec  r m (by exact hz) hm hnu.2.1) Tryz.call87 true [] [] [] trivial ?_
       refine At.z 1 ?_
       refine AW.cB (cutsB r m) (fun h3 => ?_) (fun h3 => ?_)
       · refine AW.r ?_
         refine At.a 1 ?_
         refine At.c (impl_stepper_none_T_spec  (⟨r, r, [], []⟩ : Stepper) (by exact hz) hok) Tryz.call88 true [(1200, 0), (1201, 1), (1202, 2), (1203, 3), (1204, 4), (1205, 5), (1206, 6)] [(1520, 7), (1521, 8), (1522, 9), (1523, 10), (1524, 11), (1525, 12)] [] trivial ?_
         refine At.z 6 ?_
         exact AW.ret (rf (k3 (K_impl_OnSend _ r m) (show (r) = ((sends r m).1) from by rw [sends_no (sendB_not (by first | exact .inl (by assumption) | exact .inr (.inl (by assumption)) | exact .inr (.inr (by assumption)) | (simp only [Bool.and_eq_false_iff, Bool.not_eq_false'] at *; grind))) hok]; first | done | rfl | (rw [endRecs_ne (by dsimp only; omega)]; rfl) | (rw [endRecs_eq rfl rfl]; done) | (rw [endRecs_eq rfl rfl]; rfl) | (rw [show r.hard.term = m.term from by omega]; rfl)) (show ([]) = ((sends r m).2.1) from by rw [sends_no (sendB_not (by first | exact .inl (by assumption) | exact .inr (.inl (by assumption)) | exact .inr (.inr (by assumption)) | (simp only [Bool.and_eq_false_iff, Bool.not_eq_false'] at *; grind))) hok]; first | done | rfl | (rw [endRecs_ne (by dsimp only; omega)]; rfl) | (rw [endRecs_eq rfl rfl]; done) | (rw [endRecs_eq rfl rfl]; rfl) | (rw [show r.hard.term = m.term from by omega]; rfl)) (show ([]) = ((sends r m).2.2) from by rw [sends_no (sendB_not (by first | exact .inl (by assumption) | exact .inr (.inl (by assumption)) | exact .inr (.inr (by assumption)) | (simp only [Bool.and_eq_false_iff, Bool.not_eq_false'] at *; grind))) hok]; first | done | rfl | (rw [endRecs_ne (by dsimp only; omega)]; rfl) | (rw [endRecs_eq rfl rfl]; done) | (rw [endRecs_eq rfl rfl]; rfl) | (rw [show r.hard.term = m.term from by omega]; rfl)) (KF.n [(1520, 0), (1521, 1), (1522, 2), (1523, 3), (1524, 4), (1525, 5)])))
       refine AW.skip ?_
       refine AW.seq ?_
       refine AW.q 6 ?_
       refine AW.cD (m.term < r.hard.term) (fun h4 => ?_) (fun h4 => ?_)
       · refine AW.r ?_
         refine At.a 3 ?_
         refine At.c (impl_stepper_got_spec  (⟨r, r, [], []⟩ : Stepper) m.from_ false 0 (by simp)) Tryz.call89 true [(1200, 0), (1201, 1), (1202, 2), (1203, 3), (1204, 4), (1205, 5), (1206, 6)] [(1780, 7)] [] trivial ?_
         refine At.done rfl ?_
         refine AW.r ?_
         refine At.a 1 ?_
         refine At.c (impl_stepper_end_spec  (⟨r, r, [], ([]) ++ [(⟨m.from_, ⟨4, r.id, r.hard.term, 0, 0, 0, false, 0, 0, ⟨#[]⟩, ⟨0, 0, 0, 0, ⟨#[]⟩⟩, []⟩⟩ : Out)]⟩ : Stepper) (by simp; done)) Tryz.call90 true [(1200, 0), (1201, 1), (1202, 2), (1203, 3), (1204, 4), (1205, 5), (1780, 6)] [(1820, 7)] [] trivial ?_
         refine At.z 6 ?_
         exact AW.ret (rf (k3 (K_impl_OnSend _ r m) (show (r) = ((sends r m).1) from by rw [sends_old (sendB_of h1 h2 (by assumption)) (by omega)]; first | done | rfl | (rw [endRecs_ne (by dsimp only; omega)]; rfl) | (rw [endRecs_eq rfl rfl]; done) | (rw [endRecs_eq rfl rfl]; rfl) | (rw [show r.hard.term = m.term from by omega]; rfl)) (show (endRecs (⟨r, r, [], ([]) ++ [(⟨m.from_, ⟨4, r.id, r.hard.term, 0, 0, 0, false, 0, 0, ⟨#[]⟩, ⟨0, 0, 0, 0, ⟨#[]⟩⟩, []⟩⟩ : Out)]⟩ : Stepper)) = ((sends r m).2.1) from by rw [sends_old (sendB_of h1 h2 (by assumption)) (by omega)]; first | done | rfl | (rw [endRecs_ne (by dsimp only; omega)]; rfl) | (rw [endRecs_eq rfl rfl]; done) | (rw [endRecs_eq rfl rfl]; rfl) | (rw [show r.hard.term = m.term from by omega]; rfl)) (show (([]) ++ [(⟨m.from_, ⟨4, r.id, r.hard.term, 0, 0, 0, false, 0, 0, ⟨#[]⟩, ⟨0, 0, 0, 0, ⟨#[]⟩⟩, []⟩⟩ : Out)]) = ((sends r m).2.2) from by rw [sends_old (sendB_of h1 h2 (by assumption)) (by omega)]; first | done | rfl | (rw [endRecs_ne (by dsimp only; omega)]; rfl) | (rw [endRecs_eq rfl rfl]; done) | (rw [endRecs_eq rfl rfl]; rfl) | (rw [show r.hard.term = m.term from by omega]; rfl)) (KF.n [(1201, 0), (1202, 1), (1203, 2), (1204, 3), (1820, 4), (1780, 5)])))
       refine AW.skip ?_
       refine AW.seq ?_
       refine AW.r ?_
       refine At.a 3 ?_
       by_cases h5 : m.term ≤ r.hard.term
       · refine At.c (impl_stepper_followTerm_T_spec  (⟨r, r, [], []⟩ : Stepper) m.term h5) Tryz.call91 true [(1200, 0), (1201, 1), (1202, 2), (1203, 3), (1204, 4), (1205, 5), (1206, 6)] [] [] trivial ?_
         refine At.z 6 ?_
         refine AW.cE r.role (3 : Int) (fun h6 => ?_) (fun h6 => ?_)
         · have hnx := raftOk_next hok h6
           have hmx := raftOk_match hok h6
           refine AW.r ?_
           refine At.a 1 ?_
           refine At.c (impl_stepper_none_T_spec  (⟨r, r, [], []⟩ : Stepper) (by exact hz) hok) Tryz.call88 true [(1200, 0), (1201, 1), (1202, 2), (1203, 3), (1204, 4), (1205, 5), (1206, 6)] [(2120, 7), (2121, 8), (2122, 9), (2123, 10), (2124, 11), (2125, 12)] [] trivial ?_
           refine At.z 6 ?_
           exact AW.ret (rf (k3 (K_impl_OnSend _ r m) (show (r) = ((sends r m).1) from by rw [sends_lead (sendB_of h1 h2 (by assumption)) (by omega) (by omega) (by omega)]; first | done | rfl | (rw [endRecs_ne (by dsimp only; omega)]; rfl) | (rw [endRecs_eq rfl rfl]; done) | (rw [endRecs_eq rfl rfl]; rfl) | (rw [show r.hard.term = m.term from by omega]; rfl)) (show ([]) = ((sends r m).2.1) from by rw [sends_lead (sendB_of h1 h2 (by assumption)) (by omega) (by omega) (by omega)]; first | done | rfl | (rw [endRecs_ne (by dsimp only; omega)]; rfl) | (rw [endRecs_eq rfl rfl]; done) | (rw [endRecs_eq rfl rfl]; rfl) | (rw [show r.hard.term = m.term from by omega]; rfl)) (show ([]) = ((sends r m).2.2) from by rw [sends_lead (sendB_of h1 h2 (by assumption)) (by omega) (by omega) (by omega)]; first | done | rfl | (rw [endRecs_ne (by dsimp only; omega)]; rfl) | (rw [endRecs_eq rfl rfl]; done) | (rw [endRecs_eq rfl rfl]; rfl) | (rw [show r.hard.term = m.term from by omega]; rfl)) (KF.n [(2120, 0), (2121, 1), (2122, 2), (2123, 3), (2124, 4), (2125, 5)])))
         refine AW.skip ?_
         refine AW.r ?_
         refine At.a 1 ?_
         refine At.c (impl_stepper_follow_spec  (⟨r, r, [], []⟩ : Stepper) ) Tryz.call92 true [(1200, 0), (1201, 1), (1202, 2), (1203, 3), (1204, 4), (1205, 5), (1206, 6)] [(2220, 7), (2221, 8), (2222, 9)] [] trivial ?_
         refine At.done rfl ?_
         refine AW.seq ?_
         refine AW.r ?_
         refine At.a 4 ?_
         refine At.c (impl_fits_spec  r.hard.log m (by omega) hm hnu.2.1) Tryz.call93 true [] [] [] trivial ?_
         refine At.z 1 ?_
         refine AW.cNB (fitsB r.hard.log m) (fun h7 => ?_) (fun h7 => ?_)
         · refine AW.r ?_
           refine At.a 7 ?_
           refine At.sL 74 encEnt r.hard.log ?_
           refine At.a 3 ?_
           refine At.sI 77 (m.at_ - 1) (by omega) ?_
           refine At.mm (d := 78) (b := .min) (x := .tmp 74) (y := .tmp 77) (ats := #[3, 3]) (q := .i64) (m := (r.hard.log.length : Int)) (n := m.at_ - 1) (if (m.at_ - 1) < (r.hard.log.length : Int) then m.at_ - 1 else (r.hard.log.length : Int)) (by kernel_rfl) (by kernel_rfl) (by kernel_rfl) (by kernel_rfl) (.inl ⟨rfl, rfl⟩) ?_
           refine At.say 78 (.int .i64 (if (m.at_ - 1) < (r.hard.log.length : Int) then m.at_ - 1 else (r.hard.log.length : Int))) (.int .i64 (min (r.hard.log.length : Int) (m.at_ - 1))) (by kernel_rfl) (congrArg (V.int .i64) (by omega)) ?_
           refine At.c (impl_stepper_got_spec  (⟨⟨r.id, r.of_, 1, r.commit, ⟨r.hard.term, r.hard.vote, r.hard.log⟩, [], [], []⟩, r, [], []⟩ : Stepper) m.from_ false (min (r.hard.log.length : Int) (m.at_ - 1)) (by simp)) Tryz.call89 true [(1200, 0), (1201, 1), (2220, 2), (2221, 3), (2222, 4), (1205, 5), (1206, 6)] [(2580, 7)] [] trivial ?_
           refine At.done rfl ?_
           refine AW.r ?_
           refine At.a 1 ?_
           refine At.c (impl_stepper_end_spec  (⟨⟨r.id, r.of_, 1, r.commit, ⟨r.hard.term, r.hard.vote, r.hard.log⟩, [], [], []⟩, r, [], ([]) ++ [(⟨m.from_, ⟨4, r.id, r.hard.term, (min (r.hard.log.length : Int) (m.at_ - 1)), 0, 0, false, 0, 0, ⟨#[]⟩, ⟨0, 0, 0, 0, ⟨#[]⟩⟩, []⟩⟩ : Out)]⟩ : Stepper) (by simp; done)) Tryz.call90 true [(1200, 0), (1201, 1), (2220, 2), (2221, 3), (2222, 4), (1205, 5), (2580, 6)] [(2620, 7)] [] trivial ?_
           refine At.z 6 ?_
           exact AW.ret (rf (k3 (K_impl_OnSend _ r m) (show ((⟨r.id, r.of_, 1, r.commit, r.hard, [], [], []⟩ : Raft)) = ((sends r m).1) from by rw [sends_far0 (sendB_of h1 h2 (by assumption)) (by omega) (by omega) (by omega) (by assumption)]; first | done | rfl | (rw [endRecs_ne (by dsimp only; omega)]; rfl) | (rw [endRecs_eq rfl rfl]; done) | (rw [endRecs_eq rfl rfl]; rfl) | (rw [show r.hard.term = m.term from by omega]; rfl)) (show (endRecs (⟨⟨r.id, r.of_, 1, r.commit, ⟨r.hard.term, r.hard.vote, r.hard.log⟩, [], [], []⟩, r, [], ([]) ++ [(⟨m.from_, ⟨4, r.id, r.hard.term, (min (r.hard.log.length : Int) (m.at_ - 1)), 0, 0, false, 0, 0, ⟨#[]⟩, ⟨0, 0, 0, 0, ⟨#[]⟩⟩, []⟩⟩ : Out)]⟩ : Stepper)) = ((sends r m).2.1) from by rw [sends_far0 (sendB_of h1 h2 (by assumption)) (by omega) (by omega) (by omega) (by assumption)]; first | done | rfl | (rw [endRecs_ne (by dsimp only; omega)]; rfl) | (rw [endRecs_eq rfl rfl]; done) | (rw [endRecs_eq rfl rfl]; rfl) | (rw [show r.hard.term = m.term from by omega]; rfl)) (show (([]) ++ [(⟨m.from_, ⟨4, r.id, r.hard.term, (min (r.hard.log.length : Int) (m.at_ - 1)), 0, 0, false, 0, 0, ⟨#[]⟩, ⟨0, 0, 0, 0, ⟨#[]⟩⟩, []⟩⟩ : Out)]) = ((sends r m).2.2) from by rw [sends_far0 (sendB_of h1 h2 (by assumption)) (by omega) (by omega) (by omega) (by assumption)]; first | done | rfl | (rw [endRecs_ne (by dsimp only; omega)]; rfl) | (rw [endRecs_eq rfl rfl]; done) | (rw [endRecs_eq rfl rfl]; rfl) | (rw [show r.hard.term = m.term from by omega]; rfl)) (KF.n [(1201, 0), (2220, 1), (2221, 2), (2222, 3), (2620, 4), (2580, 5)])))
         have hfit := h7
         refine AW.skip ?_
         refine AW.r ?_
         refine At.a 2 ?_
         refine At.c (impl_stepper_take_spec  (⟨⟨r.id, r.of_, 1, r.commit, ⟨r.hard.term, r.hard.vote, r.hard.log⟩, [], [], []⟩, r, [], []⟩ : Stepper) m (by omega) (by dsimp only; have := fitsB_at hfit; omega) (by dsimp only; omega) (by simp)) Tryz.call94 true [(1200, 0), (1201, 1), (2220, 2), (2221, 3), (2222, 4), (1205, 5), (1206, 6)] [(2740, 7), (2741, 8)] [] trivial ?_
         refine At.z 1 ?_
         refine AW.seq ?_
         refine AW.gD Tryz_mix ?_
         refine At.a 9 ?_
         refine At.mm (d := 97) (b := .min) (x := .tmp 95) (y := .tmp 96) (ats := #[3, 3]) (q := .i64) (m := m.commit) (n := (takeE m.entries m.at_ r.hard.log ([])).2.2) (if ((takeE m.entries m.at_ r.hard.log ([])).2.2) < m.commit then (takeE m.entries m.at_ r.hard.log ([])).2.2 else m.commit) (by kernel_rfl) (by kernel_rfl) (by kernel_rfl) (by kernel_rfl) (.inl ⟨rfl, rfl⟩) ?_
         refine At.say 97 (.int .i64 (if ((takeE m.entries m.at_ r.hard.log ([])).2.2) < m.commit then (takeE m.entries m.at_ r.hard.log ([])).2.2 else m.commit)) (.int .i64 (min m.commit ((takeE m.entries m.at_ r.hard.log ([])).2.2))) (by kernel_rfl) (congrArg (V.int .i64) (by omega)) ?_
         refine At.mm (d := 98) (b := .max) (x := .tmp 93) (y := .tmp 97) (ats := #[3, 3]) (q := .i64) (m := r.commit) (n := min m.commit ((takeE m.entries m.at_ r.hard.log ([])).2.2)) (if (min m.commit ((takeE m.entries m.at_ r.hard.log ([])).2.2)) > r.commit then min m.commit ((takeE m.entries m.at_ r.hard.log ([])).2.2) else r.commit) (by kernel_rfl) (by kernel_rfl) (by kernel_rfl) (by kernel_rfl) (.inr ⟨rfl, rfl⟩) ?_
         refine At.say 98 (.int .i64 (if (min m.commit ((takeE m.entries m.at_ r.hard.log ([])).2.2)) > r.commit then min m.commit ((takeE m.entries m.at_ r.hard.log ([])).2.2) else r.commit)) (.int .i64 (max r.commit (min m.commit ((takeE m.entries m.at_ r.hard.log ([])).2.2)))) (by kernel_rfl) (congrArg (V.int .i64) (by omega)) ?_
         refine At.zD 4 ?_
         refine AW.r ?_
         refine At.a 4 ?_
         refine At.c (impl_stepper_got_spec  (⟨⟨r.id, r.of_, 1, max r.commit (min m.commit ((takeE m.entries m.at_ r.hard.log ([])).2.2)), ⟨r.hard.term, r.hard.vote, (takeE m.entries m.at_ r.hard.log ([])).1⟩, [], [], []⟩, r, (takeE m.entries m.at_ r.hard.log ([])).2.1, []⟩ : Stepper) m.from_ true ((takeE m.entries m.at_ r.hard.log ([])).2.2) (by simp)) Tryz.call89 true [(1200, 0), (2740, 1), (2220, 2), (2221, 3), (2222, 4), (2741, 5), (1206, 6)] [(3120, 7)] [] trivial ?_
         refine At.done rfl ?_
         refine AW.r ?_
         refine At.a 1 ?_
         refine At.c (impl_stepper_end_spec  (⟨⟨r.id, r.of_, 1, max r.commit (min m.commit ((takeE m.entries m.at_ r.hard.log ([])).2.2)), ⟨r.hard.term, r.hard.vote, (takeE m.entries m.at_ r.hard.log ([])).1⟩, [], [], []⟩, r, (takeE m.entries m.at_ r.hard.log ([])).2.1, ([]) ++ [(⟨m.from_, ⟨4, r.id, r.hard.term, ((takeE m.entries m.at_ r.hard.log ([])).2.2), 0, 0, true, 0, 0, ⟨#[]⟩, ⟨0, 0, 0, 0, ⟨#[]⟩⟩, []⟩⟩ : Out)]⟩ : Stepper) (by dsimp only; have q := takeE_len m.entries m.at_ r.hard.log [] (by omega) (fitsB_at hfit) (by omega); simp only [List.length_nil] at q; omega)) Tryz.call90 true [(1200, 0), (2740, 1), (2220, 2), (2221, 3), (2222, 4), (2741, 5), (3120, 6)] [(3160, 7)] [] trivial ?_
         refine At.z 6 ?_
         exact AW.ret (rf (k3 (K_impl_OnSend _ r m) (show ((⟨r.id, r.of_, 1, max r.commit (min m.commit ((takeE m.entries m.at_ r.hard.log ([])).2.2)), ⟨r.hard.term, r.hard.vote, (takeE m.entries m.at_ r.hard.log ([])).1⟩, [], [], []⟩ : Raft)) = ((sends r m).1) from by rw [sends_take0 (sendB_of h1 h2 (by assumption)) (by omega) (by omega) (by omega) (by assumption)]; first | done | rfl | (rw [endRecs_ne (by dsimp only; omega)]; rfl) | (rw [endRecs_eq rfl rfl]; done) | (rw [endRecs_eq rfl rfl]; rfl) | (rw [show r.hard.term = m.term from by omega]; rfl)) (show (endRecs (⟨⟨r.id, r.of_, 1, max r.commit (min m.commit ((takeE m.entries m.at_ r.hard.log ([])).2.2)), ⟨r.hard.term, r.hard.vote, (takeE m.entries m.at_ r.hard.log ([])).1⟩, [], [], []⟩, r, (takeE m.entries m.at_ r.hard.log ([])).2.1, ([]) ++ [(⟨m.from_, ⟨4, r.id, r.hard.term, ((takeE m.entries m.at_ r.hard.log ([])).2.2), 0, 0, true, 0, 0, ⟨#[]⟩, ⟨0, 0, 0, 0, ⟨#[]⟩⟩, []⟩⟩ : Out)]⟩ : Stepper)) = ((sends r m).2.1) from by rw [sends_take0 (sendB_of h1 h2 (by assumption)) (by omega) (by omega) (by omega) (by assumption)]; first | done | rfl | (rw [endRecs_ne (by dsimp only; omega)]; rfl) | (rw [endRecs_eq rfl rfl]; done) | (rw [endRecs_eq rfl rfl]; rfl) | (rw [show r.hard.term = m.term from by omega]; rfl)) (show (([]) ++ [(⟨m.from_, ⟨4, r.id, r.hard.term, ((takeE m.entries m.at_ r.hard.log ([])).2.2), 0, 0, true, 0, 0, ⟨#[]⟩, ⟨0, 0, 0, 0, ⟨#[]⟩⟩, []⟩⟩ : Out)]) = ((sends r m).2.2) from by rw [sends_take0 (sendB_of h1 h2 (by assumption)) (by omega) (by omega) (by omega) (by assumption)]; first | done | rfl | (rw [endRecs_ne (by dsimp only; omega)]; rfl) | (rw [endRecs_eq rfl rfl]; done) | (rw [endRecs_eq rfl rfl]; rfl) | (rw [show r.hard.term = m.term from by omega]; rfl)) (KF.n [(2740, 0), (2220, 1), (2221, 2), (2222, 3), (3160, 4), (3120, 5)])))
       refine At.c (impl_stepper_followTerm_F_spec  (⟨r, r, [], []⟩ : Stepper) m.term h5) Tryz.call91 true [(1200, 0), (1201, 1), (1202, 2), (1203, 3), (1204, 4), (1205, 5), (1206, 6)] [(1960, 7), (1961, 8), (1962, 9)] [] trivial ?_
       refine At.z 6 ?_
       refine AW.cond false (by kernel_rfl) (fun h => by cases h) (fun _ => ?_)
       refine AW.skip ?_
       refine AW.r ?_
       refine At.a 1 ?_
       refine At.c (impl_stepper_follow_spec  (⟨⟨r.id, r.of_, 1, r.commit, ⟨m.term, 0, r.hard.log⟩, [], [], []⟩, r, [], []⟩ : Stepper) ) Tryz.call92 true [(1200, 0), (1201, 1), (1960, 2), (1961, 3), (1962, 4), (1205, 5), (1206, 6)] [(2220, 7), (2221, 8), (2222, 9)] [] trivial ?_
       refine At.done rfl ?_
       refine AW.seq ?_
       refine AW.r ?_
       refine At.a 4 ?_
       refine At.c (impl_fits_spec  r.hard.log m (by omega) hm hnu.2.1) Tryz.call93 true [] [] [] trivial ?_
       refine At.z 1 ?_
       refine AW.cNB (fitsB r.hard.log m) (fun h8 => ?_) (fun h8 => ?_)
       · refine AW.r ?_
         refine At.a 7 ?_
         refine At.sL 74 encEnt r.hard.log ?_
         refine At.a 3 ?_
         refine At.sI 77 (m.at_ - 1) (by omega) ?_
         refine At.mm (d := 78) (b := .min) (x := .tmp 74) (y := .tmp 77) (ats := #[3, 3]) (q := .i64) (m := (r.hard.log.length : Int)) (n := m.at_ - 1) (if (m.at_ - 1) < (r.hard.log.length : Int) then m.at_ - 1 else (r.hard.log.length : Int)) (by kernel_rfl) (by kernel_rfl) (by kernel_rfl) (by kernel_rfl) (.inl ⟨rfl, rfl⟩) ?_
         refine At.say 78 (.int .i64 (if (m.at_ - 1) < (r.hard.log.length : Int) then m.at_ - 1 else (r.hard.log.length : Int))) (.int .i64 (min (r.hard.log.length : Int) (m.at_ - 1))) (by kernel_rfl) (congrArg (V.int .i64) (by omega)) ?_
         refine At.c (impl_stepper_got_spec  (⟨⟨r.id, r.of_, 1, r.commit, ⟨m.term, 0, r.hard.log⟩, [], [], []⟩, r, [], []⟩ : Stepper) m.from_ false (min (r.hard.log.length : Int) (m.at_ - 1)) (by simp)) Tryz.call89 true [(1200, 0), (1201, 1), (2220, 2), (2221, 3), (2222, 4), (1205, 5), (1206, 6)] [(2580, 7)] [] trivial ?_
         refine At.done rfl ?_
         refine AW.r ?_
         refine At.a 1 ?_
         refine At.c (impl_stepper_end_spec  (⟨⟨r.id, r.of_, 1, r.commit, ⟨m.term, 0, r.hard.log⟩, [], [], []⟩, r, [], ([]) ++ [(⟨m.from_, ⟨4, r.id, m.term, (min (r.hard.log.length : Int) (m.at_ - 1)), 0, 0, false, 0, 0, ⟨#[]⟩, ⟨0, 0, 0, 0, ⟨#[]⟩⟩, []⟩⟩ : Out)]⟩ : Stepper) (by simp; done)) Tryz.call90 true [(1200, 0), (1201, 1), (2220, 2), (2221, 3), (2222, 4), (1205, 5), (2580, 6)] [(2620, 7)] [] trivial ?_
         refine At.z 6 ?_
         exact AW.ret (rf (k3 (K_impl_OnSend _ r m) (show ((⟨r.id, r.of_, 1, r.commit, ⟨m.term, 0, r.hard.log⟩, [], [], []⟩ : Raft)) = ((sends r m).1) from by rw [sends_far1 (sendB_of h1 h2 (by assumption)) (by omega) (by assumption)]; first | done | rfl | (rw [endRecs_ne (by dsimp only; omega)]; rfl) | (rw [endRecs_eq rfl rfl]; done) | (rw [endRecs_eq rfl rfl]; rfl) | (rw [show r.hard.term = m.term from by omega]; rfl)) (show (endRecs (⟨⟨r.id, r.of_, 1, r.commit, ⟨m.term, 0, r.hard.log⟩, [], [], []⟩, r, [], ([]) ++ [(⟨m.from_, ⟨4, r.id, m.term, (min (r.hard.log.length : Int) (m.at_ - 1)), 0, 0, false, 0, 0, ⟨#[]⟩, ⟨0, 0, 0, 0, ⟨#[]⟩⟩, []⟩⟩ : Out)]⟩ : Stepper)) = ((sends r m).2.1) from by rw [sends_far1 (sendB_of h1 h2 (by assumption)) (by omega) (by assumption)]; first | done | rfl | (rw [endRecs_ne (by dsimp only; omega)]; rfl) | (rw [endRecs_eq rfl rfl]; done) | (rw [endRecs_eq rfl rfl]; rfl) | (rw [show r.hard.term = m.term from by omega]; rfl)) (show (([]) ++ [(⟨m.from_, ⟨4, r.id, m.term, (min (r.hard.log.length : Int) (m.at_ - 1)), 0, 0, false, 0, 0, ⟨#[]⟩, ⟨0, 0, 0, 0, ⟨#[]⟩⟩, []⟩⟩ : Out)]) = ((sends r m).2.2) from by rw [sends_far1 (sendB_of h1 h2 (by assumption)) (by omega) (by assumption)]; first | done | rfl | (rw [endRecs_ne (by dsimp only; omega)]; rfl) | (rw [endRecs_eq rfl rfl]; done) | (rw [endRecs_eq rfl rfl]; rfl) | (rw [show r.hard.term = m.term from by omega]; rfl)) (KF.n [(1201, 0), (2220, 1), (2221, 2), (2222, 3), (2620, 4), (2580, 5)])))
       have hfit := h8
       refine AW.skip ?_
       refine AW.r ?_
       refine At.a 2 ?_
       refine At.c (impl_stepper_take_spec  (⟨⟨r.id, r.of_, 1, r.commit, ⟨m.term, 0, r.hard.log⟩, [], [], []⟩, r, [], []⟩ : Stepper) m (by omega) (by dsimp only; have := fitsB_at hfit; omega) (by dsimp only; omega) (by simp)) Tryz.call94 true [(1200, 0), (1201, 1), (2220, 2), (2221, 3), (2222, 4), (1205, 5), (1206, 6)] [(2740, 7), (2741, 8)] [] trivial ?_
       refine At.z 1 ?_
       refine AW.seq ?_
       refine AW.gD Tryz_mix ?_
       refine At.a 9 ?_
       refine At.mm (d := 97) (b := .min) (x := .tmp 95) (y := .tmp 96) (ats := #[3, 3]) (q := .i64) (m := m.commit) (n := (takeE m.entries m.at_ r.hard.log ([])).2.2) (if ((takeE m.entries m.at_ r.hard.log ([])).2.2) < m.commit then (takeE m.entries m.at_ r.hard.log ([])).2.2 else m.commit) (by kernel_rfl) (by kernel_rfl) (by kernel_rfl) (by kernel_rfl) (.inl ⟨rfl, rfl⟩) ?_
       refine At.say 97 (.int .i64 (if ((takeE m.entries m.at_ r.hard.log ([])).2.2) < m.commit then (takeE m.entries m.at_ r.hard.log ([])).2.2 else m.commit)) (.int .i64 (min m.commit ((takeE m.entries m.at_ r.hard.log ([])).2.2))) (by kernel_rfl) (congrArg (V.int .i64) (by omega)) ?_
       refine At.mm (d := 98) (b := .max) (x := .tmp 93) (y := .tmp 97) (ats := #[3, 3]) (q := .i64) (m := r.commit) (n := min m.commit ((takeE m.entries m.at_ r.hard.log ([])).2.2)) (if (min m.commit ((takeE m.entries m.at_ r.hard.log ([])).2.2)) > r.commit then min m.commit ((takeE m.entries m.at_ r.hard.log ([])).2.2) else r.commit) (by kernel_rfl) (by kernel_rfl) (by kernel_rfl) (by kernel_rfl) (.inr ⟨rfl, rfl⟩) ?_
       refine At.say 98 (.int .i64 (if (min m.commit ((takeE m.entries m.at_ r.hard.log ([])).2.2)) > r.commit then min m.commit ((takeE m.entries m.at_ r.hard.log ([])).2.2) else r.commit)) (.int .i64 (max r.commit (min m.commit ((takeE m.entries m.at_ r.hard.log ([])).2.2)))) (by kernel_rfl) (congrArg (V.int .i64) (by omega)) ?_
       refine At.zD 4 ?_
       refine AW.r ?_
       refine At.a 4 ?_
       refine At.c (impl_stepper_got_spec  (⟨⟨r.id, r.of_, 1, max r.commit (min m.commit ((takeE m.entries m.at_ r.hard.log ([])).2.2)), ⟨m.term, 0, (takeE m.entries m.at_ r.hard.log ([])).1⟩, [], [], []⟩, r, (takeE m.entries m.at_ r.hard.log ([])).2.1, []⟩ : Stepper) m.from_ true ((takeE m.entries m.at_ r.hard.log ([])).2.2) (by simp)) Tryz.call89 true [(1200, 0), (2740, 1), (2220, 2), (2221, 3), (2222, 4), (2741, 5), (1206, 6)] [(3120, 7)] [] trivial ?_
       refine At.done rfl ?_
       refine AW.r ?_
       refine At.a 1 ?_
       refine At.c (impl_stepper_end_spec  (⟨⟨r.id, r.of_, 1, max r.commit (min m.commit ((takeE m.entries m.at_ r.hard.log ([])).2.2)), ⟨m.term, 0, (takeE m.entries m.at_ r.hard.log ([])).1⟩, [], [], []⟩, r, (takeE m.entries m.at_ r.hard.log ([])).2.1, ([]) ++ [(⟨m.from_, ⟨4, r.id, m.term, ((takeE m.entries m.at_ r.hard.log ([])).2.2), 0, 0, true, 0, 0, ⟨#[]⟩, ⟨0, 0, 0, 0, ⟨#[]⟩⟩, []⟩⟩ : Out)]⟩ : Stepper) (by dsimp only; have q := takeE_len m.entries m.at_ r.hard.log [] (by omega) (fitsB_at hfit) (by omega); simp only [List.length_nil] at q; omega)) Tryz.call90 true [(1200, 0), (2740, 1), (2220, 2), (2221, 3), (2222, 4), (2741, 5), (3120, 6)] [(3160, 7)] [] trivial ?_
       refine At.z 6 ?_
       exact AW.ret (rf (k3 (K_impl_OnSend _ r m) (show ((⟨r.id, r.of_, 1, max r.commit (min m.commit ((takeE m.entries m.at_ r.hard.log ([])).2.2)), ⟨m.term, 0, (takeE m.entries m.at_ r.hard.log ([])).1⟩, [], [], []⟩ : Raft)) = ((sends r m).1) from by rw [sends_take1 (sendB_of h1 h2 (by assumption)) (by omega) (by assumption)]; first | done | rfl | (rw [endRecs_ne (by dsimp only; omega)]; rfl) | (rw [endRecs_eq rfl rfl]; done) | (rw [endRecs_eq rfl rfl]; rfl) | (rw [show r.hard.term = m.term from by omega]; rfl)) (show (endRecs (⟨⟨r.id, r.of_, 1, max r.commit (min m.commit ((takeE m.entries m.at_ r.hard.log ([])).2.2)), ⟨m.term, 0, (takeE m.entries m.at_ r.hard.log ([])).1⟩, [], [], []⟩, r, (takeE m.entries m.at_ r.hard.log ([])).2.1, ([]) ++ [(⟨m.from_, ⟨4, r.id, m.term, ((takeE m.entries m.at_ r.hard.log ([])).2.2), 0, 0, true, 0, 0, ⟨#[]⟩, ⟨0, 0, 0, 0, ⟨#[]⟩⟩, []⟩⟩ : Out)]⟩ : Stepper)) = ((sends r m).2.1) from by rw [sends_take1 (sendB_of h1 h2 (by assumption)) (by omega) (by assumption)]; first | done | rfl | (rw [endRecs_ne (by dsimp only; omega)]; rfl) | (rw [endRecs_eq rfl rfl]; done) | (rw [endRecs_eq rfl rfl]; rfl) | (rw [show r.hard.term = m.term from by omega]; rfl)) (show (([]) ++ [(⟨m.from_, ⟨4, r.id, m.term, ((takeE m.entries m.at_ r.hard.log ([])).2.2), 0, 0, true, 0, 0, ⟨#[]⟩, ⟨0, 0, 0, 0, ⟨#[]⟩⟩, []⟩⟩ : Out)]) = ((sends r m).2.2) from by rw [sends_take1 (sendB_of h1 h2 (by assumption)) (by omega) (by assumption)]; first | done | rfl | (rw [endRecs_ne (by dsimp only; omega)]; rfl) | (rw [endRecs_eq rfl rfl]; done) | (rw [endRecs_eq rfl rfl]; rfl) | (rw [show r.hard.term = m.term from by omega]; rfl)) (KF.n [(2740, 0), (2220, 1), (2221, 2), (2222, 3), (3160, 4), (3120, 5)])))
     refine At.sB 20 (!(rowB m)) true (sayNT (sayB (Bool.eq_false_iff.2 h2))) ?_
     replace h2 := Bool.eq_false_iff.2 h2
     refine At.z 4 ?_
     refine AW.cond true (by kernel_rfl) (fun _ => ?_) (fun h => by cases h)
     refine AW.r ?_
     refine At.a 1 ?_
     refine At.c (impl_stepper_none_T_spec  (⟨r, r, [], []⟩ : Stepper) (by exact hz) hok) Tryz.call88 true [(1200, 0), (1201, 1), (1202, 2), (1203, 3), (1204, 4), (1205, 5), (1206, 6)] [(1520, 7), (1521, 8), (1522, 9), (1523, 10), (1524, 11), (1525, 12)] [] trivial ?_
     refine At.z 6 ?_
     exact AW.ret (rf (k3 (K_impl_OnSend _ r m) (show (r) = ((sends r m).1) from by rw [sends_no (sendB_not (by first | exact .inl (by assumption) | exact .inr (.inl (by assumption)) | exact .inr (.inr (by assumption)) | (simp only [Bool.and_eq_false_iff, Bool.not_eq_false'] at *; grind))) hok]; first | done | rfl | (rw [endRecs_ne (by dsimp only; omega)]; rfl) | (rw [endRecs_eq rfl rfl]; done) | (rw [endRecs_eq rfl rfl]; rfl) | (rw [show r.hard.term = m.term from by omega]; rfl)) (show ([]) = ((sends r m).2.1) from by rw [sends_no (sendB_not (by first | exact .inl (by assumption) | exact .inr (.inl (by assumption)) | exact .inr (.inr (by assumption)) | (simp only [Bool.and_eq_false_iff, Bool.not_eq_false'] at *; grind))) hok]; first | done | rfl | (rw [endRecs_ne (by dsimp only; omega)]; rfl) | (rw [endRecs_eq rfl rfl]; done) | (rw [endRecs_eq rfl rfl]; rfl) | (rw [show r.hard.term = m.term from by omega]; rfl)) (show ([]) = ((sends r m).2.2) from by rw [sends_no (sendB_not (by first | exact .inl (by assumption) | exact .inr (.inl (by assumption)) | exact .inr (.inr (by assumption)) | (simp only [Bool.and_eq_false_iff, Bool.not_eq_false'] at *; grind))) hok]; first | done | rfl | (rw [endRecs_ne (by dsimp only; omega)]; rfl) | (rw [endRecs_eq rfl rfl]; done) | (rw [endRecs_eq rfl rfl]; rfl) | (rw [show r.hard.term = m.term from by omega]; rfl)) (KF.n [(1520, 0), (1521, 1), (1522, 2), (1523, 3), (1524, 4), (1525, 5)])))
   refine At.sB 15 (!(hears r m 3)) true (sayNT (sayB (Bool.eq_false_iff.2 h1))) ?_
   replace h1 := Bool.eq_false_iff.2 h1
   refine At.z 9 ?_
   refine AW.cond true (by kernel_rfl) (fun _ => ?_) (fun h => by cases h)
   refine AW.r ?_
   refine At.a 1 ?_
   refine At.c (impl_stepper_none_T_spec  (⟨r, r, [], []⟩ : Stepper) (by exact hz) hok) Tryz.call88 true [(1200, 0), (1201, 1), (1202, 2), (1203, 3), (1204, 4), (1205, 5), (1206, 6)] [(1520, 7), (1521, 8), (1522, 9), (1523, 10), (1524, 11), (1525, 12)] [] trivial ?_
   refine At.z 6 ?_
   exact AW.ret (rf (k3 (K_impl_OnSend _ r m) (show (r) = ((sends r m).1) from by rw [sends_no (sendB_not (by first | exact .inl (by assumption) | exact .inr (.inl (by assumption)) | exact .inr (.inr (by assumption)) | (simp only [Bool.and_eq_false_iff, Bool.not_eq_false'] at *; grind))) hok]; first | done | rfl | (rw [endRecs_ne (by dsimp only; omega)]; rfl) | (rw [endRecs_eq rfl rfl]; done) | (rw [endRecs_eq rfl rfl]; rfl) | (rw [show r.hard.term = m.term from by omega]; rfl)) (show ([]) = ((sends r m).2.1) from by rw [sends_no (sendB_not (by first | exact .inl (by assumption) | exact .inr (.inl (by assumption)) | exact .inr (.inr (by assumption)) | (simp only [Bool.and_eq_false_iff, Bool.not_eq_false'] at *; grind))) hok]; first | done | rfl | (rw [endRecs_ne (by dsimp only; omega)]; rfl) | (rw [endRecs_eq rfl rfl]; done) | (rw [endRecs_eq rfl rfl]; rfl) | (rw [show r.hard.term = m.term from by omega]; rfl)) (show ([]) = ((sends r m).2.2) from by rw [sends_no (sendB_not (by first | exact .inl (by assumption) | exact .inr (.inl (by assumption)) | exact .inr (.inr (by assumption)) | (simp only [Bool.and_eq_false_iff, Bool.not_eq_false'] at *; grind))) hok]; first | done | rfl | (rw [endRecs_ne (by dsimp only; omega)]; rfl) | (rw [endRecs_eq rfl rfl]; done) | (rw [endRecs_eq rfl rfl]; rfl) | (rw [show r.hard.term = m.term from by omega]; rfl)) (KF.n [(1520, 0), (1521, 1), (1522, 2), (1523, 3), (1524, 4), (1525, 5)])))
 refine AW.q 5 ?_
 refine AW.seq ?_
 refine AW.weak (Sub.nils [⟨true, 104, some 6, 5001, 45, 6⟩, ⟨true, 104, some 7, 5002, 3, 1⟩, ⟨true, 104, some 8, 5003, 3, 1⟩, ⟨true, 104, some 9, 5004, 3, 1⟩] (by kernel_rfl)) ?_
 refine AW.g ?_
 refine At.a 1 ?_
 refine At.c (impl_stepOf_spec  r (by exact hz)) Tryz.call80 true [] [(1200, 0), (1201, 1), (1202, 2), (1203, 3), (1204, 4), (1205, 5), (1206, 6)] [] trivial ?_
 refine At.z 1 ?_
 refine AW.seq ?_
 refine AW.r ?_
 refine At.a 2 ?_
 refine At.c (impl_stepper_mayHear_spec  (⟨r, r, [], []⟩ : Stepper) m 3 (by exact hz) hm) Tryz.call85 true [(1200, 0), (1201, 1), (1202, 2), (1203, 3), (1204, 4), (1205, 5), (1206, 6)] [] [] trivial ?_
 refine At.a 2 ?_
 refine At.sB 15 (!(hears r m 3)) true (sayB (by rw [show (hears r m 3) = false from (hears_no hok)]; rfl)) ?_
 refine At.z 9 ?_
 refine AW.cond true (by kernel_rfl) (fun _ => ?_) (fun h => by cases h)
 refine AW.r ?_
 refine At.a 1 ?_
 refine At.c (impl_stepper_none_F_spec  (⟨r, r, [], []⟩ : Stepper) (by exact hz) hok) Tryz.call88 true [(1200, 0), (1201, 1), (1202, 2), (1203, 3), (1204, 4), (1205, 5), (1206, 6)] [(1520, 7), (1521, 8), (1522, 9), (1523, 10), (1524, 11), (1525, 12)] [] trivial ?_
 refine At.z 6 ?_
 exact AW.ret (rf (k3 (K_impl_OnSend _ r m) (show ((⟨0, 0, 0, 0, ⟨0, 0, []⟩, [], [], []⟩ : Raft)) = ((sends r m).1) from by simp [sends, sendB, same, hok, hears_no hok]; try rfl) (show ([]) = ((sends r m).2.1) from by simp [sends, sendB, same, hok, hears_no hok]; try rfl) (show ([]) = ((sends r m).2.2) from by simp [sends, sendB, same, hok, hears_no hok]; try rfl) (KF.n [(1520, 0), (1521, 1), (1522, 2), (1523, 3), (1524, 4), (1525, 5)])))
theorem laws_FnSent_spec  (code : List UInt8) (hc : code.length ≤ 9223372036854775807) : FnSpec Tryz.prog 4 [.sl false 1 (code.map encU8)] [] (.bool true) [] := by
 refine FnSpec.of 212 Tryz.func4 rfl Tryz.ntmps4 (by simp) (AW.weakK ?_)
 refine AW.q 1 ?_
 refine AW.seq ?_
 refine AW.r ?_
 refine At.a 1 ?_
 refine At.c (laws_big_spec  code hc) Tryz.call11 true [] [] [] trivial ?_
 refine At.done rfl ?_
 refine AW.cD ((code.length : Int) > 1048576) (fun h1 => ?_) (fun h1 => ?_)
 · refine AW.q 1 ?_
   exact AW.ret (rf (KF.n []))
 refine AW.skip ?_
 refine AW.r ?_
 refine At.a 1 ?_
 refine Exists.elim (spec_DrawRaftBeat_spec  code (by omega)) fun r1_ hr1_ => ?_
 have qr1_ := hr1_.1
 try dsimp only at qr1_
 refine At.c (hr1_.2) Tryz.call23 true [] [(1340, 0), (1341, 1), (1342, 2), (1343, 3)] [] trivial ?_
 refine At.z 2 ?_
 refine AW.r ?_
 refine At.a 1 ?_
 refine At.c (impl_RaftBeat_spec  r1_ (by exact qr1_)) Tryz.call24 false [] [(1380, 0)] [(1340, 6, (r1_.hard.log.map encEnt)), (1341, 1, (r1_.yes.map encI)), (1342, 1, (r1_.next.map encI)), (1343, 1, (r1_.match_.map encI))] ⟨rfl, ⟨45, (r1_.hard.log.map encEnt), by kernel_rfl, FrzIs.same (allP_encEnt _)⟩, rfl, ⟨3, (r1_.yes.map encI), by kernel_rfl, FrzIs.same (allP_encI _)⟩, rfl, ⟨3, (r1_.next.map encI), by kernel_rfl, FrzIs.same (allP_encI _)⟩, rfl, ⟨3, (r1_.match_.map encI), by kernel_rfl, FrzIs.same (allP_encI _)⟩, trivial⟩ ?_
 refine At.z 1 ?_
 refine AW.seq ?_
 refine AW.weak (Sub.frzIn 1380 51 17 ((beat r1_).map encOut) ((beat r1_).map encOutT) (by kernel_rfl) (frzOutT _)) ?_
 refine AW.g ?_
 refine At.a 1 ?_
 refine At.c (spec_RaftBeat_spec  r1_ (by exact qr1_)) Tryz.call25 false [] [(1420, 0)] [(1340, 6, (r1_.hard.log.map encEnt)), (1341, 1, (r1_.yes.map encI)), (1342, 1, (r1_.next.map encI)), (1343, 1, (r1_.match_.map encI))] ⟨rfl, ⟨45, (r1_.hard.log.map encEnt), by kernel_rfl, FrzIs.same (allP_encEnt _)⟩, rfl, ⟨3, (r1_.yes.map encI), by kernel_rfl, FrzIs.same (allP_encI _)⟩, rfl, ⟨3, (r1_.next.map encI), by kernel_rfl, FrzIs.same (allP_encI _)⟩, rfl, ⟨3, (r1_.match_.map encI), by kernel_rfl, FrzIs.same (allP_encI _)⟩, trivial⟩ ?_
 refine At.z 1 ?_
 refine AW.seq ?_
 refine AW.seq ?_
 refine AW.weak (Sub.frzIn 1420 51 17 ((beat r1_).map encOut) ((beat r1_).map encOutT) (by kernel_rfl) (frzOutT _)) ?_
 refine AW.g ?_
 refine At.a 2 ?_
 refine At.sL 23 encOutT (beat r1_) ?_
 refine At.a 2 ?_
 refine At.sL 25 encOutT (beat r1_) ?_
 refine At.z 1 ?_
 refine AW.condF (((beat r1_).length : Int) != ((beat r1_).length : Int)) (by kernel_rfl) (bne_self_eq_false _) ?_
 refine AW.skip ?_
 refine AW.seq ?_
 refine AW.r ?_
 refine At.a 1 ?_
 refine At.c (spec_RaftOk_spec  r1_ (by exact qr1_)) Tryz.call18 false [] [] [(1340, 6, (r1_.hard.log.map encEnt)), (1341, 1, (r1_.yes.map encI)), (1342, 1, (r1_.next.map encI)), (1343, 1, (r1_.match_.map encI))] ⟨rfl, ⟨45, (r1_.hard.log.map encEnt), by kernel_rfl, FrzIs.same (allP_encEnt _)⟩, rfl, ⟨3, (r1_.yes.map encI), by kernel_rfl, FrzIs.same (allP_encI _)⟩, rfl, ⟨3, (r1_.next.map encI), by kernel_rfl, FrzIs.same (allP_encI _)⟩, rfl, ⟨3, (r1_.match_.map encI), by kernel_rfl, FrzIs.same (allP_encI _)⟩, trivial⟩ ?_
 refine At.a 2 ?_
 by_cases h2 : (raftOk r1_) = true
 · refine At.sB 30 (!(raftOk r1_)) false (sayNF (sayB h2)) ?_
   have h2n := raftOk1_nums (raftOk_1 h2)
   have hok1 := h2
   refine At.z 4 ?_
   refine AW.cU r1_.role (3 : Int) (fun h3 => ?_) (fun h3 => ?_)
   · refine AW.r ?_
     refine At.a 2 ?_
     refine At.sL 36 encOutT (beat r1_) ?_
     refine At.a 2 ?_
     by_cases h4 : ((beat r1_).length : Int) = 0
     · refine At.sB 38 _ _ (sayET h4) ?_
       refine At.z 5 ?_
       exact AW.ret (rf (KF.n []))
     refine At.sB 38 _ _ (sayEF h4) ?_
     refine At.z 5 ?_
     refine AW.ret ?_
     refine ⟨_, Sub.refl _ _, ?_⟩
     refine KF.conv (fun w => .bool w) (fun w => []) (show (r1_.role == 2) = (true) from by have q := beat_not (r := r1_) (.inr (by assumption)); rw [beq_iff_eq]; omega) ?_
     exact KF.n []
   have hr3 := h3
   refine AW.skip ?_
   refine AW.seq ?_
   refine AW.q 1 ?_
   refine AW.block ?_
   refine AW.loopW (fun (i : Nat) => Go.Sy.mk [.un, .un, .un, .ptr 103 0 0, .ref 1380, .un, .int .i64 (i : Int)] [(103, .box 29 [.int .i64 r1_.id, .int .i64 r1_.of_, .int .i64 r1_.role, .int .i64 r1_.commit, .int .i64 r1_.hard.term, .int .i64 r1_.hard.vote, .ref 1340, .ref 1341, .ref 1342, .ref 1343]), (1340, .arr 45 6 (r1_.hard.log.map encEnt)), (1341, .arr 3 1 (r1_.yes.map encI)), (1342, .arr 3 1 (r1_.next.map encI)), (1343, .arr 3 1 (r1_.match_.map encI)), (1380, .arr 51 17 ((beat r1_).map encOutT))]) (fun (i : Nat) => i ≤ (beat r1_).length) (fun (i : Nat) => (beat r1_).length - i) 0 (by omega) (Sub.o [(103, 103), (1340, 1340), (1341, 1341), (1342, 1342), (1343, 1343), (1380, 1380)] [false, false, false, true, true, false, true]) ?_
   rintro i hi
   refine AW.seq ?_
   refine AW.r ?_
   refine At.a 3 ?_
   refine At.sL 45 encOutT (beat r1_) ?_
   refine At.z 1 ?_
   refine AW.cD ((i : Int) < ((beat r1_).length : Int)) (fun h5 => ?_) (fun h5 => ?_)
   · refine AW.skip ?_
     refine AW.seq ?_
     refine AW.block ?_
     refine AW.r ?_
     refine At.a 2 ?_
     refine At.iRf 38 51 (.tmp 49) (.tmp 50) 1380 ((beat r1_).map encOutT) .i64 (i : Int) 51 17 (by omega) (by simp only [List.length_map]; omega) ?_
     refine At.a 1 ?_
     refine Exists.elim (gE (beat r1_) i (by omega)) fun e1 he1 => ?_
     have hbg := beat_get hok1 hr3 he1
     have hb2 := hbg.2.2
     have hb3 := hb2.1
     have hb4 := hb2.2
     have hsl := sent_law hok1 hbg.1 hbg.2
     have hsl2 := hsl.2.2.2
     refine Exists.elim hsl.2.1 fun ob hob => ?_
     have hobl := (congrArg List.length hob.1).trans (rfl : _ = 1)
     have hbf := (beat_few r1_).1
     refine At.lEl 33 53 (.tmp 52) 1380 51 17 ((beat r1_).map encOutT) i 1 true 16 (encOutT e1) (.agg [.int .i64 e1.msg.kind, .int .i64 e1.msg.from_, .int .i64 e1.msg.term, .int .i64 e1.msg.at_, .int .i64 e1.msg.atTerm, .int .i64 e1.msg.commit, .bool e1.msg.yes, .int .i64 e1.msg.release, .int .i64 e1.msg.part, .str e1.msg.bytes, .int .i64 e1.msg.cmd.kind, .int .i64 e1.msg.cmd.release, .int .i64 e1.msg.cmd.node, .int .i64 e1.msg.cmd.size, .str e1.msg.cmd.digest, .sl true 6 (e1.msg.entries.map encEnt)]) (mapGet he1) ?_
     refine At.z 2 ?_
     refine AW.seq ?_
     refine AW.seq ?_
     refine AW.gD Tryz_mix ?_
     refine At.a 4 ?_
     refine At.sB 57 (e1.msg.kind != 3) false (sayB (by rw [bne_eq_false_iff_eq]; exact hbg.2.1.1)) ?_
     refine At.a 2 ?_
     refine At.iRf 38 60 (.tmp 58) (.tmp 59) 1380 ((beat r1_).map encOutT) .i64 (i : Int) 51 17 (by omega) (by simp only [List.length_map]; omega) ?_
     refine At.a 1 ?_
     refine At.lEl 3 62 (.tmp 61) 1380 51 17 ((beat r1_).map encOutT) i 0 false 1 (encOutT e1) (.int .i64 e1.to) (mapGet he1) ?_
     refine At.a 5 ?_
     refine At.sB 67 (e1.to == r1_.id) false (sayB (beq_eq_false_iff_ne.2 hbg.2.2.1.2.2)) ?_
     refine At.a 2 ?_
     refine At.iRf 38 70 (.tmp 68) (.tmp 69) 1380 ((beat r1_).map encOutT) .i64 (i : Int) 51 17 (by omega) (by simp only [List.length_map]; omega) ?_
     refine At.a 1 ?_
     refine At.lEl 3 72 (.tmp 71) 1380 51 17 ((beat r1_).map encOutT) i 0 false 1 (encOutT e1) (.int .i64 e1.to) (mapGet he1) ?_
     refine At.a 3 ?_
     refine At.sB 75 (decide (e1.to < 0)) false (sayB (decide_eq_false (by omega))) ?_
     refine At.a 2 ?_
     refine At.iRf 38 78 (.tmp 76) (.tmp 77) 1380 ((beat r1_).map encOutT) .i64 (i : Int) 51 17 (by omega) (by simp only [List.length_map]; omega) ?_
     refine At.a 1 ?_
     refine At.lEl 3 80 (.tmp 79) 1380 51 17 ((beat r1_).map encOutT) i 0 false 1 (encOutT e1) (.int .i64 e1.to) (mapGet he1) ?_
     refine At.a 5 ?_
     refine At.sB 85 (decide (e1.to ≥ r1_.of_)) false (sayB (decide_eq_false (by omega))) ?_
     refine At.a 6 ?_
     refine At.iRf 38 92 (.tmp 90) (.tmp 91) 1380 ((beat r1_).map encOutT) .i64 (i : Int) 51 17 (by omega) (by simp only [List.length_map]; omega) ?_
     refine At.a 1 ?_
     refine At.lEl 3 94 (.tmp 93) 1380 51 17 ((beat r1_).map encOutT) i 0 false 1 (encOutT e1) (.int .i64 e1.to) (mapGet he1) ?_
     refine At.iRf 27 95 (.tmp 89) (.tmp 94) 1342 (r1_.next.map encI) .i64 e1.to 3 1 (by omega) (by simp only [List.length_map]; omega) ?_
     refine Exists.elim (gE r1_.next ((e1.to).toNat) (by omega)) fun e2 he2 => ?_
     have hnxe2 := sent_next hbg.2 he2
     refine At.lEl 3 96 (.tmp 95) 1342 3 1 (r1_.next.map encI) ((e1.to).toNat) 0 false 1 (encI e2) (.int .i64 e2) (mapGet he2) ?_
     refine At.a 1 ?_
     refine At.sI 97 (e2 - 1) (by omega) ?_
     refine At.a 3 ?_
     refine At.sB 100 (e1.msg.at_ != (e2 - 1)) false (sayB (by rw [bne_eq_false_iff_eq]; exact sent_next hbg.2 he2)) ?_
     refine At.a 7 ?_
     refine At.sB 107 (e1.msg.commit != r1_.commit) false (sayB (by rw [bne_eq_false_iff_eq]; exact hbg.2.1.2.2.1)) ?_
     refine At.a 5 ?_
     refine At.sL 112 encEnt e1.msg.entries ?_
     refine At.a 1 ?_
     refine At.sI 113 (e1.msg.at_ + (e1.msg.entries.length : Int)) (by omega) ?_
     refine At.a 4 ?_
     refine At.sL 117 encEnt r1_.hard.log ?_
     refine At.zD 2 ?_
     refine AW.condF (decide ((e1.msg.at_ + (e1.msg.entries.length : Int)) > (r1_.hard.log.length : Int))) (by kernel_rfl) (decide_eq_false (by omega)) ?_
     refine AW.skip ?_
     refine AW.seq ?_
     refine AW.q 1 ?_
     refine AW.block ?_
     refine AW.loopW (fun (k : Nat) => Go.Sy.mk [.un, .un, .un, .ptr 103 0 0, .ref 1380, .un, .int .i64 (i : Int), .ptr 107 0 0, .int .i64 (k : Int)] [(103, .box 29 [.int .i64 r1_.id, .int .i64 r1_.of_, .int .i64 r1_.role, .int .i64 r1_.commit, .int .i64 r1_.hard.term, .int .i64 r1_.hard.vote, .ref 1340, .ref 1341, .ref 1342, .ref 1343]), (107, .box 33 [.int .i64 e1.msg.kind, .int .i64 e1.msg.from_, .int .i64 e1.msg.term, .int .i64 e1.msg.at_, .int .i64 e1.msg.atTerm, .int .i64 e1.msg.commit, .bool e1.msg.yes, .int .i64 e1.msg.release, .int .i64 e1.msg.part, .str e1.msg.bytes, .int .i64 e1.msg.cmd.kind, .int .i64 e1.msg.cmd.release, .int .i64 e1.msg.cmd.node, .int .i64 e1.msg.cmd.size, .str e1.msg.cmd.digest, .sl true 6 (e1.msg.entries.map encEnt)]), (1340, .arr 45 6 (r1_.hard.log.map encEnt)), (1341, .arr 3 1 (r1_.yes.map encI)), (1342, .arr 3 1 (r1_.next.map encI)), (1343, .arr 3 1 (r1_.match_.map encI)), (1380, .arr 51 17 ((beat r1_).map encOutT))]) (fun (k : Nat) => k ≤ e1.msg.entries.length) (fun (k : Nat) => e1.msg.entries.length - k) 0 (by omega) (Sub.o [(103, 103), (107, 107), (1340, 1340), (1341, 1341), (1342, 1342), (1343, 1343), (1380, 1380)] [false, false, false, true, true, false, true, true, true]) ?_
     rintro k hk
     refine AW.seq ?_
     refine AW.r ?_
     refine At.a 4 ?_
     refine At.sL 123 encEnt e1.msg.entries ?_
     refine At.z 1 ?_
     refine AW.cD ((k : Int) < (e1.msg.entries.length : Int)) (fun h6 => ?_) (fun h6 => ?_)
     · refine AW.skip ?_
       refine AW.seq ?_
       refine AW.block ?_
       refine AW.seq ?_
       refine AW.gD Tryz_mix ?_
       refine At.a 3 ?_
       refine At.iSl 24 130 (.tmp 128) (.tmp 129) true 6 (e1.msg.entries.map encEnt) .i64 (k : Int) 45 (by omega) (by simp only [List.length_map]; omega) ?_
       refine Exists.elim (gE e1.msg.entries k (by omega)) fun e3 he3 => ?_
       refine At.lVp 45 131 (.tmp 130) true 6 (e1.msg.entries.map encEnt) k 0 true 6 (encEnt e3) (.agg [.int .i64 e3.term, .int .i64 e3.cmd.kind, .int .i64 e3.cmd.release, .int .i64 e3.cmd.node, .int .i64 e3.cmd.size, .str e3.cmd.digest]) (mapGet he3) ?_
       refine At.a 7 ?_
       refine At.sI 138 (e1.msg.at_ + (k : Int)) (by omega) ?_
       refine At.iRf 24 139 (.tmp 134) (.tmp 138) 1340 (r1_.hard.log.map encEnt) .i64 (e1.msg.at_ + (k : Int)) 45 6 (by omega) (by simp only [List.length_map]; omega) ?_
       refine Exists.elim (gE r1_.hard.log ((e1.msg.at_ + (k : Int)).toNat) (by omega)) fun e4 he4 => ?_
       refine At.lEl 45 140 (.tmp 139) 1340 45 6 (r1_.hard.log.map encEnt) ((e1.msg.at_ + (k : Int)).toNat) 0 true 6 (encEnt e4) (.agg [.int .i64 e4.term, .int .i64 e4.cmd.kind, .int .i64 e4.cmd.release, .int .i64 e4.cmd.node, .int .i64 e4.cmd.size, .str e4.cmd.digest]) (mapGet he4) ?_
       refine At.eqA (t := 45) (u := 45) (d := 141) (op := .neq) (x := .tmp 131) (y := .tmp 140) (X := [.int .i64 e3.term, .int .i64 e3.cmd.kind, .int .i64 e3.cmd.release, .int .i64 e3.cmd.node, .int .i64 e3.cmd.size, .str e3.cmd.digest]) (Y := [.int .i64 e4.term, .int .i64 e4.cmd.kind, .int .i64 e4.cmd.release, .int .i64 e4.cmd.node, .int .i64 e4.cmd.size, .str e4.cmd.digest]) (entEq e3 e4) (by kernel_rfl) (by kernel_rfl) (by kernel_rfl) (by kernel_rfl) (by kernel_rfl) (.bool (!(entEq e3 e4))) (.inr ⟨rfl, rfl⟩) ?_
       refine At.done rfl ⟨by kernel_rfl, ?_⟩
       refine AW.condF (!(entEq e3 e4)) (by kernel_rfl) (by rw [show (entEq e3 e4) = true from (sent_entry hbg.2 he3 he4)]; rfl) ?_
       refine AW.skip ?_
       refine AW.g ?_
       refine At.a 2 ?_
       refine At.sI 126 ((k : Int) + 1) (by omega) ?_
       refine At.z 1 ?_
       exact ⟨k + 1, (by omega), (by omega), Sub.o [(103, 103), (107, 107), (1340, 1340), (1341, 1341), (1342, 1342), (1343, 1343), (1380, 1380)] [false, false, false, true, true, false, true, true, true]⟩
     refine AW.exit ?_
     refine AW.seq ?_
     refine AW.gD Tryz_mix ?_
     refine At.a 2 ?_
     refine At.iRf 38 145 (.tmp 143) (.tmp 144) 1380 ((beat r1_).map encOutT) .i64 (i : Int) 51 17 (by omega) (by simp only [List.length_map]; omega) ?_
     refine At.a 1 ?_
     refine At.lEl 3 147 (.tmp 146) 1380 51 17 ((beat r1_).map encOutT) i 0 false 1 (encOutT e1) (.int .i64 e1.to) (mapGet he1) ?_
     refine At.a 10 ?_
     refine At.sliceRef (t := 24) (d := 158) (e := 45) (es := 6) (i := 1340) (x := .tmp 155) (lx := none) (hx := some (.tmp 157)) (xs := (r1_.hard.log.map encEnt)) (vl := .un) (vh := .int .i64 e1.msg.at_) 0 ((e1.msg.at_).toNat) (by kernel_rfl) (by kernel_rfl) (by kernel_rfl) (by kernel_rfl) (by kernel_rfl) (.inl ⟨rfl, rfl⟩) (.inr ⟨_, _, rfl, sayNat (by omega)⟩) (by omega) (by simp only [List.length_map]; omega) ?_
     refine At.a 1 ?_
     refine At.call (spec_RaftNew_spec  e1.to r1_.of_ (⟨r1_.hard.term, 0, (r1_.hard.log.drop 0).take (((e1.msg.at_).toNat) - 0)⟩ : Hard) (by dsimp only; simp only [List.length_take, List.length_drop]; omega)) Tryz.call26 false [] [(4200, 0), (4201, 1), (4202, 2), (4203, 3)] [(1340, 6, (r1_.hard.log.map encEnt))] (by kernel_rfl) (by kernel_rfl) (Eq.trans (b := [.int .i64 e1.to, .int .i64 r1_.of_, .agg [.int .i64 r1_.hard.term, .int .i64 0, .sl false 6 (((r1_.hard.log.map encEnt).drop 0).take (((e1.msg.at_).toNat) - 0))]]) (by kernel_rfl) (by simp only [List.map_take, List.map_drop])) (by kernel_rfl) (by kernel_rfl) ⟨rfl, ⟨45, (r1_.hard.log.map encEnt), by kernel_rfl, FrzIs.same (allP_encEnt _)⟩, trivial⟩ ?_
     refine At.zD 6 ?_
     refine AW.r ?_
     refine At.a 2 ?_
     refine At.c (FnSpec.cv (As := [.agg [.int .i64 (((newR e1.to r1_.of_ (⟨r1_.hard.term, 0, (r1_.hard.log.drop 0).take (((e1.msg.at_).toNat) - 0)⟩ : Hard)).1).id), .int .i64 (((newR e1.to r1_.of_ (⟨r1_.hard.term, 0, (r1_.hard.log.drop 0).take (((e1.msg.at_).toNat) - 0)⟩ : Hard)).1).of_), .int .i64 (((newR e1.to r1_.of_ (⟨r1_.hard.term, 0, (r1_.hard.log.drop 0).take (((e1.msg.at_).toNat) - 0)⟩ : Hard)).1).role), .int .i64 (((newR e1.to r1_.of_ (⟨r1_.hard.term, 0, (r1_.hard.log.drop 0).take (((e1.msg.at_).toNat) - 0)⟩ : Hard)).1).commit), .int .i64 (((newR e1.to r1_.of_ (⟨r1_.hard.term, 0, (r1_.hard.log.drop 0).take (((e1.msg.at_).toNat) - 0)⟩ : Hard)).1).hard.term), .int .i64 (((newR e1.to r1_.of_ (⟨r1_.hard.term, 0, (r1_.hard.log.drop 0).take (((e1.msg.at_).toNat) - 0)⟩ : Hard)).1).hard.vote), .sl false 6 ((((newR e1.to r1_.of_ (⟨r1_.hard.term, 0, (r1_.hard.log.drop 0).take (((e1.msg.at_).toNat) - 0)⟩ : Hard)).1).hard.log).map encEnt), .sl false 1 ((((newR e1.to r1_.of_ (⟨r1_.hard.term, 0, (r1_.hard.log.drop 0).take (((e1.msg.at_).toNat) - 0)⟩ : Hard)).1).yes).map encI), .sl false 1 ((((newR e1.to r1_.of_ (⟨r1_.hard.term, 0, (r1_.hard.log.drop 0).take (((e1.msg.at_).toNat) - 0)⟩ : Hard)).1).next).map encI), .sl false 1 ((((newR e1.to r1_.of_ (⟨r1_.hard.term, 0, (r1_.hard.log.drop 0).take (((e1.msg.at_).toNat) - 0)⟩ : Hard)).1).match_).map encI)], .agg [.int .i64 e1.msg.kind, .int .i64 e1.msg.from_, .int .i64 e1.msg.term, .int .i64 e1.msg.at_, .int .i64 e1.msg.atTerm, .int .i64 e1.msg.commit, .bool e1.msg.yes, .int .i64 e1.msg.release, .int .i64 e1.msg.part, .str e1.msg.bytes, .int .i64 e1.msg.cmd.kind, .int .i64 e1.msg.cmd.release, .int .i64 e1.msg.cmd.node, .int .i64 e1.msg.cmd.size, .str e1.msg.cmd.digest, .sl true 6 (e1.msg.entries.map encEnt)]]) [0, 7] (impl_OnSend_spec  ((newR e1.to r1_.of_ (⟨r1_.hard.term, 0, (r1_.hard.log.drop 0).take (((e1.msg.at_).toNat) - 0)⟩ : Hard)).1) e1.msg (by refine newR_small ?_; dsimp only; simp only [List.length_take, List.length_drop]; omega) (by omega))) Tryz.call27 false [] [(4320, 0), (4321, 1), (4322, 2), (4323, 3), (4324, 4), (4325, 5)] [(4200, 6, ((((newR e1.to r1_.of_ (⟨r1_.hard.term, 0, (r1_.hard.log.drop 0).take (((e1.msg.at_).toNat) - 0)⟩ : Hard)).1).hard.log).map encEnt)), (4201, 1, ((((newR e1.to r1_.of_ (⟨r1_.hard.term, 0, (r1_.hard.log.drop 0).take (((e1.msg.at_).toNat) - 0)⟩ : Hard)).1).yes).map encI)), (4202, 1, ((((newR e1.to r1_.of_ (⟨r1_.hard.term, 0, (r1_.hard.log.drop 0).take (((e1.msg.at_).toNat) - 0)⟩ : Hard)).1).next).map encI)), (4203, 1, ((((newR e1.to r1_.of_ (⟨r1_.hard.term, 0, (r1_.hard.log.drop 0).take (((e1.msg.at_).toNat) - 0)⟩ : Hard)).1).match_).map encI))] ⟨rfl, ⟨45, ((((newR e1.to r1_.of_ (⟨r1_.hard.term, 0, (r1_.hard.log.drop 0).take (((e1.msg.at_).toNat) - 0)⟩ : Hard)).1).hard.log).map encEnt), by kernel_rfl, FrzIs.same (allP_encEnt _)⟩, rfl, ⟨3, ((((newR e1.to r1_.of_ (⟨r1_.hard.term, 0, (r1_.hard.log.drop 0).take (((e1.msg.at_).toNat) - 0)⟩ : Hard)).1).yes).map encI), by kernel_rfl, FrzIs.same (allP_encI _)⟩, rfl, ⟨3, ((((newR e1.to r1_.of_ (⟨r1_.hard.term, 0, (r1_.hard.log.drop 0).take (((e1.msg.at_).toNat) - 0)⟩ : Hard)).1).next).map encI), by kernel_rfl, FrzIs.same (allP_encI _)⟩, rfl, ⟨3, ((((newR e1.to r1_.of_ (⟨r1_.hard.term, 0, (r1_.hard.log.drop 0).take (((e1.msg.at_).toNat) - 0)⟩ : Hard)).1).match_).map encI), by kernel_rfl, FrzIs.same (allP_encI _)⟩, trivial⟩ ?_
     have hobl2 : ((sends ((newR e1.to r1_.of_ (⟨r1_.hard.term, 0, (r1_.hard.log.drop 0).take (((e1.msg.at_).toNat) - 0)⟩ : Hard)).1) e1.msg).2.2).length = 1 := hobl
     have hsl3 : ((((sends ((newR e1.to r1_.of_ (⟨r1_.hard.term, 0, (r1_.hard.log.drop 0).take (((e1.msg.at_).toNat) - 0)⟩ : Hard)).1) e1.msg).1).hard.log).length : Int) = _ := hsl.2.2.1
     refine At.z 8 ?_
     refine AW.seq ?_
     refine AW.weak (Sub.frzIn 4325 51 17 (((sends ((newR e1.to r1_.of_ (⟨r1_.hard.term, 0, (r1_.hard.log.drop 0).take (((e1.msg.at_).toNat) - 0)⟩ : Hard)).1) e1.msg).2.2).map encOut) (((sends ((newR e1.to r1_.of_ (⟨r1_.hard.term, 0, (r1_.hard.log.drop 0).take (((e1.msg.at_).toNat) - 0)⟩ : Hard)).1) e1.msg).2.2).map encOutT) (by kernel_rfl) (frzOutT _)) ?_
     refine AW.gD Tryz_mix ?_
     refine At.a 3 ?_
     refine At.sB 172 (!((newR e1.to r1_.of_ (⟨r1_.hard.term, 0, (r1_.hard.log.drop 0).take (((e1.msg.at_).toNat) - 0)⟩ : Hard)).2)) false (sayB (by rw [show ((newR e1.to r1_.of_ (⟨r1_.hard.term, 0, (r1_.hard.log.drop 0).take (((e1.msg.at_).toNat) - 0)⟩ : Hard)).2) = true from hsl.1]; rfl)) ?_
     refine At.a 2 ?_
     refine At.sL 174 encOutT ((sends ((newR e1.to r1_.of_ (⟨r1_.hard.term, 0, (r1_.hard.log.drop 0).take (((e1.msg.at_).toNat) - 0)⟩ : Hard)).1) e1.msg).2.2) ?_
     refine At.a 3 ?_
     refine At.sB 177 ((((sends ((newR e1.to r1_.of_ (⟨r1_.hard.term, 0, (r1_.hard.log.drop 0).take (((e1.msg.at_).toNat) - 0)⟩ : Hard)).1) e1.msg).2.2).length : Int) != 1) false (sayB (by rw [bne_eq_false_iff_eq]; exact congrArg (fun n : Nat => (n : Int)) hobl)) ?_
     refine At.a 1 ?_
     refine At.iRf 38 179 (.tmp 178) (.const (.int .i64 0)) 4325 (((sends ((newR e1.to r1_.of_ (⟨r1_.hard.term, 0, (r1_.hard.log.drop 0).take (((e1.msg.at_).toNat) - 0)⟩ : Hard)).1) e1.msg).2.2).map encOutT) .i64 0 51 17 (by omega) (by simp only [List.length_map]; omega) ?_
     refine At.a 2 ?_
     refine Exists.elim (gE ((sends ((newR e1.to r1_.of_ (⟨r1_.hard.term, 0, (r1_.hard.log.drop 0).take (((e1.msg.at_).toNat) - 0)⟩ : Hard)).1) e1.msg).2.2) 0 (by omega)) fun e5 he5 => ?_
     refine At.lEl 4 182 (.tmp 181) 4325 51 17 (((sends ((newR e1.to r1_.of_ (⟨r1_.hard.term, 0, (r1_.hard.log.drop 0).take (((e1.msg.at_).toNat) - 0)⟩ : Hard)).1) e1.msg).2.2).map encOutT) 0 7 false 1 (encOutT e5) (.bool e5.msg.yes) (mapGet he5) ?_
     refine At.a 3 ?_
     refine At.sB 185 (!e5.msg.yes) false (sayB (by rw [show (e5.msg.yes) = true from (by rw [one_is2 hob.1 he5]; exact hob.2.1)]; rfl)) ?_
     refine At.a 1 ?_
     refine At.iRf 38 187 (.tmp 186) (.const (.int .i64 0)) 4325 (((sends ((newR e1.to r1_.of_ (⟨r1_.hard.term, 0, (r1_.hard.log.drop 0).take (((e1.msg.at_).toNat) - 0)⟩ : Hard)).1) e1.msg).2.2).map encOutT) .i64 0 51 17 (by omega) (by simp only [List.length_map]; omega) ?_
     refine At.a 2 ?_
     refine At.lEl 3 190 (.tmp 189) 4325 51 17 (((sends ((newR e1.to r1_.of_ (⟨r1_.hard.term, 0, (r1_.hard.log.drop 0).take (((e1.msg.at_).toNat) - 0)⟩ : Hard)).1) e1.msg).2.2).map encOutT) 0 4 false 1 (encOutT e5) (.int .i64 e5.msg.at_) (mapGet he5) ?_
     refine At.a 5 ?_
     refine At.sL 195 encEnt e1.msg.entries ?_
     refine At.a 1 ?_
     refine At.sI 196 (e1.msg.at_ + (e1.msg.entries.length : Int)) (by omega) ?_
     refine At.a 3 ?_
     refine At.sB 199 (e5.msg.at_ != (e1.msg.at_ + (e1.msg.entries.length : Int))) false (sayB (by rw [bne_eq_false_iff_eq]; rw [one_is2 hob.1 he5]; exact hob.2.2)) ?_
     refine At.a 4 ?_
     refine At.sL 203 encEnt (((sends ((newR e1.to r1_.of_ (⟨r1_.hard.term, 0, (r1_.hard.log.drop 0).take (((e1.msg.at_).toNat) - 0)⟩ : Hard)).1) e1.msg).1).hard.log) ?_
     refine At.a 5 ?_
     refine At.sL 208 encEnt e1.msg.entries ?_
     refine At.a 1 ?_
     refine At.sI 209 (e1.msg.at_ + (e1.msg.entries.length : Int)) (by omega) ?_
     refine At.zD 2 ?_
     refine AW.condF (((((sends ((newR e1.to r1_.of_ (⟨r1_.hard.term, 0, (r1_.hard.log.drop 0).take (((e1.msg.at_).toNat) - 0)⟩ : Hard)).1) e1.msg).1).hard.log).length : Int) != (e1.msg.at_ + (e1.msg.entries.length : Int))) (by kernel_rfl) (by rw [bne_eq_false_iff_eq]; exact hsl.2.2.1) ?_
     refine AW.skip ?_
     refine AW.g ?_
     refine At.a 2 ?_
     refine At.sI 48 ((i : Int) + 1) (by omega) ?_
     refine At.z 1 ?_
     exact ⟨i + 1, (by omega), (by omega), Sub.o [(103, 103), (1340, 1340), (1341, 1341), (1342, 1342), (1343, 1343), (1380, 1380)] [false, false, false, true, true, false, true]⟩
   refine AW.exit ?_
   refine AW.q 1 ?_
   exact AW.ret (rf (KF.n []))
 refine At.sB 30 (!(raftOk r1_)) true (sayNT (sayB (Bool.eq_false_iff.2 h2))) ?_
 replace h2 := Bool.eq_false_iff.2 h2
 refine At.z 4 ?_
 refine AW.cond true (by kernel_rfl) (fun _ => ?_) (fun h => by cases h)
 refine AW.r ?_
 refine At.a 2 ?_
 refine At.sL 36 encOutT (beat r1_) ?_
 refine At.a 2 ?_
 by_cases h7 : ((beat r1_).length : Int) = 0
 · refine At.sB 38 _ _ (sayET h7) ?_
   refine At.z 5 ?_
   exact AW.ret (rf (KF.n []))
 refine At.sB 38 _ _ (sayEF h7) ?_
 refine At.z 5 ?_
 refine AW.ret ?_
 refine ⟨_, Sub.refl _ _, ?_⟩
 refine KF.conv (fun w => .bool w) (fun w => []) (show (r1_.role == 2) = (true) from by have q := beat_not (r := r1_) (.inl (by assumption)); rw [beq_iff_eq]; omega) ?_
 exact KF.n []
end Go.Proofs.YtlmadhahghiedaaGreat
