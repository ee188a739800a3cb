/- The contracts of the functions that FnExactRaftPropose reaches (each: what it answers, said over values), printed by a program of this session (wip/sy/g/gen.py). -/
import Derived.Test.YtlmadhahghiedaaFFnExactRaftPropose1
set_option linter.unusedVariables false
set_option linter.unusedSimpArgs false
namespace Go.Proofs.Ytlmadhahghiedaa
open Go Go.Sy Go.Proofs
set_option maxRecDepth 100000 in
set_option maxHeartbeats 4000000 in
theorem spec_l10Put_spec  (r : Raft) (e : Ent) (recs : List Rec) (hl : r.hard.log.length ≤ 1048576) (hr : recs.length ≤ 1048576) : FnSpec Try.prog 54 [.agg [.int .i64 r.id, .int .i64 r.of_, .int .i64 r.role, .int .i64 r.commit, .int .i64 r.hard.term, .int .i64 r.hard.vote, .ref 0, .ref 1, .ref 2, .ref 3], .agg [.int .i64 e.term, .int .i64 e.cmd.kind, .int .i64 e.cmd.release, .int .i64 e.cmd.node, .int .i64 e.cmd.size, .str e.cmd.digest], .ref 4] [.arr 88 6 (r.hard.log.map encEnt), .arr 3 1 (r.yes.map encI), .arr 3 1 (r.next.map encI), .arr 3 1 (r.match_.map encI), .arr 93 10 (recs.map encRec)] (.tup [.agg [.int .i64 r.id, .int .i64 r.of_, .int .i64 r.role, .int .i64 r.commit, .int .i64 r.hard.term, .int .i64 r.hard.vote, .ref 5, .ref 1, .ref 2, .ref 3], .ref 6]) [.arr 88 6 (r.hard.log.map encEnt), .arr 3 1 (r.yes.map encI), .arr 3 1 (r.next.map encI), .arr 3 1 (r.match_.map encI), .dead, .arr 88 6 ((r.hard.log ++ [e]).map encEnt), .arr 93 10 ((recs ++ [(⟨2, 0, 0, ((r.hard.log ++ [e]).length : Int), e⟩ : Rec)]).map encRec)] := by
  refine FnSpec.of 26 Try.func54 rfl Try.ntmps54 (by simp) (AW.weakK ?_)
  refine AW.seq ?_
  refine AW.region (At.start ?_)
  refine At.auto 4 (by kernel_rfl) ?_
  refine At.done rfl ?_
  refine AW.seq ?_
  refine AW.weak (Sub.nils [⟨true, 106, some 6, 5001, 88, 6⟩, ⟨true, 106, some 7, 5002, 3, 1⟩, ⟨true, 106, some 8, 5003, 3, 1⟩, ⟨true, 106, some 9, 5004, 3, 1⟩] (by kernel_rfl)) ?_
  refine AW.regionD Try_mix (At.start ?_)
  refine At.lit0 (t := 31) (d := 8) (e := 88) (es := 6) (bytes := 56) 108 (by kernel_rfl) (by kernel_rfl) (by kernel_rfl) (by kernel_rfl) ?_
  refine At.auto 3 (by kernel_rfl) ?_
  refine At.append (t := 31) (d := 12) (e := 88) (es := 6) (bytes := 56) (s := .tmp 8) (x := .tmp 11) (S := .ref 108) (T := .ref 0) (xs := []) (ys := (r.hard.log.map encEnt)) 112 [108] [] (r.hard.log.map encEnt) (by kernel_rfl) (by kernel_rfl) (by kernel_rfl) (by kernel_rfl) ⟨by kernel_rfl, rfl⟩ ⟨by kernel_rfl, .inl ⟨rfl, (allP_encEnt _)⟩⟩ (by kernel_rfl) (by kernel_rfl) (by simp) (by first | omega | (simp only [List.length_map, List.length_append, List.length_take, List.length_drop, List.length_replicate, List.length_set, List.length_cons, List.length_nil]; omega)) (by first | omega | (simp only [List.length_map, List.length_append, List.length_take, List.length_drop, List.length_replicate, List.length_set, List.length_cons, List.length_nil]; omega)) ?_
  refine At.auto 1 (by kernel_rfl) ?_
  refine At.litK (t := 31) (d := 14) (e := 88) (es := 6) (bytes := 56) (n := 1) (parts := #[(0, .tmp 13)]) (88, 6) 114 [] [.int .i64 e.term, .int .i64 e.cmd.kind, .int .i64 e.cmd.release, .int .i64 e.cmd.node, .int .i64 e.cmd.size, .str e.cmd.digest] [.int .i64 e.term, .int .i64 e.cmd.kind, .int .i64 e.cmd.release, .int .i64 e.cmd.node, .int .i64 e.cmd.size, .str e.cmd.digest] [.int .i64 0, .int .i64 0, .int .i64 0, .int .i64 0, .int .i64 0, .str (⟨#[]⟩)] [.agg [.int .i64 e.term, .int .i64 e.cmd.kind, .int .i64 e.cmd.release, .int .i64 e.cmd.node, .int .i64 e.cmd.size, .str e.cmd.digest]] [] (by kernel_rfl) (by kernel_rfl) (by kernel_rfl) (by kernel_rfl) rfl (fun p hp => by cases hp) (by kernel_rfl) ?_
  refine At.append (t := 31) (d := 15) (e := 88) (es := 6) (bytes := 56) (s := .tmp 12) (x := .tmp 14) (S := .ref 112) (T := .ref 114) (xs := (r.hard.log.map encEnt)) (ys := (([e]).map encEnt)) 115 [112] [114] ((r.hard.log ++ ([e])).map encEnt) (by kernel_rfl) (by kernel_rfl) (by kernel_rfl) (by kernel_rfl) ⟨by kernel_rfl, rfl⟩ ⟨by kernel_rfl, .inr rfl⟩ (by kernel_rfl) (by kernel_rfl) (by simp) (by first | omega | (simp only [List.length_map, List.length_append, List.length_take, List.length_drop, List.length_replicate, List.length_set, List.length_cons, List.length_nil]; omega)) (by first | omega | (simp only [List.length_map, List.length_append, List.length_take, List.length_drop, List.length_replicate, List.length_set, List.length_cons, List.length_nil]; omega)) ?_
  refine At.auto 3 (by kernel_rfl) ?_
  refine At.done rfl ⟨by kernel_rfl, ?_⟩
  refine AW.seq ?_
  refine AW.regionD Try_mix (At.start ?_)
  refine At.auto 3 (by kernel_rfl) ?_
  refine At.call (spec_l10End_spec  (⟨r.id, r.of_, r.role, r.commit, ⟨r.hard.term, r.hard.vote, r.hard.log ++ ([e])⟩, r.yes, r.next, r.match_⟩ : Raft) ) Try.call53 false [] [] [(115, 6, ((r.hard.log ++ ([e])).map encEnt)), (1, 1, (r.yes.map encI)), (2, 1, (r.next.map encI)), (3, 1, (r.match_.map encI))] (by kernel_rfl) (by kernel_rfl) (by kernel_rfl) (by kernel_rfl) (by kernel_rfl) ⟨rfl, ⟨88, ((r.hard.log ++ ([e])).map encEnt), by kernel_rfl, FrzIs.same (allP_encEnt _)⟩, rfl, ⟨3, (r.yes.map encI), by kernel_rfl, FrzIs.same (allP_encI _)⟩, rfl, ⟨3, (r.next.map encI), by kernel_rfl, FrzIs.same (allP_encI _)⟩, rfl, ⟨3, (r.match_.map encI), by kernel_rfl, FrzIs.same (allP_encI _)⟩, trivial⟩ ?_
  refine At.auto 2 (by kernel_rfl) ?_
  refine At.litK (t := 45) (d := 24) (e := 93) (es := 10) (bytes := 88) (n := 1) (parts := #[(0, .tmp 23)]) (88, 6) 124 [] [.int .i64 2, .int .i64 0, .int .i64 0, .int .i64 ((r.hard.log ++ ([e])).length : Int), .int .i64 e.term, .int .i64 e.cmd.kind, .int .i64 e.cmd.release, .int .i64 e.cmd.node, .int .i64 e.cmd.size, .str e.cmd.digest] [.int .i64 2, .int .i64 0, .int .i64 0, .int .i64 ((r.hard.log ++ ([e])).length : Int), .int .i64 e.term, .int .i64 e.cmd.kind, .int .i64 e.cmd.release, .int .i64 e.cmd.node, .int .i64 e.cmd.size, .str e.cmd.digest] [.int .i64 0, .int .i64 0, .int .i64 0, .int .i64 0, .int .i64 0, .int .i64 0, .int .i64 0, .int .i64 0, .int .i64 0, .str (⟨#[]⟩)] [.agg [.int .i64 2, .int .i64 0, .int .i64 0, .int .i64 ((r.hard.log ++ ([e])).length : Int), .int .i64 e.term, .int .i64 e.cmd.kind, .int .i64 e.cmd.release, .int .i64 e.cmd.node, .int .i64 e.cmd.size, .str e.cmd.digest]] [] (by kernel_rfl) (by kernel_rfl) (by kernel_rfl) (by kernel_rfl) rfl (fun p hp => by cases hp) (by kernel_rfl) ?_
  refine At.append (t := 45) (d := 25) (e := 93) (es := 10) (bytes := 88) (s := .tmp 19) (x := .tmp 24) (S := .ref 4) (T := .ref 124) (xs := (recs.map encRec)) (ys := (([(⟨2, 0, 0, ((r.hard.log ++ ([e])).length : Int), e⟩ : Rec)]).map encRec)) 125 [4] [124] ((recs ++ ([(⟨2, 0, 0, ((r.hard.log ++ ([e])).length : Int), e⟩ : Rec)])).map encRec) (by kernel_rfl) (by kernel_rfl) (by kernel_rfl) (by kernel_rfl) ⟨by kernel_rfl, rfl⟩ ⟨by kernel_rfl, .inr rfl⟩ (by kernel_rfl) (by kernel_rfl) (by simp) (by first | omega | (simp only [List.length_map, List.length_append, List.length_take, List.length_drop, List.length_replicate, List.length_set, List.length_cons, List.length_nil]; omega)) (by first | omega | (simp only [List.length_map, List.length_append, List.length_take, List.length_drop, List.length_replicate, List.length_set, List.length_cons, List.length_nil]; omega)) ?_
  refine At.auto 2 (by kernel_rfl) ?_
  refine At.done rfl ⟨by kernel_rfl, ?_⟩
  refine AW.ret ?_
  refine ⟨_, Sub.refl _ _, ?_⟩
  refine KF.conv (fun w => .tup [.agg [.int .i64 w.id, .int .i64 w.of_, .int .i64 w.role, .int .i64 w.commit, .int .i64 w.hard.term, .int .i64 w.hard.vote, .ref 5, .ref 1, .ref 2, .ref 3], .ref 6]) (fun w => [.arr 88 6 (r.hard.log.map encEnt), .arr 3 1 (r.yes.map encI), .arr 3 1 (r.next.map encI), .arr 3 1 (r.match_.map encI), .dead, .arr 88 6 (w.hard.log.map encEnt), .arr 93 10 ((recs ++ [(⟨2, 0, 0, ((r.hard.log ++ [e]).length : Int), e⟩ : Rec)]).map encRec)]) (show ((⟨r.id, r.of_, r.role, r.commit, ⟨r.hard.term, r.hard.vote, r.hard.log ++ ([e])⟩, r.yes, r.next, r.match_⟩ : Raft)) = (({ r with hard := { r.hard with log := r.hard.log ++ [e] } } : Raft)) from by first | rfl | simp [put, putRec]) ?_
  refine KF.conv (fun w => .tup [.agg [.int .i64 r.id, .int .i64 r.of_, .int .i64 r.role, .int .i64 r.commit, .int .i64 r.hard.term, .int .i64 r.hard.vote, .ref 5, .ref 1, .ref 2, .ref 3], .ref 6]) (fun w => [.arr 88 6 (r.hard.log.map encEnt), .arr 3 1 (r.yes.map encI), .arr 3 1 (r.next.map encI), .arr 3 1 (r.match_.map encI), .dead, .arr 88 6 ((r.hard.log ++ ([e])).map encEnt), .arr 93 10 (w.map encRec)]) (show (recs ++ ([(⟨2, 0, 0, ((r.hard.log ++ ([e])).length : Int), e⟩ : Rec)])) = (recs ++ [(⟨2, 0, 0, ((r.hard.log ++ [e]).length : Int), e⟩ : Rec)]) from by first | rfl | simp [put, putRec]) ?_
  exact KF.mk (.inr rfl) [(0, 0), (1, 1), (2, 2), (3, 3), (4, 4), (115, 5), (125, 6)] [.agg [.int .i64 r.id, .int .i64 r.of_, .int .i64 r.role, .int .i64 r.commit, .int .i64 r.hard.term, .int .i64 r.hard.vote, .ref 115, .ref 1, .ref 2, .ref 3], .ref 125] (by kernel_rfl) (by kernel_rfl) (by kernel_rfl) (by kernel_rfl) (by kernel_rfl)
set_option maxRecDepth 100000 in
set_option maxHeartbeats 4000000 in
theorem spec_l10Term_spec  (h : Hard) (at_ : Int) (hl : h.log.length ≤ 1048576) : FnSpec Try.prog 69 [.agg [.int .i64 h.term, .int .i64 h.vote, .sl false 6 (h.log.map encEnt)], .int .i64 at_] [] (.int .i64 (termAt h.log at_)) [] := by
  refine FnSpec.of 21 Try.func69 rfl Try.ntmps69 (by simp) (AW.weakK ?_)
  refine AW.seq ?_
  refine AW.region (At.start ?_)
  refine At.auto 2 (by kernel_rfl) ?_
  refine At.done rfl ?_
  refine AW.seq ?_
  refine AW.seq ?_
  refine AW.region (At.start ?_)
  refine At.auto 3 (by kernel_rfl) ?_
  by_cases h1 : at_ < 1
  · refine At.say 7 (.bool (decide (at_ < 1))) (.bool true) (by kernel_rfl) (sayT h1) ?_
    refine At.auto 6 (by kernel_rfl) ?_
    refine At.done rfl ?_
    refine AW.cond true (by kernel_rfl) (fun _ => ?_) (fun h => by cases h)
    refine AW.seq ?_
    refine AW.region (At.start ?_)
    refine At.auto 1 (by kernel_rfl) ?_
    refine At.done rfl ?_
    refine AW.ret ?_
    refine ⟨_, Sub.refl _ _, ?_⟩
    refine KF.conv (fun w => .int .i64 w) (fun w => []) (show (0) = (termAt h.log at_) from by unfold termAt; first | (rw [if_pos (by omega)]; done) | (rw [if_neg (by omega), he1]; rfl)) ?_
    exact KF.mk (.inr rfl) [] [.int .i64 0] (by kernel_rfl) (by kernel_rfl) (by kernel_rfl) (by kernel_rfl) (by kernel_rfl)
  · refine At.say 7 (.bool (decide (at_ < 1))) (.bool false) (by kernel_rfl) (sayF h1) ?_
    refine At.auto 4 (by kernel_rfl) ?_
    refine At.say 11 (.int .i64 (((h.log.map encEnt).length : Nat) : Int)) (.int .i64 (h.log.length : Int)) (by kernel_rfl) (sayLen _ _) ?_
    refine At.auto 2 (by kernel_rfl) ?_
    refine At.done rfl ?_
    refine AW.cond (decide (at_ > (h.log.length : Int))) (by kernel_rfl) (fun hb => ?_) (fun hb => ?_)
    · have h2 : at_ > (h.log.length : Int) := by simpa using hb
      clear hb
      refine AW.seq ?_
      refine AW.region (At.start ?_)
      refine At.auto 1 (by kernel_rfl) ?_
      refine At.done rfl ?_
      refine AW.ret ?_
      refine ⟨_, Sub.refl _ _, ?_⟩
      refine KF.conv (fun w => .int .i64 w) (fun w => []) (show (0) = (termAt h.log at_) from by unfold termAt; first | (rw [if_pos (by omega)]; done) | (rw [if_neg (by omega), he1]; rfl)) ?_
      exact KF.mk (.inr rfl) [] [.int .i64 0] (by kernel_rfl) (by kernel_rfl) (by kernel_rfl) (by kernel_rfl) (by kernel_rfl)
    · have h2 : ¬ (at_ > (h.log.length : Int)) := by simpa using hb
      clear hb
      refine AW.skip ?_
      refine AW.seq ?_
      refine AW.region (At.start ?_)
      refine At.auto 4 (by kernel_rfl) ?_
      refine At.say 17 (.int .i64 (IntKind.i64.wrap (at_ - 1))) (.int .i64 (at_ - 1)) (by kernel_rfl) (sayI _ (by omega)) ?_
      refine At.idxSl (t := 31) (d := 18) (x := .tmp 15) (y := .tmp 17) (p := false) (es := 6) (xs := (h.log.map encEnt)) (kd := .i64) (i := at_ - 1) (e := 88) (by kernel_rfl) (by kernel_rfl) (by kernel_rfl) (by kernel_rfl) (by omega) (by first | omega | (simp only [List.length_map, List.length_append, List.length_take, List.length_drop, List.length_replicate, List.length_set, List.length_cons, List.length_nil]; omega)) ?_
      refine At.auto 1 (by kernel_rfl) ?_
      refine Exists.elim (show ∃ e, h.log[(at_ - 1).toNat]? = some e from ⟨_, List.getElem?_eq_getElem (by first | omega | (simp only [List.length_map, List.length_append, List.length_take, List.length_drop, List.length_replicate, List.length_set, List.length_cons, List.length_nil]; omega))⟩) fun e1 he1 => ?_
      refine At.ldVp (t := 3) (d := 20) (x := .tmp 19) (p := false) (es := 6) (xs := (h.log.map encEnt)) (j := (at_ - 1).toNat) (off := 0) (b := false) (m := 1) (encEnt e1) (.int .i64 e1.term) (by kernel_rfl) (by kernel_rfl) (by kernel_rfl) (by kernel_rfl) (mapGet he1) (by kernel_rfl) ?_
      refine At.auto 1 (by kernel_rfl) ?_
      refine At.done rfl ?_
      refine AW.ret ?_
      refine ⟨_, Sub.refl _ _, ?_⟩
      refine KF.conv (fun w => .int .i64 w) (fun w => []) (show (e1.term) = (termAt h.log at_) from by unfold termAt; first | (rw [if_pos (by omega)]; done) | (rw [if_neg (by omega), he1]; rfl)) ?_
      exact KF.mk (.inr rfl) [] [.int .i64 e1.term] (by kernel_rfl) (by kernel_rfl) (by kernel_rfl) (by kernel_rfl) (by kernel_rfl)
set_option maxRecDepth 100000 in
set_option maxHeartbeats 4000000 in
theorem spec_l1Min_spec  (a : Int) (b : Int) : FnSpec Try.prog 105 [.int .i64 a, .int .i64 b] [] (.int .i64 (min a b)) [] := by
  refine FnSpec.of 10 Try.func105 rfl Try.ntmps105 (by simp) (AW.weakK ?_)
  refine AW.seq ?_
  refine AW.region (At.start ?_)
  refine At.auto 1 (by kernel_rfl) ?_
  refine At.done rfl ?_
  refine AW.seq ?_
  refine AW.seq ?_
  refine AW.region (At.start ?_)
  refine At.auto 3 (by kernel_rfl) ?_
  refine At.done rfl ?_
  refine AW.cond (decide (a < b)) (by kernel_rfl) (fun hb => ?_) (fun hb => ?_)
  · have h1 : a < b := by simpa using hb
    clear hb
    refine AW.seq ?_
    refine AW.region (At.start ?_)
    refine At.auto 2 (by kernel_rfl) ?_
    refine At.done rfl ?_
    refine AW.ret ?_
    refine ⟨_, Sub.refl _ _, ?_⟩
    refine KF.conv (fun w => .int .i64 w) (fun w => []) (show (a) = (min a b) from by omega) ?_
    exact KF.mk (.inr rfl) [] [.int .i64 a] (by kernel_rfl) (by kernel_rfl) (by kernel_rfl) (by kernel_rfl) (by kernel_rfl)
  · have h1 : ¬ (a < b) := by simpa using hb
    clear hb
    refine AW.skip ?_
    refine AW.seq ?_
    refine AW.region (At.start ?_)
    refine At.auto 2 (by kernel_rfl) ?_
    refine At.done rfl ?_
    refine AW.ret ?_
    refine ⟨_, Sub.refl _ _, ?_⟩
    refine KF.conv (fun w => .int .i64 w) (fun w => []) (show (b) = (min a b) from by omega) ?_
    exact KF.mk (.inr rfl) [] [.int .i64 b] (by kernel_rfl) (by kernel_rfl) (by kernel_rfl) (by kernel_rfl) (by kernel_rfl)
set_option maxRecDepth 100000 in
set_option maxHeartbeats 4000000 in
theorem spec_l10Send_spec  (r : Raft) (i : Int) (hz : SmallR r) (hi : 0 ≤ i ∧ i < r.next.length) (hn : NextOk r) : FnSpec Try.prog 82 [.agg [.int .i64 r.id, .int .i64 r.of_, .int .i64 r.role, .int .i64 r.commit, .int .i64 r.hard.term, .int .i64 r.hard.vote, .sl false 6 (r.hard.log.map encEnt), .sl false 1 (r.yes.map encI), .sl false 1 (r.next.map encI), .sl false 1 (r.match_.map encI)], .int .i64 i] [] (.agg [.int .i64 ((sendOf r i).to), .int .i64 ((sendOf r i).msg.kind), .int .i64 ((sendOf r i).msg.from_), .int .i64 ((sendOf r i).msg.term), .int .i64 ((sendOf r i).msg.at_), .int .i64 ((sendOf r i).msg.atTerm), .int .i64 ((sendOf r i).msg.commit), .bool ((sendOf r i).msg.yes), .int .i64 ((sendOf r i).msg.release), .int .i64 ((sendOf r i).msg.part), .str ((sendOf r i).msg.bytes), .int .i64 ((sendOf r i).msg.cmd.kind), .int .i64 ((sendOf r i).msg.cmd.release), .int .i64 ((sendOf r i).msg.cmd.node), .int .i64 ((sendOf r i).msg.cmd.size), .str ((sendOf r i).msg.cmd.digest), .ref 0]) [.arr 88 6 (((sendOf r i).msg.entries).map encEnt)] := by
  obtain ⟨z1, z2, z3, z4⟩ := id hz
  refine FnSpec.of 42 Try.func82 rfl Try.ntmps82 (by simp) (AW.weakK ?_)
  refine AW.seq ?_
  refine AW.region (At.start ?_)
  refine At.auto 2 (by kernel_rfl) ?_
  refine At.done rfl ?_
  refine AW.seq ?_
  refine AW.weak (Sub.nils [⟨true, 104, some 16, 5001, 88, 6⟩] (by kernel_rfl)) ?_
  refine AW.region (At.start ?_)
  refine At.auto 3 (by kernel_rfl) ?_
  refine At.idxSl (t := 25) (d := 10) (x := .tmp 8) (y := .tmp 9) (p := false) (es := 1) (xs := (r.next.map encI)) (kd := .i64) (i := i) (e := 3) (by kernel_rfl) (by kernel_rfl) (by kernel_rfl) (by kernel_rfl) (by omega) (by first | omega | (simp only [List.length_map, List.length_append, List.length_take, List.length_drop, List.length_replicate, List.length_set, List.length_cons, List.length_nil]; omega)) ?_
  refine Exists.elim (show ∃ e, r.next[(i).toNat]? = some e from ⟨_, List.getElem?_eq_getElem (by first | omega | (simp only [List.length_map, List.length_append, List.length_take, List.length_drop, List.length_replicate, List.length_set, List.length_cons, List.length_nil]; omega))⟩) fun e1 he1 => ?_
  have hxe1 := hn _ (List.mem_of_getElem? he1)
  refine At.ldVp (t := 3) (d := 11) (x := .tmp 10) (p := false) (es := 1) (xs := (r.next.map encI)) (j := (i).toNat) (off := 0) (b := false) (m := 1) (encI e1) (.int .i64 e1) (by kernel_rfl) (by kernel_rfl) (by kernel_rfl) (by kernel_rfl) (mapGet he1) (by kernel_rfl) ?_
  refine At.auto 1 (by kernel_rfl) ?_
  refine At.say 12 (.int .i64 (IntKind.i64.wrap (e1 - 1))) (.int .i64 (e1 - 1)) (by kernel_rfl) (sayI _ (by omega)) ?_
  refine At.auto 1 (by kernel_rfl) ?_
  refine At.done rfl ?_
  refine AW.seq ?_
  refine AW.regionD Try_mix (At.start ?_)
  refine At.auto 9 (by kernel_rfl) ?_
  refine At.call (spec_l10Term_spec  r.hard (e1 - 1) (by first | omega | (dsimp only; omega) | (simp only [List.length_map, List.length_append, List.length_take, List.length_drop, List.length_replicate, List.length_set, List.length_cons, List.length_nil]; omega))) Try.call69 true [] [] [] (by kernel_rfl) (by kernel_rfl) (by kernel_rfl) (by kernel_rfl) (by kernel_rfl) trivial ?_
  refine At.auto 5 (by kernel_rfl) ?_
  refine At.done rfl ⟨by kernel_rfl, ?_⟩
  refine AW.seq ?_
  refine AW.weak (Sub.nils [⟨true, 106, some 15, 5002, 88, 6⟩] (by kernel_rfl)) ?_
  refine AW.regionD Try_mix (At.start ?_)
  refine At.lit0 (t := 31) (d := 26) (e := 88) (es := 6) (bytes := 56) 126 (by kernel_rfl) (by kernel_rfl) (by kernel_rfl) (by kernel_rfl) ?_
  refine At.auto 6 (by kernel_rfl) ?_
  refine At.say 32 (.int .i64 (IntKind.i64.wrap ((e1 - 1) + 6))) (.int .i64 (e1 + 5)) (by kernel_rfl) (sayJ _ (by omega) (by omega)) ?_
  refine At.auto 1 (by kernel_rfl) ?_
  refine At.call (spec_l10End_spec  r ) Try.call53 true [] [] [] (by kernel_rfl) (by kernel_rfl) (by kernel_rfl) (by kernel_rfl) (by kernel_rfl) trivial ?_
  refine At.call (spec_l1Min_spec  (e1 + 5) (r.hard.log.length : Int) ) Try.call105 true [] [] [] (by kernel_rfl) (by kernel_rfl) (by kernel_rfl) (by kernel_rfl) (by kernel_rfl) trivial ?_
  refine At.sliceSl (t := 31) (d := 36) (e := 88) (es := 6) (x := .tmp 29) (lx := some (.tmp 30)) (hx := some (.tmp 35)) (p := false) (xs := (r.hard.log.map encEnt)) (vl := .int .i64 (e1 - 1)) (vh := .int .i64 (min (e1 + 5) (r.hard.log.length : Int))) ((e1 - 1).toNat) ((min (e1 + 5) (r.hard.log.length : Int)).toNat) (((r.hard.log.drop ((e1 - 1).toNat)).take (((min (e1 + 5) (r.hard.log.length : Int)).toNat) - ((e1 - 1).toNat))).map encEnt) (by kernel_rfl) (by kernel_rfl) (by kernel_rfl) (by kernel_rfl) (.inr ⟨_, _, rfl, sayNat (by omega)⟩) (.inr ⟨_, _, rfl, sayNat (by omega)⟩) (by first | omega | (simp only [List.length_map, List.length_append, List.length_take, List.length_drop, List.length_replicate, List.length_set, List.length_cons, List.length_nil]; omega)) (by first | omega | (simp only [List.length_map, List.length_append, List.length_take, List.length_drop, List.length_replicate, List.length_set, List.length_cons, List.length_nil]; omega)) (by simp [List.map_take, List.map_drop]) ?_
  refine At.append (t := 31) (d := 37) (e := 88) (es := 6) (bytes := 56) (s := .tmp 26) (x := .tmp 36) (S := .ref 126) (T := .sl false 6 (((r.hard.log.drop ((e1 - 1).toNat)).take (((min (e1 + 5) (r.hard.log.length : Int)).toNat) - ((e1 - 1).toNat))).map encEnt)) (xs := []) (ys := (((r.hard.log.drop ((e1 - 1).toNat)).take (((min (e1 + 5) (r.hard.log.length : Int)).toNat) - ((e1 - 1).toNat))).map encEnt)) 137 [126] [] (((r.hard.log.drop ((e1 - 1).toNat)).take (((min (e1 + 5) (r.hard.log.length : Int)).toNat) - ((e1 - 1).toNat))).map encEnt) (by kernel_rfl) (by kernel_rfl) (by kernel_rfl) (by kernel_rfl) ⟨by kernel_rfl, rfl⟩ ⟨rfl, rfl, (allP_encEnt _), rfl⟩ (by kernel_rfl) (by kernel_rfl) (by simp) (by first | omega | (simp only [List.length_map, List.length_append, List.length_take, List.length_drop, List.length_replicate, List.length_set, List.length_cons, List.length_nil]; omega)) (by first | omega | (simp only [List.length_map, List.length_append, List.length_take, List.length_drop, List.length_replicate, List.length_set, List.length_cons, List.length_nil]; omega)) ?_
  refine At.auto 2 (by kernel_rfl) ?_
  refine At.done rfl ⟨by kernel_rfl, ?_⟩
  refine AW.seq ?_
  refine AW.region (At.start ?_)
  refine At.auto 4 (by kernel_rfl) ?_
  refine At.done rfl ?_
  refine AW.ret ?_
  refine ⟨_, Sub.refl _ _, ?_⟩
  refine KF.conv (fun w => .agg [.int .i64 w.to, .int .i64 w.msg.kind, .int .i64 w.msg.from_, .int .i64 w.msg.term, .int .i64 w.msg.at_, .int .i64 w.msg.atTerm, .int .i64 w.msg.commit, .bool w.msg.yes, .int .i64 w.msg.release, .int .i64 w.msg.part, .str w.msg.bytes, .int .i64 w.msg.cmd.kind, .int .i64 w.msg.cmd.release, .int .i64 w.msg.cmd.node, .int .i64 w.msg.cmd.size, .str w.msg.cmd.digest, .ref 0]) (fun w => [.arr 88 6 (w.msg.entries.map encEnt)]) (show ((⟨i, ⟨3, r.id, r.hard.term, e1 - 1, termAt r.hard.log (e1 - 1), r.commit, false, 0, 0, ⟨#[]⟩, ⟨0, 0, 0, 0, ⟨#[]⟩⟩, (r.hard.log.drop ((e1 - 1).toNat)).take (((min (e1 + 5) (r.hard.log.length : Int)).toNat) - ((e1 - 1).toNat))⟩⟩ : Out)) = (sendOf r i) from by simp only [sendOf, nextOf, he1, Option.getD_some]; rw [takeMin _ _ 6 _ (by omega)]; rfl) ?_
  exact KF.mk (.inr rfl) [(137, 0)] [.agg [.int .i64 i, .int .i64 3, .int .i64 r.id, .int .i64 r.hard.term, .int .i64 (e1 - 1), .int .i64 (termAt r.hard.log (e1 - 1)), .int .i64 r.commit, .bool false, .int .i64 0, .int .i64 0, .str (⟨#[]⟩), .int .i64 0, .int .i64 0, .int .i64 0, .int .i64 0, .str (⟨#[]⟩), .ref 137]] (by kernel_rfl) (by kernel_rfl) (by kernel_rfl) (by kernel_rfl) (by kernel_rfl)
set_option maxRecDepth 100000 in
set_option maxHeartbeats 4000000 in
theorem spec_l10SendAll_spec  (r : Raft) (hz : SmallR r) (ho : 0 ≤ r.of_ ∧ r.of_ ≤ 5) (hx : r.of_ ≤ r.next.length) (hn : NextOk r) : FnSpec Try.prog 35 [.agg [.int .i64 r.id, .int .i64 r.of_, .int .i64 r.role, .int .i64 r.commit, .int .i64 r.hard.term, .int .i64 r.hard.vote, .sl false 6 (r.hard.log.map encEnt), .sl false 1 (r.yes.map encI), .sl false 1 (r.next.map encI), .sl false 1 (r.match_.map encI)]] [] (.ref 0) [.arr 76 17 ((sendAll r).map encOut)] := by
  obtain ⟨z1, z2, z3, z4⟩ := id hz
  refine FnSpec.of 23 Try.func35 rfl Try.ntmps35 (by simp) (AW.weakK ?_)
  refine AW.seq ?_
  refine AW.region (At.start ?_)
  refine At.auto 2 (by kernel_rfl) ?_
  refine At.done rfl ?_
  refine AW.seq ?_
  refine AW.region (At.start ?_)
  refine At.lit0 (t := 29) (d := 5) (e := 76) (es := 17) (bytes := 168) 105 (by kernel_rfl) (by kernel_rfl) (by kernel_rfl) (by kernel_rfl) ?_
  refine At.auto 1 (by kernel_rfl) ?_
  refine At.done rfl ?_
  refine AW.seq ?_
  refine AW.seq ?_
  refine AW.region (At.start ?_)
  refine At.auto 1 (by kernel_rfl) ?_
  refine At.done rfl ?_
  refine AW.block ?_
  refine AW.loopW (fun (x : Nat × List Out) => match x with | (k, o) => Go.Sy.mk [.un, .ptr 101 0 0, .un, .ref 105, .int .i64 (k : Int)] [(101, .box 35 [.int .i64 r.id, .int .i64 r.of_, .int .i64 r.role, .int .i64 r.commit, .int .i64 r.hard.term, .int .i64 r.hard.vote, .sl false 6 (r.hard.log.map encEnt), .sl false 1 (r.yes.map encI), .sl false 1 (r.next.map encI), .sl false 1 (r.match_.map encI)]), (105, .arr 76 17 (o.map encOut))]) (fun (x : Nat × List Out) => match x with | (k, o) => (k : Int) ≤ r.of_ ∧ o = sendUp r k) (fun (x : Nat × List Out) => match x with | (k, o) => r.of_.toNat - k) (0, []) ⟨by omega, by simp [sendUp]⟩ (Sub.of [(101, 101), (105, 105)] [false, true, false, true, true] _ _ (by kernel_rfl) (by kernel_rfl) (by kernel_rfl)) ?_
  rintro ⟨k, o⟩ ⟨hk, hR⟩
  have hlen := sendUp_len r k
  have hlen2 := congrArg List.length hR
  try rw [List.length_append] at hlen2
  refine AW.seq ?_
  refine AW.seq ?_
  refine AW.region (At.start ?_)
  refine At.auto 4 (by kernel_rfl) ?_
  refine At.done rfl ?_
  refine AW.cond (decide ((k : Int) < r.of_)) (by kernel_rfl) (fun hb => ?_) (fun hb => ?_)
  · have h1 : (k : Int) < r.of_ := by simpa using hb
    clear hb
    refine AW.skip ?_
    refine AW.seq ?_
    refine AW.block ?_
    refine AW.seq ?_
    refine AW.region (At.start ?_)
    refine At.auto 4 (by kernel_rfl) ?_
    refine At.done rfl ?_
    refine AW.cond ((k : Int) != r.id) (by kernel_rfl) (fun hb => ?_) (fun hb => ?_)
    · have h2 : ¬ ((k : Int) = r.id) := by simpa using hb
      clear hb
      refine AW.region (At.start ?_)
      refine At.auto 3 (by kernel_rfl) ?_
      refine At.call (spec_l10Send_spec  r (k : Int) hz (by first | omega | (dsimp only; omega) | (simp only [List.length_map, List.length_append, List.length_take, List.length_drop, List.length_replicate, List.length_set, List.length_cons, List.length_nil]; omega)) hn) Try.call82 true [] [(1380, 0)] [] (by kernel_rfl) (by kernel_rfl) (by kernel_rfl) (by kernel_rfl) (by kernel_rfl) trivial ?_
      refine At.litK (t := 29) (d := 20) (e := 76) (es := 17) (bytes := 168) (n := 1) (parts := #[(0, .tmp 19)]) (88, 6) 120 [1380] [.int .i64 ((sendOf r (k : Int)).to), .int .i64 ((sendOf r (k : Int)).msg.kind), .int .i64 ((sendOf r (k : Int)).msg.from_), .int .i64 ((sendOf r (k : Int)).msg.term), .int .i64 ((sendOf r (k : Int)).msg.at_), .int .i64 ((sendOf r (k : Int)).msg.atTerm), .int .i64 ((sendOf r (k : Int)).msg.commit), .bool ((sendOf r (k : Int)).msg.yes), .int .i64 ((sendOf r (k : Int)).msg.release), .int .i64 ((sendOf r (k : Int)).msg.part), .str ((sendOf r (k : Int)).msg.bytes), .int .i64 ((sendOf r (k : Int)).msg.cmd.kind), .int .i64 ((sendOf r (k : Int)).msg.cmd.release), .int .i64 ((sendOf r (k : Int)).msg.cmd.node), .int .i64 ((sendOf r (k : Int)).msg.cmd.size), .str ((sendOf r (k : Int)).msg.cmd.digest), .ref 1380] [.int .i64 ((sendOf r (k : Int)).to), .int .i64 ((sendOf r (k : Int)).msg.kind), .int .i64 ((sendOf r (k : Int)).msg.from_), .int .i64 ((sendOf r (k : Int)).msg.term), .int .i64 ((sendOf r (k : Int)).msg.at_), .int .i64 ((sendOf r (k : Int)).msg.atTerm), .int .i64 ((sendOf r (k : Int)).msg.commit), .bool ((sendOf r (k : Int)).msg.yes), .int .i64 ((sendOf r (k : Int)).msg.release), .int .i64 ((sendOf r (k : Int)).msg.part), .str ((sendOf r (k : Int)).msg.bytes), .int .i64 ((sendOf r (k : Int)).msg.cmd.kind), .int .i64 ((sendOf r (k : Int)).msg.cmd.release), .int .i64 ((sendOf r (k : Int)).msg.cmd.node), .int .i64 ((sendOf r (k : Int)).msg.cmd.size), .str ((sendOf r (k : Int)).msg.cmd.digest), .own 88 6 (((sendOf r (k : Int)).msg.entries).map encEnt)] [.int .i64 0, .int .i64 0, .int .i64 0, .int .i64 0, .int .i64 0, .int .i64 0, .int .i64 0, .bool false, .int .i64 0, .int .i64 0, .str (⟨#[]⟩), .int .i64 0, .int .i64 0, .int .i64 0, .int .i64 0, .str (⟨#[]⟩), .nil] [.agg [.int .i64 ((sendOf r (k : Int)).to), .int .i64 ((sendOf r (k : Int)).msg.kind), .int .i64 ((sendOf r (k : Int)).msg.from_), .int .i64 ((sendOf r (k : Int)).msg.term), .int .i64 ((sendOf r (k : Int)).msg.at_), .int .i64 ((sendOf r (k : Int)).msg.atTerm), .int .i64 ((sendOf r (k : Int)).msg.commit), .bool ((sendOf r (k : Int)).msg.yes), .int .i64 ((sendOf r (k : Int)).msg.release), .int .i64 ((sendOf r (k : Int)).msg.part), .str ((sendOf r (k : Int)).msg.bytes), .int .i64 ((sendOf r (k : Int)).msg.cmd.kind), .int .i64 ((sendOf r (k : Int)).msg.cmd.release), .int .i64 ((sendOf r (k : Int)).msg.cmd.node), .int .i64 ((sendOf r (k : Int)).msg.cmd.size), .str ((sendOf r (k : Int)).msg.cmd.digest), .own 88 6 (((sendOf r (k : Int)).msg.entries).map encEnt)]] [(88, 6, (((sendOf r (k : Int)).msg.entries).map encEnt))] (by kernel_rfl) (by kernel_rfl) (by kernel_rfl) (by kernel_rfl) (by kernel_rfl) (by intro p hp; simp only [List.mem_cons, List.not_mem_nil, or_false] at hp; subst hp; all_goals first | exact flatEnts | (intro x hx; cases hx)) (by kernel_rfl) ?_
      refine At.append (t := 29) (d := 21) (e := 76) (es := 17) (bytes := 168) (s := .tmp 16) (x := .tmp 20) (S := .ref 105) (T := .ref 120) (xs := (o.map encOut)) (ys := (([(sendOf r (k : Int))]).map encOut)) 121 [105] [120] ((o ++ ([(sendOf r (k : Int))])).map encOut) (by kernel_rfl) (by kernel_rfl) (by kernel_rfl) (by kernel_rfl) ⟨by kernel_rfl, rfl⟩ ⟨by kernel_rfl, .inr rfl⟩ (by kernel_rfl) (by kernel_rfl) (by simp) (by first | omega | (simp only [List.length_map, List.length_append, List.length_take, List.length_drop, List.length_replicate, List.length_set, List.length_cons, List.length_nil]; omega)) (by first | omega | (simp only [List.length_map, List.length_append, List.length_take, List.length_drop, List.length_replicate, List.length_set, List.length_cons, List.length_nil]; omega)) ?_
      refine At.auto 1 (by kernel_rfl) ?_
      refine At.done rfl ?_
      refine AW.region (At.start ?_)
      refine At.auto 2 (by kernel_rfl) ?_
      refine At.say 11 (.int .i64 (IntKind.i64.wrap ((k : Int) + 1))) (.int .i64 ((k : Int) + 1)) (by kernel_rfl) (sayI _ (by omega)) ?_
      refine At.auto 1 (by kernel_rfl) ?_
      refine At.done rfl ?_
      exact ⟨(k + 1, (o ++ ([(sendOf r (k : Int))]))), ⟨by omega, by first | (rw [hR, sendUp, if_pos (by grind)]; simp; done) | (rw [hR, sendUp, if_neg (by grind)]; done) | (rw [hR, sendUp, if_neg (by grind)]; (try rw [termAt_end]); first | rfl | exact List.append_assoc _ _ _)⟩, (by simp only; omega), Sub.of [(101, 101), (121, 105)] [false, true, false, true, true] _ _ (by kernel_rfl) (by kernel_rfl) (by kernel_rfl)⟩
    · have h2 : (k : Int) = r.id := by simpa using hb
      clear hb
      refine AW.skip ?_
      refine AW.region (At.start ?_)
      refine At.auto 2 (by kernel_rfl) ?_
      refine At.say 11 (.int .i64 (IntKind.i64.wrap ((k : Int) + 1))) (.int .i64 ((k : Int) + 1)) (by kernel_rfl) (sayI _ (by omega)) ?_
      refine At.auto 1 (by kernel_rfl) ?_
      refine At.done rfl ?_
      exact ⟨(k + 1, o), ⟨by omega, by first | (rw [hR, sendUp, if_pos (by grind)]; simp; done) | (rw [hR, sendUp, if_neg (by grind)]; done) | (rw [hR, sendUp, if_neg (by grind)]; (try rw [termAt_end]); first | rfl | exact List.append_assoc _ _ _)⟩, (by simp only; omega), Sub.of [(101, 101), (105, 105)] [false, true, false, true, true] _ _ (by kernel_rfl) (by kernel_rfl) (by kernel_rfl)⟩
  · have h1 : ¬ ((k : Int) < r.of_) := by simpa using hb
    clear hb
    refine AW.exit ?_
    refine AW.seq ?_
    refine AW.region (At.start ?_)
    refine At.auto 2 (by kernel_rfl) ?_
    refine At.done rfl ?_
    refine AW.ret ?_
    refine ⟨_, Sub.refl _ _, ?_⟩
    refine KF.conv (fun w => .ref 0) (fun w => [.arr 76 17 (w.map encOut)]) (show (o) = (sendAll r) from by rw [hR, sendAll, show r.of_.toNat = k from by omega]) ?_
    exact KF.mk (.inr rfl) [(105, 0)] [.ref 105] (by kernel_rfl) (by kernel_rfl) (by kernel_rfl) (by kernel_rfl) (by kernel_rfl)
set_option maxRecDepth 100000 in
set_option maxHeartbeats 4000000 in
theorem spec_RaftPropose_spec  (r : Raft) (c : Cmd) (hz : SmallR r) : FnSpec Try.prog 17 [.agg [.int .i64 r.id, .int .i64 r.of_, .int .i64 r.role, .int .i64 r.commit, .int .i64 r.hard.term, .int .i64 r.hard.vote, .sl false 6 (r.hard.log.map encEnt), .sl false 1 (r.yes.map encI), .sl false 1 (r.next.map encI), .sl false 1 (r.match_.map encI)], .agg [.int .i64 c.kind, .int .i64 c.release, .int .i64 c.node, .int .i64 c.size, .str c.digest]] [] (.tup [.agg [.int .i64 ((propR r c).id), .int .i64 ((propR r c).of_), .int .i64 ((propR r c).role), .int .i64 ((propR r c).commit), .int .i64 ((propR r c).hard.term), .int .i64 ((propR r c).hard.vote), .ref 0, .ref 1, .ref 2, .ref 3], .ref 4, .ref 5, .bool (propOk r c)]) [.arr 88 6 (((propR r c).hard.log).map encEnt), .arr 3 1 (((propR r c).yes).map encI), .arr 3 1 (((propR r c).next).map encI), .arr 3 1 (((propR r c).match_).map encI), .arr 93 10 ((propRecs r c).map encRec), .arr 76 17 ((propOuts r c).map encOut)] := by
  obtain ⟨z1, z2, z3, z4⟩ := id hz
  refine FnSpec.of 62 Try.func17 rfl Try.ntmps17 (by simp) (AW.weakK ?_)
  by_cases hok : raftOk r = true
  · skip
    have hokn := raftOk1_nums (raftOk_1 hok)
    refine AW.seq ?_
    refine AW.region (At.start ?_)
    refine At.auto 6 (by kernel_rfl) ?_
    refine At.done rfl ?_
    refine AW.seq ?_
    refine AW.weak (Sub.nils [⟨true, 104, some 6, 5001, 88, 6⟩, ⟨true, 104, some 7, 5002, 3, 1⟩, ⟨true, 104, some 8, 5003, 3, 1⟩, ⟨true, 104, some 9, 5004, 3, 1⟩] (by kernel_rfl)) ?_
    refine AW.region (At.start ?_)
    refine At.auto 1 (by kernel_rfl) ?_
    refine At.call (spec_l10Same_T_spec  r (by first | exact hz | (unfold SmallR; simp only [List.length_append, List.length_set, List.length_cons, List.length_nil]; omega)) hok) Try.call51 true [] [(1220, 0), (1221, 1), (1222, 2), (1223, 3)] [] (by kernel_rfl) (by kernel_rfl) (by kernel_rfl) (by kernel_rfl) (by kernel_rfl) trivial ?_
    refine At.lit0 (t := 45) (d := 12) (e := 93) (es := 10) (bytes := 88) 112 (by kernel_rfl) (by kernel_rfl) (by kernel_rfl) (by kernel_rfl) ?_
    refine At.auto 3 (by kernel_rfl) ?_
    refine At.done rfl ?_
    refine AW.seq ?_
    refine AW.seq ?_
    refine AW.region (At.start ?_)
    refine At.auto 1 (by kernel_rfl) ?_
    refine At.call (spec_RaftOk_spec  r (by first | exact hz | (unfold SmallR; simp only [List.length_append, List.length_set, List.length_cons, List.length_nil]; omega))) Try.call34 true [] [] [] (by kernel_rfl) (by kernel_rfl) (by kernel_rfl) (by kernel_rfl) (by kernel_rfl) trivial ?_
    refine At.auto 2 (by kernel_rfl) ?_
    refine At.say 16 (.bool (!(raftOk r))) (.bool false) (by kernel_rfl) (sayB (by rw [show (raftOk r) = true from hok]; rfl)) ?_
    refine At.auto 5 (by kernel_rfl) ?_
    by_cases h1 : r.role = 3
    · refine At.say 21 (.bool (r.role != 3)) (.bool false) (by kernel_rfl) (sayUF h1) ?_
      have hnx := raftOk_next hok h1
      refine At.auto 1 (by kernel_rfl) ?_
      refine At.call (spec_CmdOk_spec  c ) Try.call52 true [] [] [] (by kernel_rfl) (by kernel_rfl) (by kernel_rfl) (by kernel_rfl) (by kernel_rfl) trivial ?_
      refine At.auto 3 (by kernel_rfl) ?_
      by_cases h2 : (cmdOk c) = true
      · refine At.say 26 (.bool (!(cmdOk c))) (.bool false) (by kernel_rfl) (sayNF (sayB h2)) ?_
        refine At.auto 1 (by kernel_rfl) ?_
        refine At.call (spec_l10End_spec  r ) Try.call53 true [] [] [] (by kernel_rfl) (by kernel_rfl) (by kernel_rfl) (by kernel_rfl) (by kernel_rfl) trivial ?_
        refine At.auto 2 (by kernel_rfl) ?_
        refine At.done rfl ?_
        refine AW.cond ((r.hard.log.length : Int) == 80) (by kernel_rfl) (fun hb => ?_) (fun hb => ?_)
        · have h3 : (r.hard.log.length : Int) = 80 := by simpa using hb
          clear hb
          refine AW.seq ?_
          refine AW.region (At.start ?_)
          refine At.auto 2 (by kernel_rfl) ?_
          refine At.lit0 (t := 29) (d := 33) (e := 76) (es := 17) (bytes := 168) 133 (by kernel_rfl) (by kernel_rfl) (by kernel_rfl) (by kernel_rfl) ?_
          refine At.auto 4 (by kernel_rfl) ?_
          refine At.done rfl ?_
          refine AW.ret ?_
          refine ⟨_, Sub.refl _ _, ?_⟩
          refine KF.conv (fun w => .tup [.agg [.int .i64 w.id, .int .i64 w.of_, .int .i64 w.role, .int .i64 w.commit, .int .i64 w.hard.term, .int .i64 w.hard.vote, .ref 0, .ref 1, .ref 2, .ref 3], .ref 4, .ref 5, .bool (propOk r c)]) (fun w => [.arr 88 6 (w.hard.log.map encEnt), .arr 3 1 (w.yes.map encI), .arr 3 1 (w.next.map encI), .arr 3 1 (w.match_.map encI), .arr 93 10 ((propRecs r c).map encRec), .arr 76 17 ((propOuts r c).map encOut)]) (show (r) = (propR r c) from by first | (have q : propOk r c = true := (by grind [propOk]); first | exact q.symm | (simp only [propR, propRecs, propOuts, if_pos q]; done) | (simp only [propR, propRecs, propOuts, if_pos q]; first | rfl | (simp [endRecs, had, put, propE, putRec, h1, h2, h3]; done) | simp [endRecs, had, put, propE, putRec])) | (have q : propOk r c = false := (by grind [propOk]); simp [propR, propRecs, propOuts, same, hok, q])) ?_
          refine KF.conv (fun w => .tup [.agg [.int .i64 r.id, .int .i64 r.of_, .int .i64 r.role, .int .i64 r.commit, .int .i64 r.hard.term, .int .i64 r.hard.vote, .ref 0, .ref 1, .ref 2, .ref 3], .ref 4, .ref 5, .bool (propOk r c)]) (fun w => [.arr 88 6 (r.hard.log.map encEnt), .arr 3 1 (r.yes.map encI), .arr 3 1 (r.next.map encI), .arr 3 1 (r.match_.map encI), .arr 93 10 (w.map encRec), .arr 76 17 ((propOuts r c).map encOut)]) (show ([]) = (propRecs r c) from by first | (have q : propOk r c = true := (by grind [propOk]); first | exact q.symm | (simp only [propR, propRecs, propOuts, if_pos q]; done) | (simp only [propR, propRecs, propOuts, if_pos q]; first | rfl | (simp [endRecs, had, put, propE, putRec, h1, h2, h3]; done) | simp [endRecs, had, put, propE, putRec])) | (have q : propOk r c = false := (by grind [propOk]); simp [propR, propRecs, propOuts, same, hok, q])) ?_
          refine KF.conv (fun w => .tup [.agg [.int .i64 r.id, .int .i64 r.of_, .int .i64 r.role, .int .i64 r.commit, .int .i64 r.hard.term, .int .i64 r.hard.vote, .ref 0, .ref 1, .ref 2, .ref 3], .ref 4, .ref 5, .bool (propOk r c)]) (fun w => [.arr 88 6 (r.hard.log.map encEnt), .arr 3 1 (r.yes.map encI), .arr 3 1 (r.next.map encI), .arr 3 1 (r.match_.map encI), .arr 93 10 [], .arr 76 17 (w.map encOut)]) (show ([]) = (propOuts r c) from by first | (have q : propOk r c = true := (by grind [propOk]); first | exact q.symm | (simp only [propR, propRecs, propOuts, if_pos q]; done) | (simp only [propR, propRecs, propOuts, if_pos q]; first | rfl | (simp [endRecs, had, put, propE, putRec, h1, h2, h3]; done) | simp [endRecs, had, put, propE, putRec])) | (have q : propOk r c = false := (by grind [propOk]); simp [propR, propRecs, propOuts, same, hok, q])) ?_
          refine KF.conv (fun w => .tup [.agg [.int .i64 r.id, .int .i64 r.of_, .int .i64 r.role, .int .i64 r.commit, .int .i64 r.hard.term, .int .i64 r.hard.vote, .ref 0, .ref 1, .ref 2, .ref 3], .ref 4, .ref 5, .bool w]) (fun w => [.arr 88 6 (r.hard.log.map encEnt), .arr 3 1 (r.yes.map encI), .arr 3 1 (r.next.map encI), .arr 3 1 (r.match_.map encI), .arr 93 10 [], .arr 76 17 []]) (show (false) = (propOk r c) from by first | (have q : propOk r c = true := (by grind [propOk]); first | exact q.symm | (simp only [propR, propRecs, propOuts, if_pos q]; done) | (simp only [propR, propRecs, propOuts, if_pos q]; first | rfl | (simp [endRecs, had, put, propE, putRec, h1, h2, h3]; done) | simp [endRecs, had, put, propE, putRec])) | (have q : propOk r c = false := (by grind [propOk]); simp [propR, propRecs, propOuts, same, hok, q])) ?_
          exact KF.mk (.inr rfl) [(1220, 0), (1221, 1), (1222, 2), (1223, 3), (112, 4), (133, 5)] [.agg [.int .i64 r.id, .int .i64 r.of_, .int .i64 r.role, .int .i64 r.commit, .int .i64 r.hard.term, .int .i64 r.hard.vote, .ref 1220, .ref 1221, .ref 1222, .ref 1223], .ref 112, .ref 133, .bool false] (by kernel_rfl) (by kernel_rfl) (by kernel_rfl) (by kernel_rfl) (by kernel_rfl)
        · have h3 : ¬ ((r.hard.log.length : Int) = 80) := by simpa using hb
          clear hb
          refine AW.skip ?_
          refine AW.seq ?_
          refine AW.region (At.start ?_)
          refine At.auto 7 (by kernel_rfl) ?_
          refine At.call (spec_l10Put_spec  r (⟨r.hard.term, c⟩ : Ent) ([]) (by first | omega | (dsimp only; omega) | (simp only [List.length_map, List.length_append, List.length_take, List.length_drop, List.length_replicate, List.length_set, List.length_cons, List.length_nil]; omega)) (by first | omega | (dsimp only; omega) | (simp only [List.length_map, List.length_append, List.length_take, List.length_drop, List.length_replicate, List.length_set, List.length_cons, List.length_nil]; omega))) Try.call54 true [(1220, 0), (1221, 1), (1222, 2), (1223, 3), (112, 4)] [(1840, 5), (1841, 6)] [] (by kernel_rfl) (by kernel_rfl) (by kernel_rfl) (by kernel_rfl) (by kernel_rfl) trivial ?_
          refine At.auto 5 (by kernel_rfl) ?_
          refine At.done rfl ?_
          refine AW.seq ?_
          refine AW.regionD Try_mix (At.start ?_)
          refine At.auto 5 (by kernel_rfl) ?_
          refine At.call (spec_l10End_spec  (⟨r.id, r.of_, r.role, r.commit, ⟨r.hard.term, r.hard.vote, r.hard.log ++ [(⟨r.hard.term, c⟩ : Ent)]⟩, r.yes, r.next, r.match_⟩ : Raft) ) Try.call53 false [] [] [(1840, 6, ((r.hard.log ++ [(⟨r.hard.term, c⟩ : Ent)]).map encEnt)), (1221, 1, (r.yes.map encI)), (1222, 1, (r.next.map encI)), (1223, 1, (r.match_.map encI))] (by kernel_rfl) (by kernel_rfl) (by kernel_rfl) (by kernel_rfl) (by kernel_rfl) ⟨rfl, ⟨88, ((r.hard.log ++ [(⟨r.hard.term, c⟩ : Ent)]).map encEnt), by kernel_rfl, FrzIs.same (allP_encEnt _)⟩, rfl, ⟨3, (r.yes.map encI), by kernel_rfl, FrzIs.same (allP_encI _)⟩, rfl, ⟨3, (r.next.map encI), by kernel_rfl, FrzIs.same (allP_encI _)⟩, rfl, ⟨3, (r.match_.map encI), by kernel_rfl, FrzIs.same (allP_encI _)⟩, trivial⟩ ?_
          refine At.idxRef (t := 25) (d := 51) (x := .tmp 46) (y := .tmp 48) (j := 1223) (xs := (r.match_.map encI)) (kd := .i64) (i := r.id) (e := 3) (es := 1) (by kernel_rfl) (by kernel_rfl) (by kernel_rfl) (by kernel_rfl) (by kernel_rfl) (by omega) (by first | omega | (simp only [List.length_map, List.length_append, List.length_take, List.length_drop, List.length_replicate, List.length_set, List.length_cons, List.length_nil]; omega)) ?_
          refine Exists.elim (show ∃ e, r.match_[(r.id).toNat]? = some e from ⟨_, List.getElem?_eq_getElem (by first | omega | (simp only [List.length_map, List.length_append, List.length_take, List.length_drop, List.length_replicate, List.length_set, List.length_cons, List.length_nil]; omega))⟩) fun e1 he1 => ?_
          refine At.stEl (t := 3) (i := 1223) (e := 3) (es := 1) (j := (r.id).toNat) (off := 0) (x := .tmp 51) (y := .tmp 50) (xs := (r.match_.map encI)) (xs' := ((r.match_.set ((r.id).toNat) ((r.hard.log ++ [(⟨r.hard.term, c⟩ : Ent)]).length : Int)).map encI)) (ys := [.int .i64 ((r.hard.log ++ [(⟨r.hard.term, c⟩ : Ent)]).length : Int)]) (v := .int .i64 ((r.hard.log ++ [(⟨r.hard.term, c⟩ : Ent)]).length : Int)) (encI e1) (encI ((r.hard.log ++ [(⟨r.hard.term, c⟩ : Ent)]).length : Int)) (by kernel_rfl) (by kernel_rfl) (by kernel_rfl) (by kernel_rfl) (by kernel_rfl) (mapGet he1) (by kernel_rfl) setV ?_
          refine At.done rfl ⟨by kernel_rfl, ?_⟩
          refine AW.seq ?_
          refine AW.seq ?_
          refine AW.region (At.start ?_)
          refine At.auto 3 (by kernel_rfl) ?_
          refine At.done rfl ?_
          refine AW.cond (r.of_ == 1) (by kernel_rfl) (fun hb => ?_) (fun hb => ?_)
          · have h4 : r.of_ = 1 := by simpa using hb
            clear hb
            refine AW.region (At.start ?_)
            refine At.auto 1 (by kernel_rfl) ?_
            refine At.call (spec_l10End_spec  (⟨r.id, r.of_, r.role, r.commit, ⟨r.hard.term, r.hard.vote, r.hard.log ++ [(⟨r.hard.term, c⟩ : Ent)]⟩, r.yes, r.next, r.match_.set ((r.id).toNat) ((r.hard.log ++ [(⟨r.hard.term, c⟩ : Ent)]).length : Int)⟩ : Raft) ) Try.call53 false [] [] [(1840, 6, ((r.hard.log ++ [(⟨r.hard.term, c⟩ : Ent)]).map encEnt)), (1221, 1, (r.yes.map encI)), (1222, 1, (r.next.map encI)), (1223, 1, ((r.match_.set ((r.id).toNat) ((r.hard.log ++ [(⟨r.hard.term, c⟩ : Ent)]).length : Int)).map encI))] (by kernel_rfl) (by kernel_rfl) (by kernel_rfl) (by kernel_rfl) (by kernel_rfl) ⟨rfl, ⟨88, ((r.hard.log ++ [(⟨r.hard.term, c⟩ : Ent)]).map encEnt), by kernel_rfl, FrzIs.same (allP_encEnt _)⟩, rfl, ⟨3, (r.yes.map encI), by kernel_rfl, FrzIs.same (allP_encI _)⟩, rfl, ⟨3, (r.next.map encI), by kernel_rfl, FrzIs.same (allP_encI _)⟩, rfl, ⟨3, ((r.match_.set ((r.id).toNat) ((r.hard.log ++ [(⟨r.hard.term, c⟩ : Ent)]).length : Int)).map encI), by kernel_rfl, FrzIs.same (allP_encI _)⟩, trivial⟩ ?_
            refine At.auto 2 (by kernel_rfl) ?_
            refine At.done rfl ?_
            refine AW.seq ?_
            refine AW.regionD Try_mix (At.start ?_)
            refine At.auto 3 (by kernel_rfl) ?_
            refine At.call (spec_l10SendAll_spec  (⟨r.id, r.of_, r.role, ((r.hard.log ++ [(⟨r.hard.term, c⟩ : Ent)]).length : Int), ⟨r.hard.term, r.hard.vote, r.hard.log ++ [(⟨r.hard.term, c⟩ : Ent)]⟩, r.yes, r.next, r.match_.set ((r.id).toNat) ((r.hard.log ++ [(⟨r.hard.term, c⟩ : Ent)]).length : Int)⟩ : Raft) (by first | exact hz | (unfold SmallR; simp only [List.length_append, List.length_set, List.length_cons, List.length_nil]; omega)) (by first | omega | (dsimp only; omega) | (simp only [List.length_map, List.length_append, List.length_take, List.length_drop, List.length_replicate, List.length_set, List.length_cons, List.length_nil]; omega)) (by dsimp only; omega) (had_next (e := propE (⟨r.id, r.of_, r.role, ((r.hard.log ++ [(⟨r.hard.term, c⟩ : Ent)]).length : Int), ⟨r.hard.term, r.hard.vote, r.hard.log ++ [(⟨r.hard.term, c⟩ : Ent)]⟩, r.yes, r.next, r.match_.set ((r.id).toNat) ((r.hard.log ++ [(⟨r.hard.term, c⟩ : Ent)]).length : Int)⟩ : Raft) c) hnx.2.1)) Try.call35 false [] [(2220, 0)] [(1840, 6, ((r.hard.log ++ [(⟨r.hard.term, c⟩ : Ent)]).map encEnt)), (1221, 1, (r.yes.map encI)), (1222, 1, (r.next.map encI)), (1223, 1, ((r.match_.set ((r.id).toNat) ((r.hard.log ++ [(⟨r.hard.term, c⟩ : Ent)]).length : Int)).map encI))] (by kernel_rfl) (by kernel_rfl) (by kernel_rfl) (by kernel_rfl) (by kernel_rfl) ⟨rfl, ⟨88, ((r.hard.log ++ [(⟨r.hard.term, c⟩ : Ent)]).map encEnt), by kernel_rfl, FrzIs.same (allP_encEnt _)⟩, rfl, ⟨3, (r.yes.map encI), by kernel_rfl, FrzIs.same (allP_encI _)⟩, rfl, ⟨3, (r.next.map encI), by kernel_rfl, FrzIs.same (allP_encI _)⟩, rfl, ⟨3, ((r.match_.set ((r.id).toNat) ((r.hard.log ++ [(⟨r.hard.term, c⟩ : Ent)]).length : Int)).map encI), by kernel_rfl, FrzIs.same (allP_encI _)⟩, trivial⟩ ?_
            refine At.auto 4 (by kernel_rfl) ?_
            refine At.done rfl ⟨by kernel_rfl, ?_⟩
            refine AW.ret ?_
            refine ⟨_, Sub.refl _ _, ?_⟩
            refine KF.conv (fun w => .tup [.agg [.int .i64 w.id, .int .i64 w.of_, .int .i64 w.role, .int .i64 w.commit, .int .i64 w.hard.term, .int .i64 w.hard.vote, .ref 0, .ref 1, .ref 2, .ref 3], .ref 4, .ref 5, .bool (propOk r c)]) (fun w => [.arr 88 6 (w.hard.log.map encEnt), .arr 3 1 (w.yes.map encI), .arr 3 1 (w.next.map encI), .arr 3 1 (w.match_.map encI), .arr 93 10 ((propRecs r c).map encRec), .arr 76 17 ((propOuts r c).map encOut)]) (show ((⟨r.id, r.of_, r.role, ((r.hard.log ++ [(⟨r.hard.term, c⟩ : Ent)]).length : Int), ⟨r.hard.term, r.hard.vote, r.hard.log ++ [(⟨r.hard.term, c⟩ : Ent)]⟩, r.yes, r.next, r.match_.set ((r.id).toNat) ((r.hard.log ++ [(⟨r.hard.term, c⟩ : Ent)]).length : Int)⟩ : Raft)) = (propR r c) from by first | (have q : propOk r c = true := (by grind [propOk]); first | exact q.symm | (simp only [propR, propRecs, propOuts, if_pos q]; done) | (simp only [propR, propRecs, propOuts, if_pos q]; first | rfl | (simp [endRecs, had, put, propE, putRec, h1, h2, h3, h4]; done) | simp [endRecs, had, put, propE, putRec])) | (have q : propOk r c = false := (by grind [propOk]); simp [propR, propRecs, propOuts, same, hok, q])) ?_
            refine KF.conv (fun w => .tup [.agg [.int .i64 r.id, .int .i64 r.of_, .int .i64 r.role, .int .i64 ((r.hard.log ++ [(⟨r.hard.term, c⟩ : Ent)]).length : Int), .int .i64 r.hard.term, .int .i64 r.hard.vote, .ref 0, .ref 1, .ref 2, .ref 3], .ref 4, .ref 5, .bool (propOk r c)]) (fun w => [.arr 88 6 ((r.hard.log ++ [(⟨r.hard.term, c⟩ : Ent)]).map encEnt), .arr 3 1 (r.yes.map encI), .arr 3 1 (r.next.map encI), .arr 3 1 ((r.match_.set ((r.id).toNat) ((r.hard.log ++ [(⟨r.hard.term, c⟩ : Ent)]).length : Int)).map encI), .arr 93 10 (w.map encRec), .arr 76 17 ((propOuts r c).map encOut)]) (show (([]) ++ [(⟨2, 0, 0, ((r.hard.log ++ [(⟨r.hard.term, c⟩ : Ent)]).length : Int), (⟨r.hard.term, c⟩ : Ent)⟩ : Rec)]) = (propRecs r c) from by first | (have q : propOk r c = true := (by grind [propOk]); first | exact q.symm | (simp only [propR, propRecs, propOuts, if_pos q]; done) | (simp only [propR, propRecs, propOuts, if_pos q]; first | rfl | (simp [endRecs, had, put, propE, putRec, h1, h2, h3, h4]; done) | simp [endRecs, had, put, propE, putRec])) | (have q : propOk r c = false := (by grind [propOk]); simp [propR, propRecs, propOuts, same, hok, q])) ?_
            refine KF.conv (fun w => .tup [.agg [.int .i64 r.id, .int .i64 r.of_, .int .i64 r.role, .int .i64 ((r.hard.log ++ [(⟨r.hard.term, c⟩ : Ent)]).length : Int), .int .i64 r.hard.term, .int .i64 r.hard.vote, .ref 0, .ref 1, .ref 2, .ref 3], .ref 4, .ref 5, .bool (propOk r c)]) (fun w => [.arr 88 6 ((r.hard.log ++ [(⟨r.hard.term, c⟩ : Ent)]).map encEnt), .arr 3 1 (r.yes.map encI), .arr 3 1 (r.next.map encI), .arr 3 1 ((r.match_.set ((r.id).toNat) ((r.hard.log ++ [(⟨r.hard.term, c⟩ : Ent)]).length : Int)).map encI), .arr 93 10 ((([]) ++ [(⟨2, 0, 0, ((r.hard.log ++ [(⟨r.hard.term, c⟩ : Ent)]).length : Int), (⟨r.hard.term, c⟩ : Ent)⟩ : Rec)]).map encRec), .arr 76 17 (w.map encOut)]) (show (sendAll (⟨r.id, r.of_, r.role, ((r.hard.log ++ [(⟨r.hard.term, c⟩ : Ent)]).length : Int), ⟨r.hard.term, r.hard.vote, r.hard.log ++ [(⟨r.hard.term, c⟩ : Ent)]⟩, r.yes, r.next, r.match_.set ((r.id).toNat) ((r.hard.log ++ [(⟨r.hard.term, c⟩ : Ent)]).length : Int)⟩ : Raft)) = (propOuts r c) from by first | (have q : propOk r c = true := (by grind [propOk]); first | exact q.symm | (simp only [propR, propRecs, propOuts, if_pos q]; done) | (simp only [propR, propRecs, propOuts, if_pos q]; first | rfl | (simp [endRecs, had, put, propE, putRec, h1, h2, h3, h4]; done) | simp [endRecs, had, put, propE, putRec])) | (have q : propOk r c = false := (by grind [propOk]); simp [propR, propRecs, propOuts, same, hok, q])) ?_
            refine KF.conv (fun w => .tup [.agg [.int .i64 r.id, .int .i64 r.of_, .int .i64 r.role, .int .i64 ((r.hard.log ++ [(⟨r.hard.term, c⟩ : Ent)]).length : Int), .int .i64 r.hard.term, .int .i64 r.hard.vote, .ref 0, .ref 1, .ref 2, .ref 3], .ref 4, .ref 5, .bool w]) (fun w => [.arr 88 6 ((r.hard.log ++ [(⟨r.hard.term, c⟩ : Ent)]).map encEnt), .arr 3 1 (r.yes.map encI), .arr 3 1 (r.next.map encI), .arr 3 1 ((r.match_.set ((r.id).toNat) ((r.hard.log ++ [(⟨r.hard.term, c⟩ : Ent)]).length : Int)).map encI), .arr 93 10 ((([]) ++ [(⟨2, 0, 0, ((r.hard.log ++ [(⟨r.hard.term, c⟩ : Ent)]).length : Int), (⟨r.hard.term, c⟩ : Ent)⟩ : Rec)]).map encRec), .arr 76 17 ((sendAll (⟨r.id, r.of_, r.role, ((r.hard.log ++ [(⟨r.hard.term, c⟩ : Ent)]).length : Int), ⟨r.hard.term, r.hard.vote, r.hard.log ++ [(⟨r.hard.term, c⟩ : Ent)]⟩, r.yes, r.next, r.match_.set ((r.id).toNat) ((r.hard.log ++ [(⟨r.hard.term, c⟩ : Ent)]).length : Int)⟩ : Raft)).map encOut)]) (show (true) = (propOk r c) from by first | (have q : propOk r c = true := (by grind [propOk]); first | exact q.symm | (simp only [propR, propRecs, propOuts, if_pos q]; done) | (simp only [propR, propRecs, propOuts, if_pos q]; first | rfl | (simp [endRecs, had, put, propE, putRec, h1, h2, h3, h4]; done) | simp [endRecs, had, put, propE, putRec])) | (have q : propOk r c = false := (by grind [propOk]); simp [propR, propRecs, propOuts, same, hok, q])) ?_
            exact KF.mk (.inr rfl) [(1840, 0), (1221, 1), (1222, 2), (1223, 3), (1841, 4), (2220, 5)] [.agg [.int .i64 r.id, .int .i64 r.of_, .int .i64 r.role, .int .i64 ((r.hard.log ++ [(⟨r.hard.term, c⟩ : Ent)]).length : Int), .int .i64 r.hard.term, .int .i64 r.hard.vote, .ref 1840, .ref 1221, .ref 1222, .ref 1223], .ref 1841, .ref 2220, .bool true] (by kernel_rfl) (by kernel_rfl) (by kernel_rfl) (by kernel_rfl) (by kernel_rfl)
          · have h4 : ¬ (r.of_ = 1) := by simpa using hb
            clear hb
            refine AW.skip ?_
            refine AW.seq ?_
            refine AW.regionD Try_mix (At.start ?_)
            refine At.auto 3 (by kernel_rfl) ?_
            refine At.call (spec_l10SendAll_spec  (⟨r.id, r.of_, r.role, r.commit, ⟨r.hard.term, r.hard.vote, r.hard.log ++ [(⟨r.hard.term, c⟩ : Ent)]⟩, r.yes, r.next, r.match_.set ((r.id).toNat) ((r.hard.log ++ [(⟨r.hard.term, c⟩ : Ent)]).length : Int)⟩ : Raft) (by first | exact hz | (unfold SmallR; simp only [List.length_append, List.length_set, List.length_cons, List.length_nil]; omega)) (by first | omega | (dsimp only; omega) | (simp only [List.length_map, List.length_append, List.length_take, List.length_drop, List.length_replicate, List.length_set, List.length_cons, List.length_nil]; omega)) (by dsimp only; omega) (had_next (e := propE (⟨r.id, r.of_, r.role, r.commit, ⟨r.hard.term, r.hard.vote, r.hard.log ++ [(⟨r.hard.term, c⟩ : Ent)]⟩, r.yes, r.next, r.match_.set ((r.id).toNat) ((r.hard.log ++ [(⟨r.hard.term, c⟩ : Ent)]).length : Int)⟩ : Raft) c) hnx.2.1)) Try.call35 false [] [(2220, 0)] [(1840, 6, ((r.hard.log ++ [(⟨r.hard.term, c⟩ : Ent)]).map encEnt)), (1221, 1, (r.yes.map encI)), (1222, 1, (r.next.map encI)), (1223, 1, ((r.match_.set ((r.id).toNat) ((r.hard.log ++ [(⟨r.hard.term, c⟩ : Ent)]).length : Int)).map encI))] (by kernel_rfl) (by kernel_rfl) (by kernel_rfl) (by kernel_rfl) (by kernel_rfl) ⟨rfl, ⟨88, ((r.hard.log ++ [(⟨r.hard.term, c⟩ : Ent)]).map encEnt), by kernel_rfl, FrzIs.same (allP_encEnt _)⟩, rfl, ⟨3, (r.yes.map encI), by kernel_rfl, FrzIs.same (allP_encI _)⟩, rfl, ⟨3, (r.next.map encI), by kernel_rfl, FrzIs.same (allP_encI _)⟩, rfl, ⟨3, ((r.match_.set ((r.id).toNat) ((r.hard.log ++ [(⟨r.hard.term, c⟩ : Ent)]).length : Int)).map encI), by kernel_rfl, FrzIs.same (allP_encI _)⟩, trivial⟩ ?_
            refine At.auto 4 (by kernel_rfl) ?_
            refine At.done rfl ⟨by kernel_rfl, ?_⟩
            refine AW.ret ?_
            refine ⟨_, Sub.refl _ _, ?_⟩
            refine KF.conv (fun w => .tup [.agg [.int .i64 w.id, .int .i64 w.of_, .int .i64 w.role, .int .i64 w.commit, .int .i64 w.hard.term, .int .i64 w.hard.vote, .ref 0, .ref 1, .ref 2, .ref 3], .ref 4, .ref 5, .bool (propOk r c)]) (fun w => [.arr 88 6 (w.hard.log.map encEnt), .arr 3 1 (w.yes.map encI), .arr 3 1 (w.next.map encI), .arr 3 1 (w.match_.map encI), .arr 93 10 ((propRecs r c).map encRec), .arr 76 17 ((propOuts r c).map encOut)]) (show ((⟨r.id, r.of_, r.role, r.commit, ⟨r.hard.term, r.hard.vote, r.hard.log ++ [(⟨r.hard.term, c⟩ : Ent)]⟩, r.yes, r.next, r.match_.set ((r.id).toNat) ((r.hard.log ++ [(⟨r.hard.term, c⟩ : Ent)]).length : Int)⟩ : Raft)) = (propR r c) from by first | (have q : propOk r c = true := (by grind [propOk]); first | exact q.symm | (simp only [propR, propRecs, propOuts, if_pos q]; done) | (simp only [propR, propRecs, propOuts, if_pos q]; first | rfl | (simp [endRecs, had, put, propE, putRec, h1, h2, h3, h4]; done) | simp [endRecs, had, put, propE, putRec])) | (have q : propOk r c = false := (by grind [propOk]); simp [propR, propRecs, propOuts, same, hok, q])) ?_
            refine KF.conv (fun w => .tup [.agg [.int .i64 r.id, .int .i64 r.of_, .int .i64 r.role, .int .i64 r.commit, .int .i64 r.hard.term, .int .i64 r.hard.vote, .ref 0, .ref 1, .ref 2, .ref 3], .ref 4, .ref 5, .bool (propOk r c)]) (fun w => [.arr 88 6 ((r.hard.log ++ [(⟨r.hard.term, c⟩ : Ent)]).map encEnt), .arr 3 1 (r.yes.map encI), .arr 3 1 (r.next.map encI), .arr 3 1 ((r.match_.set ((r.id).toNat) ((r.hard.log ++ [(⟨r.hard.term, c⟩ : Ent)]).length : Int)).map encI), .arr 93 10 (w.map encRec), .arr 76 17 ((propOuts r c).map encOut)]) (show (([]) ++ [(⟨2, 0, 0, ((r.hard.log ++ [(⟨r.hard.term, c⟩ : Ent)]).length : Int), (⟨r.hard.term, c⟩ : Ent)⟩ : Rec)]) = (propRecs r c) from by first | (have q : propOk r c = true := (by grind [propOk]); first | exact q.symm | (simp only [propR, propRecs, propOuts, if_pos q]; done) | (simp only [propR, propRecs, propOuts, if_pos q]; first | rfl | (simp [endRecs, had, put, propE, putRec, h1, h2, h3, h4]; done) | simp [endRecs, had, put, propE, putRec])) | (have q : propOk r c = false := (by grind [propOk]); simp [propR, propRecs, propOuts, same, hok, q])) ?_
            refine KF.conv (fun w => .tup [.agg [.int .i64 r.id, .int .i64 r.of_, .int .i64 r.role, .int .i64 r.commit, .int .i64 r.hard.term, .int .i64 r.hard.vote, .ref 0, .ref 1, .ref 2, .ref 3], .ref 4, .ref 5, .bool (propOk r c)]) (fun w => [.arr 88 6 ((r.hard.log ++ [(⟨r.hard.term, c⟩ : Ent)]).map encEnt), .arr 3 1 (r.yes.map encI), .arr 3 1 (r.next.map encI), .arr 3 1 ((r.match_.set ((r.id).toNat) ((r.hard.log ++ [(⟨r.hard.term, c⟩ : Ent)]).length : Int)).map encI), .arr 93 10 ((([]) ++ [(⟨2, 0, 0, ((r.hard.log ++ [(⟨r.hard.term, c⟩ : Ent)]).length : Int), (⟨r.hard.term, c⟩ : Ent)⟩ : Rec)]).map encRec), .arr 76 17 (w.map encOut)]) (show (sendAll (⟨r.id, r.of_, r.role, r.commit, ⟨r.hard.term, r.hard.vote, r.hard.log ++ [(⟨r.hard.term, c⟩ : Ent)]⟩, r.yes, r.next, r.match_.set ((r.id).toNat) ((r.hard.log ++ [(⟨r.hard.term, c⟩ : Ent)]).length : Int)⟩ : Raft)) = (propOuts r c) from by first | (have q : propOk r c = true := (by grind [propOk]); first | exact q.symm | (simp only [propR, propRecs, propOuts, if_pos q]; done) | (simp only [propR, propRecs, propOuts, if_pos q]; first | rfl | (simp [endRecs, had, put, propE, putRec, h1, h2, h3, h4]; done) | simp [endRecs, had, put, propE, putRec])) | (have q : propOk r c = false := (by grind [propOk]); simp [propR, propRecs, propOuts, same, hok, q])) ?_
            refine KF.conv (fun w => .tup [.agg [.int .i64 r.id, .int .i64 r.of_, .int .i64 r.role, .int .i64 r.commit, .int .i64 r.hard.term, .int .i64 r.hard.vote, .ref 0, .ref 1, .ref 2, .ref 3], .ref 4, .ref 5, .bool w]) (fun w => [.arr 88 6 ((r.hard.log ++ [(⟨r.hard.term, c⟩ : Ent)]).map encEnt), .arr 3 1 (r.yes.map encI), .arr 3 1 (r.next.map encI), .arr 3 1 ((r.match_.set ((r.id).toNat) ((r.hard.log ++ [(⟨r.hard.term, c⟩ : Ent)]).length : Int)).map encI), .arr 93 10 ((([]) ++ [(⟨2, 0, 0, ((r.hard.log ++ [(⟨r.hard.term, c⟩ : Ent)]).length : Int), (⟨r.hard.term, c⟩ : Ent)⟩ : Rec)]).map encRec), .arr 76 17 ((sendAll (⟨r.id, r.of_, r.role, r.commit, ⟨r.hard.term, r.hard.vote, r.hard.log ++ [(⟨r.hard.term, c⟩ : Ent)]⟩, r.yes, r.next, r.match_.set ((r.id).toNat) ((r.hard.log ++ [(⟨r.hard.term, c⟩ : Ent)]).length : Int)⟩ : Raft)).map encOut)]) (show (true) = (propOk r c) from by first | (have q : propOk r c = true := (by grind [propOk]); first | exact q.symm | (simp only [propR, propRecs, propOuts, if_pos q]; done) | (simp only [propR, propRecs, propOuts, if_pos q]; first | rfl | (simp [endRecs, had, put, propE, putRec, h1, h2, h3, h4]; done) | simp [endRecs, had, put, propE, putRec])) | (have q : propOk r c = false := (by grind [propOk]); simp [propR, propRecs, propOuts, same, hok, q])) ?_
            exact KF.mk (.inr rfl) [(1840, 0), (1221, 1), (1222, 2), (1223, 3), (1841, 4), (2220, 5)] [.agg [.int .i64 r.id, .int .i64 r.of_, .int .i64 r.role, .int .i64 r.commit, .int .i64 r.hard.term, .int .i64 r.hard.vote, .ref 1840, .ref 1221, .ref 1222, .ref 1223], .ref 1841, .ref 2220, .bool true] (by kernel_rfl) (by kernel_rfl) (by kernel_rfl) (by kernel_rfl) (by kernel_rfl)
      · refine At.say 26 (.bool (!(cmdOk c))) (.bool true) (by kernel_rfl) (sayNT (sayB (Bool.eq_false_iff.2 h2))) ?_
        replace h2 := Bool.eq_false_iff.2 h2
        refine At.auto 4 (by kernel_rfl) ?_
        refine At.done rfl ?_
        refine AW.cond true (by kernel_rfl) (fun _ => ?_) (fun h => by cases h)
        refine AW.seq ?_
        refine AW.region (At.start ?_)
        refine At.auto 2 (by kernel_rfl) ?_
        refine At.lit0 (t := 29) (d := 33) (e := 76) (es := 17) (bytes := 168) 133 (by kernel_rfl) (by kernel_rfl) (by kernel_rfl) (by kernel_rfl) ?_
        refine At.auto 4 (by kernel_rfl) ?_
        refine At.done rfl ?_
        refine AW.ret ?_
        refine ⟨_, Sub.refl _ _, ?_⟩
        refine KF.conv (fun w => .tup [.agg [.int .i64 w.id, .int .i64 w.of_, .int .i64 w.role, .int .i64 w.commit, .int .i64 w.hard.term, .int .i64 w.hard.vote, .ref 0, .ref 1, .ref 2, .ref 3], .ref 4, .ref 5, .bool (propOk r c)]) (fun w => [.arr 88 6 (w.hard.log.map encEnt), .arr 3 1 (w.yes.map encI), .arr 3 1 (w.next.map encI), .arr 3 1 (w.match_.map encI), .arr 93 10 ((propRecs r c).map encRec), .arr 76 17 ((propOuts r c).map encOut)]) (show (r) = (propR r c) from by first | (have q : propOk r c = true := (by grind [propOk]); first | exact q.symm | (simp only [propR, propRecs, propOuts, if_pos q]; done) | (simp only [propR, propRecs, propOuts, if_pos q]; first | rfl | (simp [endRecs, had, put, propE, putRec, h1, h2]; done) | simp [endRecs, had, put, propE, putRec])) | (have q : propOk r c = false := (by grind [propOk]); simp [propR, propRecs, propOuts, same, hok, q])) ?_
        refine KF.conv (fun w => .tup [.agg [.int .i64 r.id, .int .i64 r.of_, .int .i64 r.role, .int .i64 r.commit, .int .i64 r.hard.term, .int .i64 r.hard.vote, .ref 0, .ref 1, .ref 2, .ref 3], .ref 4, .ref 5, .bool (propOk r c)]) (fun w => [.arr 88 6 (r.hard.log.map encEnt), .arr 3 1 (r.yes.map encI), .arr 3 1 (r.next.map encI), .arr 3 1 (r.match_.map encI), .arr 93 10 (w.map encRec), .arr 76 17 ((propOuts r c).map encOut)]) (show ([]) = (propRecs r c) from by first | (have q : propOk r c = true := (by grind [propOk]); first | exact q.symm | (simp only [propR, propRecs, propOuts, if_pos q]; done) | (simp only [propR, propRecs, propOuts, if_pos q]; first | rfl | (simp [endRecs, had, put, propE, putRec, h1, h2]; done) | simp [endRecs, had, put, propE, putRec])) | (have q : propOk r c = false := (by grind [propOk]); simp [propR, propRecs, propOuts, same, hok, q])) ?_
        refine KF.conv (fun w => .tup [.agg [.int .i64 r.id, .int .i64 r.of_, .int .i64 r.role, .int .i64 r.commit, .int .i64 r.hard.term, .int .i64 r.hard.vote, .ref 0, .ref 1, .ref 2, .ref 3], .ref 4, .ref 5, .bool (propOk r c)]) (fun w => [.arr 88 6 (r.hard.log.map encEnt), .arr 3 1 (r.yes.map encI), .arr 3 1 (r.next.map encI), .arr 3 1 (r.match_.map encI), .arr 93 10 [], .arr 76 17 (w.map encOut)]) (show ([]) = (propOuts r c) from by first | (have q : propOk r c = true := (by grind [propOk]); first | exact q.symm | (simp only [propR, propRecs, propOuts, if_pos q]; done) | (simp only [propR, propRecs, propOuts, if_pos q]; first | rfl | (simp [endRecs, had, put, propE, putRec, h1, h2]; done) | simp [endRecs, had, put, propE, putRec])) | (have q : propOk r c = false := (by grind [propOk]); simp [propR, propRecs, propOuts, same, hok, q])) ?_
        refine KF.conv (fun w => .tup [.agg [.int .i64 r.id, .int .i64 r.of_, .int .i64 r.role, .int .i64 r.commit, .int .i64 r.hard.term, .int .i64 r.hard.vote, .ref 0, .ref 1, .ref 2, .ref 3], .ref 4, .ref 5, .bool w]) (fun w => [.arr 88 6 (r.hard.log.map encEnt), .arr 3 1 (r.yes.map encI), .arr 3 1 (r.next.map encI), .arr 3 1 (r.match_.map encI), .arr 93 10 [], .arr 76 17 []]) (show (false) = (propOk r c) from by first | (have q : propOk r c = true := (by grind [propOk]); first | exact q.symm | (simp only [propR, propRecs, propOuts, if_pos q]; done) | (simp only [propR, propRecs, propOuts, if_pos q]; first | rfl | (simp [endRecs, had, put, propE, putRec, h1, h2]; done) | simp [endRecs, had, put, propE, putRec])) | (have q : propOk r c = false := (by grind [propOk]); simp [propR, propRecs, propOuts, same, hok, q])) ?_
        exact KF.mk (.inr rfl) [(1220, 0), (1221, 1), (1222, 2), (1223, 3), (112, 4), (133, 5)] [.agg [.int .i64 r.id, .int .i64 r.of_, .int .i64 r.role, .int .i64 r.commit, .int .i64 r.hard.term, .int .i64 r.hard.vote, .ref 1220, .ref 1221, .ref 1222, .ref 1223], .ref 112, .ref 133, .bool false] (by kernel_rfl) (by kernel_rfl) (by kernel_rfl) (by kernel_rfl) (by kernel_rfl)
    · refine At.say 21 (.bool (r.role != 3)) (.bool true) (by kernel_rfl) (sayUT h1) ?_
      refine At.auto 9 (by kernel_rfl) ?_
      refine At.done rfl ?_
      refine AW.cond true (by kernel_rfl) (fun _ => ?_) (fun h => by cases h)
      refine AW.seq ?_
      refine AW.region (At.start ?_)
      refine At.auto 2 (by kernel_rfl) ?_
      refine At.lit0 (t := 29) (d := 33) (e := 76) (es := 17) (bytes := 168) 133 (by kernel_rfl) (by kernel_rfl) (by kernel_rfl) (by kernel_rfl) ?_
      refine At.auto 4 (by kernel_rfl) ?_
      refine At.done rfl ?_
      refine AW.ret ?_
      refine ⟨_, Sub.refl _ _, ?_⟩
      refine KF.conv (fun w => .tup [.agg [.int .i64 w.id, .int .i64 w.of_, .int .i64 w.role, .int .i64 w.commit, .int .i64 w.hard.term, .int .i64 w.hard.vote, .ref 0, .ref 1, .ref 2, .ref 3], .ref 4, .ref 5, .bool (propOk r c)]) (fun w => [.arr 88 6 (w.hard.log.map encEnt), .arr 3 1 (w.yes.map encI), .arr 3 1 (w.next.map encI), .arr 3 1 (w.match_.map encI), .arr 93 10 ((propRecs r c).map encRec), .arr 76 17 ((propOuts r c).map encOut)]) (show (r) = (propR r c) from by first | (have q : propOk r c = true := (by grind [propOk]); first | exact q.symm | (simp only [propR, propRecs, propOuts, if_pos q]; done) | (simp only [propR, propRecs, propOuts, if_pos q]; first | rfl | (simp [endRecs, had, put, propE, putRec, h1]; done) | simp [endRecs, had, put, propE, putRec])) | (have q : propOk r c = false := (by grind [propOk]); simp [propR, propRecs, propOuts, same, hok, q])) ?_
      refine KF.conv (fun w => .tup [.agg [.int .i64 r.id, .int .i64 r.of_, .int .i64 r.role, .int .i64 r.commit, .int .i64 r.hard.term, .int .i64 r.hard.vote, .ref 0, .ref 1, .ref 2, .ref 3], .ref 4, .ref 5, .bool (propOk r c)]) (fun w => [.arr 88 6 (r.hard.log.map encEnt), .arr 3 1 (r.yes.map encI), .arr 3 1 (r.next.map encI), .arr 3 1 (r.match_.map encI), .arr 93 10 (w.map encRec), .arr 76 17 ((propOuts r c).map encOut)]) (show ([]) = (propRecs r c) from by first | (have q : propOk r c = true := (by grind [propOk]); first | exact q.symm | (simp only [propR, propRecs, propOuts, if_pos q]; done) | (simp only [propR, propRecs, propOuts, if_pos q]; first | rfl | (simp [endRecs, had, put, propE, putRec, h1]; done) | simp [endRecs, had, put, propE, putRec])) | (have q : propOk r c = false := (by grind [propOk]); simp [propR, propRecs, propOuts, same, hok, q])) ?_
      refine KF.conv (fun w => .tup [.agg [.int .i64 r.id, .int .i64 r.of_, .int .i64 r.role, .int .i64 r.commit, .int .i64 r.hard.term, .int .i64 r.hard.vote, .ref 0, .ref 1, .ref 2, .ref 3], .ref 4, .ref 5, .bool (propOk r c)]) (fun w => [.arr 88 6 (r.hard.log.map encEnt), .arr 3 1 (r.yes.map encI), .arr 3 1 (r.next.map encI), .arr 3 1 (r.match_.map encI), .arr 93 10 [], .arr 76 17 (w.map encOut)]) (show ([]) = (propOuts r c) from by first | (have q : propOk r c = true := (by grind [propOk]); first | exact q.symm | (simp only [propR, propRecs, propOuts, if_pos q]; done) | (simp only [propR, propRecs, propOuts, if_pos q]; first | rfl | (simp [endRecs, had, put, propE, putRec, h1]; done) | simp [endRecs, had, put, propE, putRec])) | (have q : propOk r c = false := (by grind [propOk]); simp [propR, propRecs, propOuts, same, hok, q])) ?_
      refine KF.conv (fun w => .tup [.agg [.int .i64 r.id, .int .i64 r.of_, .int .i64 r.role, .int .i64 r.commit, .int .i64 r.hard.term, .int .i64 r.hard.vote, .ref 0, .ref 1, .ref 2, .ref 3], .ref 4, .ref 5, .bool w]) (fun w => [.arr 88 6 (r.hard.log.map encEnt), .arr 3 1 (r.yes.map encI), .arr 3 1 (r.next.map encI), .arr 3 1 (r.match_.map encI), .arr 93 10 [], .arr 76 17 []]) (show (false) = (propOk r c) from by first | (have q : propOk r c = true := (by grind [propOk]); first | exact q.symm | (simp only [propR, propRecs, propOuts, if_pos q]; done) | (simp only [propR, propRecs, propOuts, if_pos q]; first | rfl | (simp [endRecs, had, put, propE, putRec, h1]; done) | simp [endRecs, had, put, propE, putRec])) | (have q : propOk r c = false := (by grind [propOk]); simp [propR, propRecs, propOuts, same, hok, q])) ?_
      exact KF.mk (.inr rfl) [(1220, 0), (1221, 1), (1222, 2), (1223, 3), (112, 4), (133, 5)] [.agg [.int .i64 r.id, .int .i64 r.of_, .int .i64 r.role, .int .i64 r.commit, .int .i64 r.hard.term, .int .i64 r.hard.vote, .ref 1220, .ref 1221, .ref 1222, .ref 1223], .ref 112, .ref 133, .bool false] (by kernel_rfl) (by kernel_rfl) (by kernel_rfl) (by kernel_rfl) (by kernel_rfl)
  · skip
    refine AW.seq ?_
    refine AW.region (At.start ?_)
    refine At.auto 6 (by kernel_rfl) ?_
    refine At.done rfl ?_
    refine AW.seq ?_
    refine AW.weak (Sub.nils [⟨true, 104, some 6, 5001, 88, 6⟩, ⟨true, 104, some 7, 5002, 3, 1⟩, ⟨true, 104, some 8, 5003, 3, 1⟩, ⟨true, 104, some 9, 5004, 3, 1⟩] (by kernel_rfl)) ?_
    refine AW.region (At.start ?_)
    refine At.auto 1 (by kernel_rfl) ?_
    refine At.call (spec_l10Same_F_spec  r (by first | exact hz | (unfold SmallR; simp only [List.length_append, List.length_set, List.length_cons, List.length_nil]; omega)) hok) Try.call51 true [] [(1220, 0), (1221, 1), (1222, 2), (1223, 3)] [] (by kernel_rfl) (by kernel_rfl) (by kernel_rfl) (by kernel_rfl) (by kernel_rfl) trivial ?_
    refine At.lit0 (t := 45) (d := 12) (e := 93) (es := 10) (bytes := 88) 112 (by kernel_rfl) (by kernel_rfl) (by kernel_rfl) (by kernel_rfl) ?_
    refine At.auto 3 (by kernel_rfl) ?_
    refine At.done rfl ?_
    refine AW.seq ?_
    refine AW.seq ?_
    refine AW.region (At.start ?_)
    refine At.auto 1 (by kernel_rfl) ?_
    refine At.call (spec_RaftOk_spec  r (by first | exact hz | (unfold SmallR; simp only [List.length_append, List.length_set, List.length_cons, List.length_nil]; omega))) Try.call34 true [] [] [] (by kernel_rfl) (by kernel_rfl) (by kernel_rfl) (by kernel_rfl) (by kernel_rfl) trivial ?_
    refine At.auto 2 (by kernel_rfl) ?_
    refine At.say 16 (.bool (!(raftOk r))) (.bool true) (by kernel_rfl) (sayB (by rw [show (raftOk r) = false from (Bool.eq_false_iff.2 hok)]; rfl)) ?_
    refine At.auto 14 (by kernel_rfl) ?_
    refine At.done rfl ?_
    refine AW.cond true (by kernel_rfl) (fun _ => ?_) (fun h => by cases h)
    refine AW.seq ?_
    refine AW.region (At.start ?_)
    refine At.auto 2 (by kernel_rfl) ?_
    refine At.lit0 (t := 29) (d := 33) (e := 76) (es := 17) (bytes := 168) 133 (by kernel_rfl) (by kernel_rfl) (by kernel_rfl) (by kernel_rfl) ?_
    refine At.auto 4 (by kernel_rfl) ?_
    refine At.done rfl ?_
    refine AW.ret ?_
    refine ⟨_, Sub.refl _ _, ?_⟩
    refine KF.conv (fun w => .tup [.agg [.int .i64 w.id, .int .i64 w.of_, .int .i64 w.role, .int .i64 w.commit, .int .i64 w.hard.term, .int .i64 w.hard.vote, .ref 0, .ref 1, .ref 2, .ref 3], .ref 4, .ref 5, .bool (propOk r c)]) (fun w => [.arr 88 6 (w.hard.log.map encEnt), .arr 3 1 (w.yes.map encI), .arr 3 1 (w.next.map encI), .arr 3 1 (w.match_.map encI), .arr 93 10 ((propRecs r c).map encRec), .arr 76 17 ((propOuts r c).map encOut)]) (show ((⟨0, 0, 0, 0, ⟨0, 0, []⟩, [], [], []⟩ : Raft)) = (propR r c) from by simp [propR, propRecs, propOuts, propOk, same, hok]; try rfl) ?_
    refine KF.conv (fun w => .tup [.agg [.int .i64 0, .int .i64 0, .int .i64 0, .int .i64 0, .int .i64 0, .int .i64 0, .ref 0, .ref 1, .ref 2, .ref 3], .ref 4, .ref 5, .bool (propOk r c)]) (fun w => [.arr 88 6 [], .arr 3 1 [], .arr 3 1 [], .arr 3 1 [], .arr 93 10 (w.map encRec), .arr 76 17 ((propOuts r c).map encOut)]) (show ([]) = (propRecs r c) from by simp [propR, propRecs, propOuts, propOk, same, hok]; try rfl) ?_
    refine KF.conv (fun w => .tup [.agg [.int .i64 0, .int .i64 0, .int .i64 0, .int .i64 0, .int .i64 0, .int .i64 0, .ref 0, .ref 1, .ref 2, .ref 3], .ref 4, .ref 5, .bool (propOk r c)]) (fun w => [.arr 88 6 [], .arr 3 1 [], .arr 3 1 [], .arr 3 1 [], .arr 93 10 [], .arr 76 17 (w.map encOut)]) (show ([]) = (propOuts r c) from by simp [propR, propRecs, propOuts, propOk, same, hok]; try rfl) ?_
    refine KF.conv (fun w => .tup [.agg [.int .i64 0, .int .i64 0, .int .i64 0, .int .i64 0, .int .i64 0, .int .i64 0, .ref 0, .ref 1, .ref 2, .ref 3], .ref 4, .ref 5, .bool w]) (fun w => [.arr 88 6 [], .arr 3 1 [], .arr 3 1 [], .arr 3 1 [], .arr 93 10 [], .arr 76 17 []]) (show (false) = (propOk r c) from by simp [propR, propRecs, propOuts, propOk, same, hok]; try rfl) ?_
    exact KF.mk (.inr rfl) [(1220, 0), (1221, 1), (1222, 2), (1223, 3), (112, 4), (133, 5)] [.agg [.int .i64 0, .int .i64 0, .int .i64 0, .int .i64 0, .int .i64 0, .int .i64 0, .ref 1220, .ref 1221, .ref 1222, .ref 1223], .ref 112, .ref 133, .bool false] (by kernel_rfl) (by kernel_rfl) (by kernel_rfl) (by kernel_rfl) (by kernel_rfl)
set_option maxRecDepth 100000 in
set_option maxHeartbeats 4000000 in
theorem impl_copyLog_spec  (l : List Ent) (hl : l.length ≤ 1048576) : FnSpec Try.prog 111 [.sl false 6 (l.map encEnt)] [] (.ref 0) [.arr 88 6 (l.map encEnt)] := by
  refine FnSpec.of 6 Try.func111 rfl Try.ntmps111 (by simp) (AW.weakK ?_)
  refine AW.seq ?_
  refine AW.region (At.start ?_)
  refine At.auto 1 (by kernel_rfl) ?_
  refine At.done rfl ?_
  refine AW.seq ?_
  refine AW.region (At.start ?_)
  refine At.lit0 (t := 31) (d := 3) (e := 88) (es := 6) (bytes := 56) 103 (by kernel_rfl) (by kernel_rfl) (by kernel_rfl) (by kernel_rfl) ?_
  refine At.auto 1 (by kernel_rfl) ?_
  refine At.append (t := 31) (d := 5) (e := 88) (es := 6) (bytes := 56) (s := .tmp 3) (x := .tmp 4) (S := .ref 103) (T := .sl false 6 (l.map encEnt)) (xs := []) (ys := (l.map encEnt)) 105 [103] [] (l.map encEnt) (by kernel_rfl) (by kernel_rfl) (by kernel_rfl) (by kernel_rfl) ⟨by kernel_rfl, rfl⟩ ⟨rfl, rfl, (allP_encEnt _), rfl⟩ (by kernel_rfl) (by kernel_rfl) (by simp) (by first | omega | (simp only [List.length_map, List.length_append, List.length_take, List.length_drop, List.length_replicate, List.length_set, List.length_cons, List.length_nil]; omega)) (by first | omega | (simp only [List.length_map, List.length_append, List.length_take, List.length_drop, List.length_replicate, List.length_set, List.length_cons, List.length_nil]; omega)) ?_
  refine At.auto 1 (by kernel_rfl) ?_
  refine At.done rfl ?_
  refine AW.ret ?_
  refine ⟨_, Sub.refl _ _, ?_⟩
  exact KF.mk (.inr rfl) [(105, 0)] [.ref 105] (by kernel_rfl) (by kernel_rfl) (by kernel_rfl) (by kernel_rfl) (by kernel_rfl)
set_option maxRecDepth 100000 in
set_option maxHeartbeats 4000000 in
theorem impl_copyHard_spec  (h : Hard) (hl : h.log.length ≤ 1048576) : FnSpec Try.prog 106 [.agg [.int .i64 h.term, .int .i64 h.vote, .sl false 6 (h.log.map encEnt)]] [] (.agg [.int .i64 h.term, .int .i64 h.vote, .ref 0]) [.arr 88 6 (h.log.map encEnt)] := by
  refine FnSpec.of 8 Try.func106 rfl Try.ntmps106 (by simp) (AW.weakK ?_)
  refine AW.seq ?_
  refine AW.region (At.start ?_)
  refine At.auto 2 (by kernel_rfl) ?_
  refine At.done rfl ?_
  refine AW.seq ?_
  refine AW.weak (Sub.nils [⟨true, 102, some 2, 5001, 88, 6⟩] (by kernel_rfl)) ?_
  refine AW.region (At.start ?_)
  refine At.auto 2 (by kernel_rfl) ?_
  refine At.call (impl_copyLog_spec  h.log (by first | omega | (dsimp only; omega) | (simp only [List.length_map, List.length_append, List.length_take, List.length_drop, List.length_replicate, List.length_set, List.length_cons, List.length_nil]; omega))) Try.call111 true [] [(1100, 0)] [] (by kernel_rfl) (by kernel_rfl) (by kernel_rfl) (by kernel_rfl) (by kernel_rfl) trivial ?_
  refine At.auto 2 (by kernel_rfl) ?_
  refine At.done rfl ?_
  refine AW.seq ?_
  refine AW.region (At.start ?_)
  refine At.auto 2 (by kernel_rfl) ?_
  refine At.done rfl ?_
  refine AW.ret ?_
  refine ⟨_, Sub.refl _ _, ?_⟩
  exact KF.mk (.inr rfl) [(1100, 0)] [.agg [.int .i64 h.term, .int .i64 h.vote, .ref 1100]] (by kernel_rfl) (by kernel_rfl) (by kernel_rfl) (by kernel_rfl) (by kernel_rfl)
set_option maxRecDepth 100000 in
set_option maxHeartbeats 4000000 in
theorem impl_copyInts_spec  (l : List Int) (hl : l.length ≤ 1048576) : FnSpec Try.prog 107 [.sl false 1 (l.map encI)] [] (.ref 0) [.arr 3 1 (l.map encI)] := by
  refine FnSpec.of 6 Try.func107 rfl Try.ntmps107 (by simp) (AW.weakK ?_)
  refine AW.seq ?_
  refine AW.region (At.start ?_)
  refine At.auto 1 (by kernel_rfl) ?_
  refine At.done rfl ?_
  refine AW.seq ?_
  refine AW.region (At.start ?_)
  refine At.lit0 (t := 25) (d := 3) (e := 3) (es := 1) (bytes := 8) 103 (by kernel_rfl) (by kernel_rfl) (by kernel_rfl) (by kernel_rfl) ?_
  refine At.auto 1 (by kernel_rfl) ?_
  refine At.append (t := 25) (d := 5) (e := 3) (es := 1) (bytes := 8) (s := .tmp 3) (x := .tmp 4) (S := .ref 103) (T := .sl false 1 (l.map encI)) (xs := []) (ys := (l.map encI)) 105 [103] [] (l.map encI) (by kernel_rfl) (by kernel_rfl) (by kernel_rfl) (by kernel_rfl) ⟨by kernel_rfl, rfl⟩ ⟨rfl, rfl, (allP_encI _), rfl⟩ (by kernel_rfl) (by kernel_rfl) (by simp) (by first | omega | (simp only [List.length_map, List.length_append, List.length_take, List.length_drop, List.length_replicate, List.length_set, List.length_cons, List.length_nil]; omega)) (by first | omega | (simp only [List.length_map, List.length_append, List.length_take, List.length_drop, List.length_replicate, List.length_set, List.length_cons, List.length_nil]; omega)) ?_
  refine At.auto 1 (by kernel_rfl) ?_
  refine At.done rfl ?_
  refine AW.ret ?_
  refine ⟨_, Sub.refl _ _, ?_⟩
  exact KF.mk (.inr rfl) [(105, 0)] [.ref 105] (by kernel_rfl) (by kernel_rfl) (by kernel_rfl) (by kernel_rfl) (by kernel_rfl)
set_option maxRecDepth 100000 in
set_option maxHeartbeats 4000000 in
theorem impl_copyRaft_spec  (r : Raft) (hz : SmallR r) : FnSpec Try.prog 83 [.agg [.int .i64 r.id, .int .i64 r.of_, .int .i64 r.role, .int .i64 r.commit, .int .i64 r.hard.term, .int .i64 r.hard.vote, .sl false 6 (r.hard.log.map encEnt), .sl false 1 (r.yes.map encI), .sl false 1 (r.next.map encI), .sl false 1 (r.match_.map encI)]] [] (.agg [.int .i64 r.id, .int .i64 r.of_, .int .i64 r.role, .int .i64 r.commit, .int .i64 r.hard.term, .int .i64 r.hard.vote, .ref 0, .ref 1, .ref 2, .ref 3]) [.arr 88 6 (r.hard.log.map encEnt), .arr 3 1 (r.yes.map encI), .arr 3 1 (r.next.map encI), .arr 3 1 (r.match_.map encI)] := by
  obtain ⟨z1, z2, z3, z4⟩ := id hz
  refine FnSpec.of 20 Try.func83 rfl Try.ntmps83 (by simp) (AW.weakK ?_)
  refine AW.seq ?_
  refine AW.region (At.start ?_)
  refine At.auto 2 (by kernel_rfl) ?_
  refine At.done rfl ?_
  refine AW.seq ?_
  refine AW.weak (Sub.nils [⟨true, 102, some 6, 5001, 88, 6⟩, ⟨true, 102, some 7, 5002, 3, 1⟩, ⟨true, 102, some 8, 5003, 3, 1⟩, ⟨true, 102, some 9, 5004, 3, 1⟩] (by kernel_rfl)) ?_
  refine AW.region (At.start ?_)
  refine At.auto 2 (by kernel_rfl) ?_
  refine At.call (impl_copyHard_spec  r.hard (by first | omega | (dsimp only; omega) | (simp only [List.length_map, List.length_append, List.length_take, List.length_drop, List.length_replicate, List.length_set, List.length_cons, List.length_nil]; omega))) Try.call106 true [] [(1100, 0)] [] (by kernel_rfl) (by kernel_rfl) (by kernel_rfl) (by kernel_rfl) (by kernel_rfl) trivial ?_
  refine At.auto 2 (by kernel_rfl) ?_
  refine At.done rfl ?_
  refine AW.seq ?_
  refine AW.regionD Try_mix (At.start ?_)
  refine At.auto 2 (by kernel_rfl) ?_
  refine At.call (impl_copyInts_spec  r.yes (by first | omega | (dsimp only; omega) | (simp only [List.length_map, List.length_append, List.length_take, List.length_drop, List.length_replicate, List.length_set, List.length_cons, List.length_nil]; omega))) Try.call107 true [] [(1180, 0)] [] (by kernel_rfl) (by kernel_rfl) (by kernel_rfl) (by kernel_rfl) (by kernel_rfl) trivial ?_
  refine At.auto 2 (by kernel_rfl) ?_
  refine At.call (impl_copyInts_spec  r.next (by first | omega | (dsimp only; omega) | (simp only [List.length_map, List.length_append, List.length_take, List.length_drop, List.length_replicate, List.length_set, List.length_cons, List.length_nil]; omega))) Try.call107 true [] [(1240, 0)] [] (by kernel_rfl) (by kernel_rfl) (by kernel_rfl) (by kernel_rfl) (by kernel_rfl) trivial ?_
  refine At.auto 2 (by kernel_rfl) ?_
  refine At.call (impl_copyInts_spec  r.match_ (by first | omega | (dsimp only; omega) | (simp only [List.length_map, List.length_append, List.length_take, List.length_drop, List.length_replicate, List.length_set, List.length_cons, List.length_nil]; omega))) Try.call107 true [] [(1300, 0)] [] (by kernel_rfl) (by kernel_rfl) (by kernel_rfl) (by kernel_rfl) (by kernel_rfl) trivial ?_
  refine At.auto 6 (by kernel_rfl) ?_
  refine At.done rfl ⟨by kernel_rfl, ?_⟩
  refine AW.seq ?_
  refine AW.region (At.start ?_)
  refine At.auto 2 (by kernel_rfl) ?_
  refine At.done rfl ?_
  refine AW.ret ?_
  refine ⟨_, Sub.refl _ _, ?_⟩
  exact KF.mk (.inr rfl) [(1100, 0), (1180, 1), (1240, 2), (1300, 3)] [.agg [.int .i64 r.id, .int .i64 r.of_, .int .i64 r.role, .int .i64 r.commit, .int .i64 r.hard.term, .int .i64 r.hard.vote, .ref 1100, .ref 1180, .ref 1240, .ref 1300]] (by kernel_rfl) (by kernel_rfl) (by kernel_rfl) (by kernel_rfl) (by kernel_rfl)
set_option maxRecDepth 100000 in
set_option maxHeartbeats 4000000 in
theorem impl_stepOf_spec  (r : Raft) (hz : SmallR r) : FnSpec Try.prog 39 [.agg [.int .i64 r.id, .int .i64 r.of_, .int .i64 r.role, .int .i64 r.commit, .int .i64 r.hard.term, .int .i64 r.hard.vote, .sl false 6 (r.hard.log.map encEnt), .sl false 1 (r.yes.map encI), .sl false 1 (r.next.map encI), .sl false 1 (r.match_.map encI)]] [] (.ptr 0 0 0) [.box 73 [.int .i64 r.id, .int .i64 r.of_, .int .i64 r.role, .int .i64 r.commit, .int .i64 r.hard.term, .int .i64 r.hard.vote, .ref 1, .ref 2, .ref 3, .ref 4, .int .i64 r.id, .int .i64 r.of_, .int .i64 r.role, .int .i64 r.commit, .int .i64 r.hard.term, .int .i64 r.hard.vote, .sl false 6 (r.hard.log.map encEnt), .sl false 1 (r.yes.map encI), .sl false 1 (r.next.map encI), .sl false 1 (r.match_.map encI), .ref 5, .ref 6], .arr 88 6 (r.hard.log.map encEnt), .arr 3 1 (r.yes.map encI), .arr 3 1 (r.next.map encI), .arr 3 1 (r.match_.map encI), .arr 93 10 [], .arr 76 17 []] := by
  obtain ⟨z1, z2, z3, z4⟩ := id hz
  refine FnSpec.of 8 Try.func39 rfl Try.ntmps39 (by simp) (AW.weakK ?_)
  refine AW.seq ?_
  refine AW.region (At.start ?_)
  refine At.auto 2 (by kernel_rfl) ?_
  refine At.done rfl ?_
  refine AW.seq ?_
  refine AW.regionD Try_mix (At.start ?_)
  refine At.auto 1 (by kernel_rfl) ?_
  refine At.call (impl_copyRaft_spec  r (by first | omega | (dsimp only; omega) | (simp only [List.length_map, List.length_append, List.length_take, List.length_drop, List.length_replicate, List.length_set, List.length_cons, List.length_nil]; omega))) Try.call83 true [] [(1080, 0), (1081, 1), (1082, 2), (1083, 3)] [] (by kernel_rfl) (by kernel_rfl) (by kernel_rfl) (by kernel_rfl) (by kernel_rfl) trivial ?_
  refine At.auto 4 (by kernel_rfl) ?_
  refine At.done rfl ⟨by kernel_rfl, ?_⟩
  refine AW.ret ?_
  refine ⟨_, Sub.nils [⟨true, 107, some 20, 5001, 93, 10⟩, ⟨true, 107, some 21, 5002, 76, 17⟩] (by kernel_rfl), ?_⟩
  exact KF.mk (.inr rfl) [(107, 0), (1080, 1), (1081, 2), (1082, 3), (1083, 4), (5001, 5), (5002, 6)] [.ptr 107 0 0] (by kernel_rfl) (by kernel_rfl) (by kernel_rfl) (by kernel_rfl) (by kernel_rfl)
set_option maxRecDepth 100000 in
set_option maxHeartbeats 4000000 in
theorem impl_isOf_spec  (of : Int) : FnSpec Try.prog 84 [.int .i64 of] [] (.bool (ofOk of)) [] := by
  refine FnSpec.of 13 Try.func84 rfl Try.ntmps84 (by simp) (AW.weakK ?_)
  refine AW.seq ?_
  refine AW.region (At.start ?_)
  refine At.auto 1 (by kernel_rfl) ?_
  refine At.done rfl ?_
  refine AW.seq ?_
  refine AW.region (At.start ?_)
  refine At.auto 3 (by kernel_rfl) ?_
  by_cases h1 : of = 1
  · refine At.say 5 (.bool (of == 1)) (.bool true) (by kernel_rfl) (sayET h1) ?_
    refine At.auto 8 (by kernel_rfl) ?_
    refine At.done rfl ?_
    refine AW.ret ?_
    refine ⟨_, Sub.refl _ _, ?_⟩
    refine KF.conv (fun w => .bool w) (fun w => []) (show (true) = (ofOk of) from by simp_all [ofOk]) ?_
    exact KF.mk (.inr rfl) [] [.bool true] (by kernel_rfl) (by kernel_rfl) (by kernel_rfl) (by kernel_rfl) (by kernel_rfl)
  · refine At.say 5 (.bool (of == 1)) (.bool false) (by kernel_rfl) (sayEF h1) ?_
    refine At.auto 4 (by kernel_rfl) ?_
    by_cases h2 : of = 3
    · refine At.say 9 (.bool (of == 3)) (.bool true) (by kernel_rfl) (sayET h2) ?_
      refine At.auto 4 (by kernel_rfl) ?_
      refine At.done rfl ?_
      refine AW.ret ?_
      refine ⟨_, Sub.refl _ _, ?_⟩
      refine KF.conv (fun w => .bool w) (fun w => []) (show (true) = (ofOk of) from by simp_all [ofOk]) ?_
      exact KF.mk (.inr rfl) [] [.bool true] (by kernel_rfl) (by kernel_rfl) (by kernel_rfl) (by kernel_rfl) (by kernel_rfl)
    · refine At.say 9 (.bool (of == 3)) (.bool false) (by kernel_rfl) (sayEF h2) ?_
      refine At.auto 4 (by kernel_rfl) ?_
      refine At.done rfl ?_
      refine AW.ret ?_
      refine ⟨_, Sub.refl _ _, ?_⟩
      refine KF.conv (fun w => .bool w) (fun w => []) (show (of == 5) = (ofOk of) from by simp_all [ofOk]) ?_
      exact KF.mk (.inr rfl) [] [.bool (of == 5)] (by kernel_rfl) (by kernel_rfl) (by kernel_rfl) (by kernel_rfl) (by kernel_rfl)
set_option maxRecDepth 100000 in
set_option maxHeartbeats 4000000 in
theorem impl_within_spec  (n : Int) (low : Int) (high : Int) : FnSpec Try.prog 85 [.int .i64 n, .int .i64 low, .int .i64 high] [] (.bool (inR n low high)) [] := by
  refine FnSpec.of 15 Try.func85 rfl Try.ntmps85 (by simp) (AW.weakK ?_)
  refine AW.seq ?_
  refine AW.region (At.start ?_)
  refine At.auto 1 (by kernel_rfl) ?_
  refine At.done rfl ?_
  refine AW.seq ?_
  refine AW.region (At.start ?_)
  refine At.auto 4 (by kernel_rfl) ?_
  by_cases h1 : n ≥ low
  · refine At.say 10 (.bool (decide (n ≥ low))) (.bool true) (by kernel_rfl) (sayT h1) ?_
    refine At.auto 5 (by kernel_rfl) ?_
    refine At.done rfl ?_
    refine AW.ret ?_
    refine ⟨_, Sub.refl _ _, ?_⟩
    refine KF.conv (fun w => .bool w) (fun w => []) (show (decide (n ≤ high)) = (inR n low high) from by simp [inR, *]) ?_
    exact KF.mk (.inr rfl) [] [.bool (decide (n ≤ high))] (by kernel_rfl) (by kernel_rfl) (by kernel_rfl) (by kernel_rfl) (by kernel_rfl)
  · refine At.say 10 (.bool (decide (n ≥ low))) (.bool false) (by kernel_rfl) (sayF h1) ?_
    refine At.auto 5 (by kernel_rfl) ?_
    refine At.done rfl ?_
    refine AW.ret ?_
    refine ⟨_, Sub.refl _ _, ?_⟩
    refine KF.conv (fun w => .bool w) (fun w => []) (show (false) = (inR n low high) from by simp [inR, *]) ?_
    exact KF.mk (.inr rfl) [] [.bool false] (by kernel_rfl) (by kernel_rfl) (by kernel_rfl) (by kernel_rfl) (by kernel_rfl)
set_option maxRecDepth 100000 in
set_option maxHeartbeats 4000000 in
theorem impl_isRelease_spec  (n : Int) : FnSpec Try.prog 92 [.int .i64 n] [] (.bool (inR n 1 1000)) [] := by
  refine FnSpec.of 5 Try.func92 rfl Try.ntmps92 (by simp) (AW.weakK ?_)
  refine AW.seq ?_
  refine AW.region (At.start ?_)
  refine At.auto 1 (by kernel_rfl) ?_
  refine At.done rfl ?_
  refine AW.seq ?_
  refine AW.region (At.start ?_)
  refine At.auto 1 (by kernel_rfl) ?_
  refine At.call (impl_within_spec  n 1 1000 ) Try.call85 true [] [] [] (by kernel_rfl) (by kernel_rfl) (by kernel_rfl) (by kernel_rfl) (by kernel_rfl) trivial ?_
  refine At.auto 1 (by kernel_rfl) ?_
  refine At.done rfl ?_
  refine AW.ret ?_
  refine ⟨_, Sub.refl _ _, ?_⟩
  exact KF.mk (.inr rfl) [] [.bool (inR n 1 1000)] (by kernel_rfl) (by kernel_rfl) (by kernel_rfl) (by kernel_rfl) (by kernel_rfl)
set_option maxRecDepth 100000 in
set_option maxHeartbeats 4000000 in
theorem impl_isSize_spec  (n : Int) : FnSpec Try.prog 93 [.int .i64 n] [] (.bool (inR n 0 1000)) [] := by
  refine FnSpec.of 5 Try.func93 rfl Try.ntmps93 (by simp) (AW.weakK ?_)
  refine AW.seq ?_
  refine AW.region (At.start ?_)
  refine At.auto 1 (by kernel_rfl) ?_
  refine At.done rfl ?_
  refine AW.seq ?_
  refine AW.region (At.start ?_)
  refine At.auto 1 (by kernel_rfl) ?_
  refine At.call (impl_within_spec  n 0 1000 ) Try.call85 true [] [] [] (by kernel_rfl) (by kernel_rfl) (by kernel_rfl) (by kernel_rfl) (by kernel_rfl) trivial ?_
  refine At.auto 1 (by kernel_rfl) ?_
  refine At.done rfl ?_
  refine AW.ret ?_
  refine ⟨_, Sub.refl _ _, ?_⟩
  exact KF.mk (.inr rfl) [] [.bool (inR n 0 1000)] (by kernel_rfl) (by kernel_rfl) (by kernel_rfl) (by kernel_rfl) (by kernel_rfl)
set_option maxRecDepth 100000 in
set_option maxHeartbeats 4000000 in
theorem impl_isNode_spec  (n : Int) : FnSpec Try.prog 94 [.int .i64 n] [] (.bool (inR n 0 4)) [] := by
  refine FnSpec.of 5 Try.func94 rfl Try.ntmps94 (by simp) (AW.weakK ?_)
  refine AW.seq ?_
  refine AW.region (At.start ?_)
  refine At.auto 1 (by kernel_rfl) ?_
  refine At.done rfl ?_
  refine AW.seq ?_
  refine AW.region (At.start ?_)
  refine At.auto 1 (by kernel_rfl) ?_
  refine At.call (impl_within_spec  n 0 4 ) Try.call85 true [] [] [] (by kernel_rfl) (by kernel_rfl) (by kernel_rfl) (by kernel_rfl) (by kernel_rfl) trivial ?_
  refine At.auto 1 (by kernel_rfl) ?_
  refine At.done rfl ?_
  refine AW.ret ?_
  refine ⟨_, Sub.refl _ _, ?_⟩
  exact KF.mk (.inr rfl) [] [.bool (inR n 0 4)] (by kernel_rfl) (by kernel_rfl) (by kernel_rfl) (by kernel_rfl) (by kernel_rfl)
set_option maxRecDepth 100000 in
set_option maxHeartbeats 4000000 in
theorem impl_CmdOk_spec  (c : Cmd) : FnSpec Try.prog 55 [.agg [.int .i64 c.kind, .int .i64 c.release, .int .i64 c.node, .int .i64 c.size, .str c.digest]] [] (.bool (cmdOk c)) [] := by
  refine FnSpec.of 52 Try.func55 rfl Try.ntmps55 (by simp) (AW.weakK ?_)
  refine AW.seq ?_
  refine AW.region (At.start ?_)
  refine At.auto 2 (by kernel_rfl) ?_
  refine At.done rfl ?_
  refine AW.seq ?_
  refine AW.region (At.start ?_)
  refine At.auto 3 (by kernel_rfl) ?_
  refine At.done rfl ?_
  refine AW.seq ?_
  refine AW.region (At.start ?_)
  refine At.auto 4 (by kernel_rfl) ?_
  refine At.done rfl ?_
  refine AW.seq ?_
  refine AW.region (At.start ?_)
  refine At.auto 2 (by kernel_rfl) ?_
  refine At.call (impl_isRelease_spec  c.release ) Try.call92 true [] [] [] (by kernel_rfl) (by kernel_rfl) (by kernel_rfl) (by kernel_rfl) (by kernel_rfl) trivial ?_
  refine At.auto 1 (by kernel_rfl) ?_
  refine At.done rfl ?_
  refine AW.seq ?_
  refine AW.seq ?_
  refine AW.region (At.start ?_)
  refine At.auto 2 (by kernel_rfl) ?_
  refine At.done rfl ?_
  refine AW.block ?_
  refine AW.seq ?_
  refine AW.region (At.start ?_)
  refine At.auto 2 (by kernel_rfl) ?_
  refine At.done rfl ?_
  refine AW.cond (c.kind == 1) (by kernel_rfl) (fun hb => ?_) (fun hb => ?_)
  · have h1 : c.kind = 1 := by simpa using hb
    clear hb
    refine AW.region (At.start ?_)
    refine At.auto 4 (by kernel_rfl) ?_
    refine At.done rfl ?_
    refine AW.seq ?_
    refine AW.region (At.start ?_)
    refine At.auto 2 (by kernel_rfl) ?_
    by_cases h2 : c.release = 0
    · refine At.say 47 (.bool (c.release == 0)) (.bool true) (by kernel_rfl) (sayET h2) ?_
      refine At.auto 2 (by kernel_rfl) ?_
      refine At.eqA (t := 48) (u := 48) (d := 50) (op := .eql) (x := .tmp 48) (y := .tmp 49) (X := [.int .i64 0, .int .i64 0, .int .i64 c.node, .int .i64 c.size, .str c.digest]) (Y := [.int .i64 0, .int .i64 0, .int .i64 0, .int .i64 0, .str (⟨#[]⟩)]) (cmdEq (⟨0, 0, c.node, c.size, c.digest⟩ : Cmd) (⟨0, 0, 0, 0, ⟨#[]⟩⟩ : Cmd)) (by kernel_rfl) (by kernel_rfl) (by kernel_rfl) (by kernel_rfl) (by kernel_rfl) (.bool (cmdEq (⟨0, 0, c.node, c.size, c.digest⟩ : Cmd) (⟨0, 0, 0, 0, ⟨#[]⟩⟩ : Cmd))) (.inl ⟨rfl, rfl⟩) ?_
      refine At.auto 2 (by kernel_rfl) ?_
      refine At.done rfl ?_
      refine AW.ret ?_
      refine ⟨_, Sub.refl _ _, ?_⟩
      refine KF.conv (fun w => .bool w) (fun w => []) (show (cmdEq (⟨0, 0, c.node, c.size, c.digest⟩ : Cmd) (⟨0, 0, 0, 0, ⟨#[]⟩⟩ : Cmd)) = (cmdOk c) from by (try simp only [inR_iff, inR_not] at *); rw [Bool.eq_iff_iff]; simp only [cmdOk, cmdEq, noBytes]; (repeat' split) <;> (try simp [inR_iff]) <;> grind) ?_
      exact KF.mk (.inr rfl) [] [.bool (cmdEq (⟨0, 0, c.node, c.size, c.digest⟩ : Cmd) (⟨0, 0, 0, 0, ⟨#[]⟩⟩ : Cmd))] (by kernel_rfl) (by kernel_rfl) (by kernel_rfl) (by kernel_rfl) (by kernel_rfl)
    · refine At.say 47 (.bool (c.release == 0)) (.bool false) (by kernel_rfl) (sayEF h2) ?_
      refine At.auto 5 (by kernel_rfl) ?_
      refine At.done rfl ?_
      refine AW.ret ?_
      refine ⟨_, Sub.refl _ _, ?_⟩
      refine KF.conv (fun w => .bool w) (fun w => []) (show (false) = (cmdOk c) from by (try simp only [inR_iff, inR_not] at *); rw [Bool.eq_iff_iff]; simp only [cmdOk, cmdEq, noBytes]; (repeat' split) <;> (try simp [inR_iff]) <;> grind) ?_
      exact KF.mk (.inr rfl) [] [.bool false] (by kernel_rfl) (by kernel_rfl) (by kernel_rfl) (by kernel_rfl) (by kernel_rfl)
  · have h1 : ¬ (c.kind = 1) := by simpa using hb
    clear hb
    refine AW.seq ?_
    refine AW.region (At.start ?_)
    refine At.auto 2 (by kernel_rfl) ?_
    refine At.done rfl ?_
    refine AW.cond (c.kind == 2) (by kernel_rfl) (fun hb => ?_) (fun hb => ?_)
    · have h3 : c.kind = 2 := by simpa using hb
      clear hb
      refine AW.seq ?_
      refine AW.region (At.start ?_)
      refine At.auto 2 (by kernel_rfl) ?_
      by_cases h4 : (inR c.release 1 1000) = true
      · refine At.say 21 (.bool (inR c.release 1 1000)) (.bool true) (by kernel_rfl) (sayB h4) ?_
        refine At.auto 2 (by kernel_rfl) ?_
        refine At.call (impl_isSize_spec  c.size ) Try.call93 true [] [] [] (by kernel_rfl) (by kernel_rfl) (by kernel_rfl) (by kernel_rfl) (by kernel_rfl) trivial ?_
        refine At.auto 2 (by kernel_rfl) ?_
        by_cases h5 : (inR c.size 0 1000) = true
        · refine At.say 26 (.bool (inR c.size 0 1000)) (.bool true) (by kernel_rfl) (sayB h5) ?_
          refine At.auto 6 (by kernel_rfl) ?_
          refine At.done rfl ?_
          refine AW.region (At.start ?_)
          refine At.auto 4 (by kernel_rfl) ?_
          refine At.done rfl ?_
          refine AW.seq ?_
          refine AW.region (At.start ?_)
          refine At.auto 2 (by kernel_rfl) ?_
          by_cases h6 : (c.digest.size : Int) = 32
          · refine At.say 47 (.bool ((c.digest.size : Int) == 32)) (.bool true) (by kernel_rfl) (sayET h6) ?_
            refine At.auto 2 (by kernel_rfl) ?_
            refine At.eqA (t := 48) (u := 48) (d := 50) (op := .eql) (x := .tmp 48) (y := .tmp 49) (X := [.int .i64 0, .int .i64 0, .int .i64 c.node, .int .i64 0, .str (⟨#[]⟩)]) (Y := [.int .i64 0, .int .i64 0, .int .i64 0, .int .i64 0, .str (⟨#[]⟩)]) (cmdEq (⟨0, 0, c.node, 0, ⟨#[]⟩⟩ : Cmd) (⟨0, 0, 0, 0, ⟨#[]⟩⟩ : Cmd)) (by kernel_rfl) (by kernel_rfl) (by kernel_rfl) (by kernel_rfl) (by kernel_rfl) (.bool (cmdEq (⟨0, 0, c.node, 0, ⟨#[]⟩⟩ : Cmd) (⟨0, 0, 0, 0, ⟨#[]⟩⟩ : Cmd))) (.inl ⟨rfl, rfl⟩) ?_
            refine At.auto 2 (by kernel_rfl) ?_
            refine At.done rfl ?_
            refine AW.ret ?_
            refine ⟨_, Sub.refl _ _, ?_⟩
            refine KF.conv (fun w => .bool w) (fun w => []) (show (cmdEq (⟨0, 0, c.node, 0, ⟨#[]⟩⟩ : Cmd) (⟨0, 0, 0, 0, ⟨#[]⟩⟩ : Cmd)) = (cmdOk c) from by (try simp only [inR_iff, inR_not] at *); rw [Bool.eq_iff_iff]; simp only [cmdOk, cmdEq, noBytes]; (repeat' split) <;> (try simp [inR_iff]) <;> grind) ?_
            exact KF.mk (.inr rfl) [] [.bool (cmdEq (⟨0, 0, c.node, 0, ⟨#[]⟩⟩ : Cmd) (⟨0, 0, 0, 0, ⟨#[]⟩⟩ : Cmd))] (by kernel_rfl) (by kernel_rfl) (by kernel_rfl) (by kernel_rfl) (by kernel_rfl)
          · refine At.say 47 (.bool ((c.digest.size : Int) == 32)) (.bool false) (by kernel_rfl) (sayEF h6) ?_
            refine At.auto 5 (by kernel_rfl) ?_
            refine At.done rfl ?_
            refine AW.ret ?_
            refine ⟨_, Sub.refl _ _, ?_⟩
            refine KF.conv (fun w => .bool w) (fun w => []) (show (false) = (cmdOk c) from by (try simp only [inR_iff, inR_not] at *); rw [Bool.eq_iff_iff]; simp only [cmdOk, cmdEq, noBytes]; (repeat' split) <;> (try simp [inR_iff]) <;> grind) ?_
            exact KF.mk (.inr rfl) [] [.bool false] (by kernel_rfl) (by kernel_rfl) (by kernel_rfl) (by kernel_rfl) (by kernel_rfl)
        · refine At.say 26 (.bool (inR c.size 0 1000)) (.bool false) (by kernel_rfl) (sayB (Bool.eq_false_iff.2 h5)) ?_
          replace h5 := Bool.eq_false_iff.2 h5
          refine At.auto 6 (by kernel_rfl) ?_
          refine At.done rfl ?_
          refine AW.region (At.start ?_)
          refine At.auto 4 (by kernel_rfl) ?_
          refine At.done rfl ?_
          refine AW.seq ?_
          refine AW.region (At.start ?_)
          refine At.auto 7 (by kernel_rfl) ?_
          refine At.done rfl ?_
          refine AW.ret ?_
          refine ⟨_, Sub.refl _ _, ?_⟩
          refine KF.conv (fun w => .bool w) (fun w => []) (show (false) = (cmdOk c) from by (try simp only [inR_iff, inR_not] at *); rw [Bool.eq_iff_iff]; simp only [cmdOk, cmdEq, noBytes]; (repeat' split) <;> (try simp [inR_iff]) <;> grind) ?_
          exact KF.mk (.inr rfl) [] [.bool false] (by kernel_rfl) (by kernel_rfl) (by kernel_rfl) (by kernel_rfl) (by kernel_rfl)
      · refine At.say 21 (.bool (inR c.release 1 1000)) (.bool false) (by kernel_rfl) (sayB (Bool.eq_false_iff.2 h4)) ?_
        replace h4 := Bool.eq_false_iff.2 h4
        refine At.auto 11 (by kernel_rfl) ?_
        refine At.done rfl ?_
        refine AW.region (At.start ?_)
        refine At.auto 4 (by kernel_rfl) ?_
        refine At.done rfl ?_
        refine AW.seq ?_
        refine AW.region (At.start ?_)
        refine At.auto 7 (by kernel_rfl) ?_
        refine At.done rfl ?_
        refine AW.ret ?_
        refine ⟨_, Sub.refl _ _, ?_⟩
        refine KF.conv (fun w => .bool w) (fun w => []) (show (false) = (cmdOk c) from by (try simp only [inR_iff, inR_not] at *); rw [Bool.eq_iff_iff]; simp only [cmdOk, cmdEq, noBytes]; (repeat' split) <;> (try simp [inR_iff]) <;> grind) ?_
        exact KF.mk (.inr rfl) [] [.bool false] (by kernel_rfl) (by kernel_rfl) (by kernel_rfl) (by kernel_rfl) (by kernel_rfl)
    · have h3 : ¬ (c.kind = 2) := by simpa using hb
      clear hb
      refine AW.seq ?_
      refine AW.region (At.start ?_)
      refine At.auto 2 (by kernel_rfl) ?_
      refine At.done rfl ?_
      refine AW.cond (c.kind == 3) (by kernel_rfl) (fun hb => ?_) (fun hb => ?_)
      · have h7 : c.kind = 3 := by simpa using hb
        clear hb
        refine AW.seq ?_
        refine AW.region (At.start ?_)
        refine At.auto 2 (by kernel_rfl) ?_
        by_cases h8 : (inR c.release 1 1000) = true
        · refine At.say 37 (.bool (inR c.release 1 1000)) (.bool true) (by kernel_rfl) (sayB h8) ?_
          refine At.auto 2 (by kernel_rfl) ?_
          refine At.call (impl_isNode_spec  c.node ) Try.call94 true [] [] [] (by kernel_rfl) (by kernel_rfl) (by kernel_rfl) (by kernel_rfl) (by kernel_rfl) trivial ?_
          refine At.auto 2 (by kernel_rfl) ?_
          refine At.done rfl ?_
          refine AW.region (At.start ?_)
          refine At.auto 2 (by kernel_rfl) ?_
          refine At.done rfl ?_
          refine AW.seq ?_
          refine AW.region (At.start ?_)
          refine At.auto 2 (by kernel_rfl) ?_
          by_cases h9 : (inR c.node 0 4) = true
          · refine At.say 47 (.bool (inR c.node 0 4)) (.bool true) (by kernel_rfl) (sayB h9) ?_
            refine At.auto 2 (by kernel_rfl) ?_
            refine At.eqA (t := 48) (u := 48) (d := 50) (op := .eql) (x := .tmp 48) (y := .tmp 49) (X := [.int .i64 0, .int .i64 0, .int .i64 0, .int .i64 c.size, .str c.digest]) (Y := [.int .i64 0, .int .i64 0, .int .i64 0, .int .i64 0, .str (⟨#[]⟩)]) (cmdEq (⟨0, 0, 0, c.size, c.digest⟩ : Cmd) (⟨0, 0, 0, 0, ⟨#[]⟩⟩ : Cmd)) (by kernel_rfl) (by kernel_rfl) (by kernel_rfl) (by kernel_rfl) (by kernel_rfl) (.bool (cmdEq (⟨0, 0, 0, c.size, c.digest⟩ : Cmd) (⟨0, 0, 0, 0, ⟨#[]⟩⟩ : Cmd))) (.inl ⟨rfl, rfl⟩) ?_
            refine At.auto 2 (by kernel_rfl) ?_
            refine At.done rfl ?_
            refine AW.ret ?_
            refine ⟨_, Sub.refl _ _, ?_⟩
            refine KF.conv (fun w => .bool w) (fun w => []) (show (cmdEq (⟨0, 0, 0, c.size, c.digest⟩ : Cmd) (⟨0, 0, 0, 0, ⟨#[]⟩⟩ : Cmd)) = (cmdOk c) from by (try simp only [inR_iff, inR_not] at *); rw [Bool.eq_iff_iff]; simp only [cmdOk, cmdEq, noBytes]; (repeat' split) <;> (try simp [inR_iff]) <;> grind) ?_
            exact KF.mk (.inr rfl) [] [.bool (cmdEq (⟨0, 0, 0, c.size, c.digest⟩ : Cmd) (⟨0, 0, 0, 0, ⟨#[]⟩⟩ : Cmd))] (by kernel_rfl) (by kernel_rfl) (by kernel_rfl) (by kernel_rfl) (by kernel_rfl)
          · refine At.say 47 (.bool (inR c.node 0 4)) (.bool false) (by kernel_rfl) (sayB (Bool.eq_false_iff.2 h9)) ?_
            replace h9 := Bool.eq_false_iff.2 h9
            refine At.auto 5 (by kernel_rfl) ?_
            refine At.done rfl ?_
            refine AW.ret ?_
            refine ⟨_, Sub.refl _ _, ?_⟩
            refine KF.conv (fun w => .bool w) (fun w => []) (show (false) = (cmdOk c) from by (try simp only [inR_iff, inR_not] at *); rw [Bool.eq_iff_iff]; simp only [cmdOk, cmdEq, noBytes]; (repeat' split) <;> (try simp [inR_iff]) <;> grind) ?_
            exact KF.mk (.inr rfl) [] [.bool false] (by kernel_rfl) (by kernel_rfl) (by kernel_rfl) (by kernel_rfl) (by kernel_rfl)
        · refine At.say 37 (.bool (inR c.release 1 1000)) (.bool false) (by kernel_rfl) (sayB (Bool.eq_false_iff.2 h8)) ?_
          replace h8 := Bool.eq_false_iff.2 h8
          refine At.auto 5 (by kernel_rfl) ?_
          refine At.done rfl ?_
          refine AW.region (At.start ?_)
          refine At.auto 2 (by kernel_rfl) ?_
          refine At.done rfl ?_
          refine AW.seq ?_
          refine AW.region (At.start ?_)
          refine At.auto 7 (by kernel_rfl) ?_
          refine At.done rfl ?_
          refine AW.ret ?_
          refine ⟨_, Sub.refl _ _, ?_⟩
          refine KF.conv (fun w => .bool w) (fun w => []) (show (false) = (cmdOk c) from by (try simp only [inR_iff, inR_not] at *); rw [Bool.eq_iff_iff]; simp only [cmdOk, cmdEq, noBytes]; (repeat' split) <;> (try simp [inR_iff]) <;> grind) ?_
          exact KF.mk (.inr rfl) [] [.bool false] (by kernel_rfl) (by kernel_rfl) (by kernel_rfl) (by kernel_rfl) (by kernel_rfl)
      · have h7 : ¬ (c.kind = 3) := by simpa using hb
        clear hb
        refine AW.seq ?_
        refine AW.seq ?_
        refine AW.region (At.start ?_)
        refine At.auto 2 (by kernel_rfl) ?_
        refine At.done rfl ?_
        refine AW.cond (c.kind == 4) (by kernel_rfl) (fun hb => ?_) (fun hb => ?_)
        · have h10 : c.kind = 4 := by simpa using hb
          clear hb
          refine AW.skip ?_
          refine AW.cond (c.kind == 4) (by kernel_rfl) (fun hb => ?_) (fun hb => ?_)
          · have h11 : c.kind = 4 := by simpa using hb
            clear hb
            refine AW.skip ?_
            refine AW.seq ?_
            refine AW.region (At.start ?_)
            refine At.auto 2 (by kernel_rfl) ?_
            by_cases h12 : (inR c.release 1 1000) = true
            · refine At.say 47 (.bool (inR c.release 1 1000)) (.bool true) (by kernel_rfl) (sayB h12) ?_
              refine At.auto 2 (by kernel_rfl) ?_
              refine At.eqA (t := 48) (u := 48) (d := 50) (op := .eql) (x := .tmp 48) (y := .tmp 49) (X := [.int .i64 0, .int .i64 0, .int .i64 c.node, .int .i64 c.size, .str c.digest]) (Y := [.int .i64 0, .int .i64 0, .int .i64 0, .int .i64 0, .str (⟨#[]⟩)]) (cmdEq (⟨0, 0, c.node, c.size, c.digest⟩ : Cmd) (⟨0, 0, 0, 0, ⟨#[]⟩⟩ : Cmd)) (by kernel_rfl) (by kernel_rfl) (by kernel_rfl) (by kernel_rfl) (by kernel_rfl) (.bool (cmdEq (⟨0, 0, c.node, c.size, c.digest⟩ : Cmd) (⟨0, 0, 0, 0, ⟨#[]⟩⟩ : Cmd))) (.inl ⟨rfl, rfl⟩) ?_
              refine At.auto 2 (by kernel_rfl) ?_
              refine At.done rfl ?_
              refine AW.ret ?_
              refine ⟨_, Sub.refl _ _, ?_⟩
              refine KF.conv (fun w => .bool w) (fun w => []) (show (cmdEq (⟨0, 0, c.node, c.size, c.digest⟩ : Cmd) (⟨0, 0, 0, 0, ⟨#[]⟩⟩ : Cmd)) = (cmdOk c) from by (try simp only [inR_iff, inR_not] at *); rw [Bool.eq_iff_iff]; simp only [cmdOk, cmdEq, noBytes]; (repeat' split) <;> (try simp [inR_iff]) <;> grind) ?_
              exact KF.mk (.inr rfl) [] [.bool (cmdEq (⟨0, 0, c.node, c.size, c.digest⟩ : Cmd) (⟨0, 0, 0, 0, ⟨#[]⟩⟩ : Cmd))] (by kernel_rfl) (by kernel_rfl) (by kernel_rfl) (by kernel_rfl) (by kernel_rfl)
            · refine At.say 47 (.bool (inR c.release 1 1000)) (.bool false) (by kernel_rfl) (sayB (Bool.eq_false_iff.2 h12)) ?_
              replace h12 := Bool.eq_false_iff.2 h12
              refine At.auto 5 (by kernel_rfl) ?_
              refine At.done rfl ?_
              refine AW.ret ?_
              refine ⟨_, Sub.refl _ _, ?_⟩
              refine KF.conv (fun w => .bool w) (fun w => []) (show (false) = (cmdOk c) from by (try simp only [inR_iff, inR_not] at *); rw [Bool.eq_iff_iff]; simp only [cmdOk, cmdEq, noBytes]; (repeat' split) <;> (try simp [inR_iff]) <;> grind) ?_
              exact KF.mk (.inr rfl) [] [.bool false] (by kernel_rfl) (by kernel_rfl) (by kernel_rfl) (by kernel_rfl) (by kernel_rfl)
          · have h11 : ¬ (c.kind = 4) := by simpa using hb
            clear hb
            refine AW.seq ?_
            refine AW.region (At.start ?_)
            refine At.auto 1 (by kernel_rfl) ?_
            refine At.done rfl ?_
            refine AW.ret ?_
            refine ⟨_, Sub.refl _ _, ?_⟩
            refine KF.conv (fun w => .bool w) (fun w => []) (show (false) = (cmdOk c) from by (try simp only [inR_iff, inR_not] at *); rw [Bool.eq_iff_iff]; simp only [cmdOk, cmdEq, noBytes]; (repeat' split) <;> (try simp [inR_iff]) <;> grind) ?_
            exact KF.mk (.inr rfl) [] [.bool false] (by kernel_rfl) (by kernel_rfl) (by kernel_rfl) (by kernel_rfl) (by kernel_rfl)
        · have h10 : ¬ (c.kind = 4) := by simpa using hb
          clear hb
          refine AW.region (At.start ?_)
          refine At.auto 2 (by kernel_rfl) ?_
          refine At.done rfl ?_
          refine AW.cond (c.kind == 5) (by kernel_rfl) (fun hb => ?_) (fun hb => ?_)
          · have h13 : c.kind = 5 := by simpa using hb
            clear hb
            refine AW.skip ?_
            refine AW.seq ?_
            refine AW.region (At.start ?_)
            refine At.auto 2 (by kernel_rfl) ?_
            by_cases h14 : (inR c.release 1 1000) = true
            · refine At.say 47 (.bool (inR c.release 1 1000)) (.bool true) (by kernel_rfl) (sayB h14) ?_
              refine At.auto 2 (by kernel_rfl) ?_
              refine At.eqA (t := 48) (u := 48) (d := 50) (op := .eql) (x := .tmp 48) (y := .tmp 49) (X := [.int .i64 0, .int .i64 0, .int .i64 c.node, .int .i64 c.size, .str c.digest]) (Y := [.int .i64 0, .int .i64 0, .int .i64 0, .int .i64 0, .str (⟨#[]⟩)]) (cmdEq (⟨0, 0, c.node, c.size, c.digest⟩ : Cmd) (⟨0, 0, 0, 0, ⟨#[]⟩⟩ : Cmd)) (by kernel_rfl) (by kernel_rfl) (by kernel_rfl) (by kernel_rfl) (by kernel_rfl) (.bool (cmdEq (⟨0, 0, c.node, c.size, c.digest⟩ : Cmd) (⟨0, 0, 0, 0, ⟨#[]⟩⟩ : Cmd))) (.inl ⟨rfl, rfl⟩) ?_
              refine At.auto 2 (by kernel_rfl) ?_
              refine At.done rfl ?_
              refine AW.ret ?_
              refine ⟨_, Sub.refl _ _, ?_⟩
              refine KF.conv (fun w => .bool w) (fun w => []) (show (cmdEq (⟨0, 0, c.node, c.size, c.digest⟩ : Cmd) (⟨0, 0, 0, 0, ⟨#[]⟩⟩ : Cmd)) = (cmdOk c) from by (try simp only [inR_iff, inR_not] at *); rw [Bool.eq_iff_iff]; simp only [cmdOk, cmdEq, noBytes]; (repeat' split) <;> (try simp [inR_iff]) <;> grind) ?_
              exact KF.mk (.inr rfl) [] [.bool (cmdEq (⟨0, 0, c.node, c.size, c.digest⟩ : Cmd) (⟨0, 0, 0, 0, ⟨#[]⟩⟩ : Cmd))] (by kernel_rfl) (by kernel_rfl) (by kernel_rfl) (by kernel_rfl) (by kernel_rfl)
            · refine At.say 47 (.bool (inR c.release 1 1000)) (.bool false) (by kernel_rfl) (sayB (Bool.eq_false_iff.2 h14)) ?_
              replace h14 := Bool.eq_false_iff.2 h14
              refine At.auto 5 (by kernel_rfl) ?_
              refine At.done rfl ?_
              refine AW.ret ?_
              refine ⟨_, Sub.refl _ _, ?_⟩
              refine KF.conv (fun w => .bool w) (fun w => []) (show (false) = (cmdOk c) from by (try simp only [inR_iff, inR_not] at *); rw [Bool.eq_iff_iff]; simp only [cmdOk, cmdEq, noBytes]; (repeat' split) <;> (try simp [inR_iff]) <;> grind) ?_
              exact KF.mk (.inr rfl) [] [.bool false] (by kernel_rfl) (by kernel_rfl) (by kernel_rfl) (by kernel_rfl) (by kernel_rfl)
          · have h13 : ¬ (c.kind = 5) := by simpa using hb
            clear hb
            refine AW.seq ?_
            refine AW.region (At.start ?_)
            refine At.auto 1 (by kernel_rfl) ?_
            refine At.done rfl ?_
            refine AW.ret ?_
            refine ⟨_, Sub.refl _ _, ?_⟩
            refine KF.conv (fun w => .bool w) (fun w => []) (show (false) = (cmdOk c) from by (try simp only [inR_iff, inR_not] at *); rw [Bool.eq_iff_iff]; simp only [cmdOk, cmdEq, noBytes]; (repeat' split) <;> (try simp [inR_iff]) <;> grind) ?_
            exact KF.mk (.inr rfl) [] [.bool false] (by kernel_rfl) (by kernel_rfl) (by kernel_rfl) (by kernel_rfl) (by kernel_rfl)
set_option maxRecDepth 100000 in
set_option maxHeartbeats 4000000 in
theorem impl_lastTerm_spec  (l : List Ent) (hl : l.length ≤ 1048576) : FnSpec Try.prog 73 [.sl false 6 (l.map encEnt)] [] (.int .i64 (lastT l)) [] := by
  refine FnSpec.of 13 Try.func73 rfl Try.ntmps73 (by simp) (AW.weakK ?_)
  refine AW.seq ?_
  refine AW.region (At.start ?_)
  refine At.auto 1 (by kernel_rfl) ?_
  refine At.done rfl ?_
  refine AW.seq ?_
  refine AW.seq ?_
  refine AW.region (At.start ?_)
  refine At.auto 2 (by kernel_rfl) ?_
  refine At.say 4 (.int .i64 (((l.map encEnt).length : Nat) : Int)) (.int .i64 (l.length : Int)) (by kernel_rfl) (sayLen _ _) ?_
  refine At.auto 1 (by kernel_rfl) ?_
  refine At.done rfl ?_
  refine AW.cond ((l.length : Int) == 0) (by kernel_rfl) (fun hb => ?_) (fun hb => ?_)
  · have h1 : (l.length : Int) = 0 := by simpa using hb
    clear hb
    refine AW.seq ?_
    refine AW.region (At.start ?_)
    refine At.auto 1 (by kernel_rfl) ?_
    refine At.done rfl ?_
    refine AW.ret ?_
    refine ⟨_, Sub.refl _ _, ?_⟩
    refine KF.conv (fun w => .int .i64 w) (fun w => []) (show (0) = (lastT l) from by first | (obtain rfl := List.length_eq_zero_iff.1 (show l.length = 0 by omega); rfl) | (rw [show ((l.length : Int) - 1).toNat = l.length - 1 from by omega] at he1; simp [lastT, he1])) ?_
    exact KF.mk (.inr rfl) [] [.int .i64 0] (by kernel_rfl) (by kernel_rfl) (by kernel_rfl) (by kernel_rfl) (by kernel_rfl)
  · have h1 : ¬ ((l.length : Int) = 0) := by simpa using hb
    clear hb
    refine AW.skip ?_
    refine AW.seq ?_
    refine AW.region (At.start ?_)
    refine At.auto 3 (by kernel_rfl) ?_
    refine At.say 8 (.int .i64 (((l.map encEnt).length : Nat) : Int)) (.int .i64 (l.length : Int)) (by kernel_rfl) (sayLen _ _) ?_
    refine At.auto 1 (by kernel_rfl) ?_
    refine At.say 9 (.int .i64 (IntKind.i64.wrap ((l.length : Int) - 1))) (.int .i64 ((l.length : Int) - 1)) (by kernel_rfl) (sayI _ (by omega)) ?_
    refine At.idxSl (t := 31) (d := 10) (x := .tmp 6) (y := .tmp 9) (p := false) (es := 6) (xs := (l.map encEnt)) (kd := .i64) (i := (l.length : Int) - 1) (e := 88) (by kernel_rfl) (by kernel_rfl) (by kernel_rfl) (by kernel_rfl) (by omega) (by first | omega | (simp only [List.length_map, List.length_append, List.length_take, List.length_drop, List.length_replicate, List.length_set, List.length_cons, List.length_nil]; omega)) ?_
    refine At.auto 1 (by kernel_rfl) ?_
    refine Exists.elim (show ∃ e, l[((l.length : Int) - 1).toNat]? = some e from ⟨_, List.getElem?_eq_getElem (by first | omega | (simp only [List.length_map, List.length_append, List.length_take, List.length_drop, List.length_replicate, List.length_set, List.length_cons, List.length_nil]; omega))⟩) fun e1 he1 => ?_
    refine At.ldVp (t := 3) (d := 12) (x := .tmp 11) (p := false) (es := 6) (xs := (l.map encEnt)) (j := ((l.length : Int) - 1).toNat) (off := 0) (b := false) (m := 1) (encEnt e1) (.int .i64 e1.term) (by kernel_rfl) (by kernel_rfl) (by kernel_rfl) (by kernel_rfl) (mapGet he1) (by kernel_rfl) ?_
    refine At.auto 1 (by kernel_rfl) ?_
    refine At.done rfl ?_
    refine AW.ret ?_
    refine ⟨_, Sub.refl _ _, ?_⟩
    refine KF.conv (fun w => .int .i64 w) (fun w => []) (show (e1.term) = (lastT l) from by first | (obtain rfl := List.length_eq_zero_iff.1 (show l.length = 0 by omega); rfl) | (rw [show ((l.length : Int) - 1).toNat = l.length - 1 from by omega] at he1; simp [lastT, he1])) ?_
    exact KF.mk (.inr rfl) [] [.int .i64 e1.term] (by kernel_rfl) (by kernel_rfl) (by kernel_rfl) (by kernel_rfl) (by kernel_rfl)
set_option maxRecDepth 100000 in
set_option maxHeartbeats 4000000 in
theorem impl_isWhole_spec  (n : Int) : FnSpec Try.prog 108 [.int .i64 n] [] (.bool (inR n 0 1000000000)) [] := by
  refine FnSpec.of 5 Try.func108 rfl Try.ntmps108 (by simp) (AW.weakK ?_)
  refine AW.seq ?_
  refine AW.region (At.start ?_)
  refine At.auto 1 (by kernel_rfl) ?_
  refine At.done rfl ?_
  refine AW.seq ?_
  refine AW.region (At.start ?_)
  refine At.auto 1 (by kernel_rfl) ?_
  refine At.call (impl_within_spec  n 0 1000000000 ) Try.call85 true [] [] [] (by kernel_rfl) (by kernel_rfl) (by kernel_rfl) (by kernel_rfl) (by kernel_rfl) trivial ?_
  refine At.auto 1 (by kernel_rfl) ?_
  refine At.done rfl ?_
  refine AW.ret ?_
  refine ⟨_, Sub.refl _ _, ?_⟩
  exact KF.mk (.inr rfl) [] [.bool (inR n 0 1000000000)] (by kernel_rfl) (by kernel_rfl) (by kernel_rfl) (by kernel_rfl) (by kernel_rfl)
set_option maxRecDepth 100000 in
set_option maxHeartbeats 4000000 in
theorem impl_HardOk_spec  (h : Hard) (hl : h.log.length ≤ 1048576) : FnSpec Try.prog 86 [.agg [.int .i64 h.term, .int .i64 h.vote, .sl false 6 (h.log.map encEnt)]] [] (.bool (hardOk h)) [] := by
  refine FnSpec.of 46 Try.func86 rfl Try.ntmps86 (by simp) (AW.weakK ?_)
  refine AW.seq ?_
  refine AW.region (At.start ?_)
  refine At.auto 2 (by kernel_rfl) ?_
  refine At.done rfl ?_
  refine AW.seq ?_
  refine AW.seq ?_
  refine AW.region (At.start ?_)
  refine At.auto 3 (by kernel_rfl) ?_
  refine At.say 7 (.int .i64 (((h.log.map encEnt).length : Nat) : Int)) (.int .i64 (h.log.length : Int)) (by kernel_rfl) (sayLen _ _) ?_
  refine At.auto 1 (by kernel_rfl) ?_
  refine At.done rfl ?_
  refine AW.block ?_
  refine AW.loopW (fun (k : Nat) => Go.Sy.mk [.un, .ptr 101 0 0, .un, .un, .un, .un, .sl false 6 (h.log.map encEnt), .int .i64 (h.log.length : Int), .int .i64 (k : Int)] [(101, .box 33 [.int .i64 h.term, .int .i64 h.vote, .sl false 6 (h.log.map encEnt)])]) (fun (k : Nat) => k ≤ h.log.length ∧ logOk h.term 0 h.log = logOk h.term (lastT (h.log.take k)) (h.log.drop k)) (fun (k : Nat) => h.log.length - k) 0 ⟨by omega, by simp [lastT]⟩ (Sub.of [(101, 101)] [false, true, false, false, false, false, true, true, true] _ _ (by kernel_rfl) (by kernel_rfl) (by kernel_rfl)) ?_
  rintro k ⟨hk, hR⟩
  refine AW.seq ?_
  refine AW.region (At.start ?_)
  refine At.auto 1 (by kernel_rfl) ?_
  refine At.done rfl ?_
  refine AW.seq ?_
  refine AW.cond (decide ((k : Int) < (h.log.length : Int))) (by kernel_rfl) (fun hb => ?_) (fun hb => ?_)
  · have h1 : (k : Int) < (h.log.length : Int) := by simpa using hb
    clear hb
    refine AW.skip ?_
    refine AW.seq ?_
    refine AW.block ?_
    refine AW.seq ?_
    refine AW.region (At.start ?_)
    refine At.auto 1 (by kernel_rfl) ?_
    refine At.idxSl (t := 31) (d := 11) (x := .tmp 6) (y := .tmp 8) (p := false) (es := 6) (xs := (h.log.map encEnt)) (kd := .i64) (i := (k : Int)) (e := 88) (by kernel_rfl) (by kernel_rfl) (by kernel_rfl) (by kernel_rfl) (by omega) (by first | omega | (simp only [List.length_map, List.length_append, List.length_take, List.length_drop, List.length_replicate, List.length_set, List.length_cons, List.length_nil]; omega)) ?_
    refine Exists.elim (show ∃ e, h.log[k]? = some e from ⟨_, List.getElem?_eq_getElem (by first | omega | (simp only [List.length_map, List.length_append, List.length_take, List.length_drop, List.length_replicate, List.length_set, List.length_cons, List.length_nil]; omega))⟩) fun e1 he1 => ?_
    refine At.ldVp (t := 88) (d := 12) (x := .tmp 11) (p := false) (es := 6) (xs := (h.log.map encEnt)) (j := k) (off := 0) (b := true) (m := 6) (encEnt e1) (.agg [.int .i64 e1.term, .int .i64 e1.cmd.kind, .int .i64 e1.cmd.release, .int .i64 e1.cmd.node, .int .i64 e1.cmd.size, .str e1.cmd.digest]) (by kernel_rfl) (by kernel_rfl) (by kernel_rfl) (by kernel_rfl) (mapGet he1) (by kernel_rfl) ?_
    refine At.auto 3 (by kernel_rfl) ?_
    refine At.done rfl ?_
    refine AW.seq ?_
    refine AW.regionD Try_mix (At.start ?_)
    refine At.auto 2 (by kernel_rfl) ?_
    refine At.call (impl_CmdOk_spec  e1.cmd ) Try.call55 true [] [] [] (by kernel_rfl) (by kernel_rfl) (by kernel_rfl) (by kernel_rfl) (by kernel_rfl) trivial ?_
    refine At.auto 2 (by kernel_rfl) ?_
    by_cases h2 : (cmdOk e1.cmd) = true
    · refine At.say 17 (.bool (!(cmdOk e1.cmd))) (.bool false) (by kernel_rfl) (sayNF (sayB h2)) ?_
      refine At.auto 5 (by kernel_rfl) ?_
      refine At.sliceSl (t := 31) (d := 23) (e := 88) (es := 6) (x := .tmp 21) (lx := none) (hx := some (.tmp 22)) (p := false) (xs := (h.log.map encEnt)) (vl := .un) (vh := .int .i64 (k : Int)) 0 k ((h.log.take k).map encEnt) (by kernel_rfl) (by kernel_rfl) (by kernel_rfl) (by kernel_rfl) (.inl ⟨rfl, rfl⟩) (.inr ⟨_, _, rfl, rfl⟩) (by first | omega | (simp only [List.length_map, List.length_append, List.length_take, List.length_drop, List.length_replicate, List.length_set, List.length_cons, List.length_nil]; omega)) (by first | omega | (simp only [List.length_map, List.length_append, List.length_take, List.length_drop, List.length_replicate, List.length_set, List.length_cons, List.length_nil]; omega)) (by simp [List.map_take, List.map_drop]) ?_
      refine At.call (impl_lastTerm_spec  (h.log.take k) (by first | omega | (dsimp only; omega) | (simp only [List.length_map, List.length_append, List.length_take, List.length_drop, List.length_replicate, List.length_set, List.length_cons, List.length_nil]; omega))) Try.call73 true [] [] [] (by kernel_rfl) (by kernel_rfl) (by kernel_rfl) (by kernel_rfl) (by kernel_rfl) trivial ?_
      refine At.mm (d := 25) (b := .max) (x := .const (.int .i64 1)) (y := .tmp 24) (ats := #[3, 3]) (q := .i64) (m := 1) (n := lastT (h.log.take k)) (if (lastT (h.log.take k)) > 1 then lastT (h.log.take k) else 1) (by kernel_rfl) (by kernel_rfl) (by kernel_rfl) (by kernel_rfl) (.inr ⟨rfl, rfl⟩) ?_
      refine At.say 25 (.int .i64 (if (lastT (h.log.take k)) > 1 then lastT (h.log.take k) else 1)) (.int .i64 (max 1 (lastT (h.log.take k)))) (by kernel_rfl) (congrArg (V.int .i64) (by omega)) ?_
      refine At.auto 2 (by kernel_rfl) ?_
      refine At.call (impl_within_spec  e1.term (max 1 (lastT (h.log.take k))) h.term ) Try.call85 true [] [] [] (by kernel_rfl) (by kernel_rfl) (by kernel_rfl) (by kernel_rfl) (by kernel_rfl) trivial ?_
      refine At.auto 2 (by kernel_rfl) ?_
      refine At.done rfl ⟨by kernel_rfl, ?_⟩
      refine AW.cond (!(inR e1.term (max 1 (lastT (h.log.take k))) h.term)) (by kernel_rfl) (fun hb => ?_) (fun hb => ?_)
      · have h3 : (inR e1.term (max 1 (lastT (h.log.take k))) h.term) = false := by simpa using hb
        clear hb
        refine AW.seq ?_
        refine AW.region (At.start ?_)
        refine At.auto 1 (by kernel_rfl) ?_
        refine At.done rfl ?_
        refine AW.ret ?_
        refine ⟨_, Sub.refl _ _, ?_⟩
        refine KF.conv (fun w => .bool w) (fun w => []) (show (false) = (hardOk h) from by first | (refine hardBad (hR.trans ?_); rw [dropCons he1]; first | exact logOk_bad0 (by assumption) | exact logOk_bad2 (by have := inR_not.1 (by assumption); omega)) | (have q : logOk h.term 0 h.log = true := (by rw [hR, List.drop_of_length_le (by omega)]; rfl); grind [hardOk])) ?_
        exact KF.mk (.inr rfl) [] [.bool false] (by kernel_rfl) (by kernel_rfl) (by kernel_rfl) (by kernel_rfl) (by kernel_rfl)
      · have h3 : (inR e1.term (max 1 (lastT (h.log.take k))) h.term) = true := by simpa using hb
        clear hb
        have h3i := inR_iff.1 h3
        refine AW.skip ?_
        refine AW.region (At.start ?_)
        refine At.auto 1 (by kernel_rfl) ?_
        refine At.say 31 (.int .i64 (IntKind.i64.wrap ((k : Int) + 1))) (.int .i64 ((k : Int) + 1)) (by kernel_rfl) (sayI _ (by omega)) ?_
        refine At.auto 1 (by kernel_rfl) ?_
        refine At.done rfl ?_
        exact ⟨k + 1, ⟨by omega, by rw [hR, dropCons he1, lastT_next he1]; exact logOk_step (by omega) (by omega) (by simp only [*]) (by omega)⟩, (by omega), Sub.of [(101, 101)] [false, true, false, false, false, false, true, true, true] _ _ (by kernel_rfl) (by kernel_rfl) (by kernel_rfl)⟩
    · refine At.say 17 (.bool (!(cmdOk e1.cmd))) (.bool true) (by kernel_rfl) (sayNT (sayB (Bool.eq_false_iff.2 h2))) ?_
      replace h2 := Bool.eq_false_iff.2 h2
      refine At.auto 13 (by kernel_rfl) ?_
      refine At.done rfl ⟨by kernel_rfl, ?_⟩
      refine AW.cond true (by kernel_rfl) (fun _ => ?_) (fun h => by cases h)
      refine AW.seq ?_
      refine AW.region (At.start ?_)
      refine At.auto 1 (by kernel_rfl) ?_
      refine At.done rfl ?_
      refine AW.ret ?_
      refine ⟨_, Sub.refl _ _, ?_⟩
      refine KF.conv (fun w => .bool w) (fun w => []) (show (false) = (hardOk h) from by first | (refine hardBad (hR.trans ?_); rw [dropCons he1]; first | exact logOk_bad0 (by assumption) | exact logOk_bad2 (by have := inR_not.1 (by assumption); omega)) | (have q : logOk h.term 0 h.log = true := (by rw [hR, List.drop_of_length_le (by omega)]; rfl); grind [hardOk])) ?_
      exact KF.mk (.inr rfl) [] [.bool false] (by kernel_rfl) (by kernel_rfl) (by kernel_rfl) (by kernel_rfl) (by kernel_rfl)
  · have h1 : ¬ ((k : Int) < (h.log.length : Int)) := by simpa using hb
    clear hb
    refine AW.exit ?_
    refine AW.seq ?_
    refine AW.region (At.start ?_)
    refine At.auto 2 (by kernel_rfl) ?_
    refine At.call (impl_isWhole_spec  h.term ) Try.call108 true [] [] [] (by kernel_rfl) (by kernel_rfl) (by kernel_rfl) (by kernel_rfl) (by kernel_rfl) trivial ?_
    refine At.auto 1 (by kernel_rfl) ?_
    by_cases h4 : (inR h.term 0 1000000000) = true
    · refine At.say 35 (.bool (inR h.term 0 1000000000)) (.bool true) (by kernel_rfl) (sayB h4) ?_
      have h4i := inR_iff.1 h4
      refine At.auto 2 (by kernel_rfl) ?_
      refine At.call (impl_within_spec  h.vote 0 5 ) Try.call85 true [] [] [] (by kernel_rfl) (by kernel_rfl) (by kernel_rfl) (by kernel_rfl) (by kernel_rfl) trivial ?_
      refine At.auto 2 (by kernel_rfl) ?_
      by_cases h5 : (inR h.vote 0 5) = true
      · refine At.say 40 (.bool (inR h.vote 0 5)) (.bool true) (by kernel_rfl) (sayB h5) ?_
        have h5i := inR_iff.1 h5
        refine At.auto 3 (by kernel_rfl) ?_
        refine At.say 43 (.int .i64 (((h.log.map encEnt).length : Nat) : Int)) (.int .i64 (h.log.length : Int)) (by kernel_rfl) (sayLen _ _) ?_
        refine At.auto 3 (by kernel_rfl) ?_
        refine At.done rfl ?_
        refine AW.ret ?_
        refine ⟨_, Sub.refl _ _, ?_⟩
        refine KF.conv (fun w => .bool w) (fun w => []) (show (decide ((h.log.length : Int) ≤ 80)) = (hardOk h) from by first | (refine hardBad (hR.trans ?_); rw [dropCons he1]; first | exact logOk_bad0 (by assumption) | exact logOk_bad2 (by have := inR_not.1 (by assumption); omega)) | (have q : logOk h.term 0 h.log = true := (by rw [hR, List.drop_of_length_le (by omega)]; rfl); grind [hardOk])) ?_
        exact KF.mk (.inr rfl) [] [.bool (decide ((h.log.length : Int) ≤ 80))] (by kernel_rfl) (by kernel_rfl) (by kernel_rfl) (by kernel_rfl) (by kernel_rfl)
      · refine At.say 40 (.bool (inR h.vote 0 5)) (.bool false) (by kernel_rfl) (sayB (Bool.eq_false_iff.2 h5)) ?_
        replace h5 := Bool.eq_false_iff.2 h5
        refine At.auto 6 (by kernel_rfl) ?_
        refine At.done rfl ?_
        refine AW.ret ?_
        refine ⟨_, Sub.refl _ _, ?_⟩
        refine KF.conv (fun w => .bool w) (fun w => []) (show (false) = (hardOk h) from by first | (refine hardBad (hR.trans ?_); rw [dropCons he1]; first | exact logOk_bad0 (by assumption) | exact logOk_bad2 (by have := inR_not.1 (by assumption); omega)) | (have q : logOk h.term 0 h.log = true := (by rw [hR, List.drop_of_length_le (by omega)]; rfl); grind [hardOk])) ?_
        exact KF.mk (.inr rfl) [] [.bool false] (by kernel_rfl) (by kernel_rfl) (by kernel_rfl) (by kernel_rfl) (by kernel_rfl)
    · refine At.say 35 (.bool (inR h.term 0 1000000000)) (.bool false) (by kernel_rfl) (sayB (Bool.eq_false_iff.2 h4)) ?_
      replace h4 := Bool.eq_false_iff.2 h4
      refine At.auto 11 (by kernel_rfl) ?_
      refine At.done rfl ?_
      refine AW.ret ?_
      refine ⟨_, Sub.refl _ _, ?_⟩
      refine KF.conv (fun w => .bool w) (fun w => []) (show (false) = (hardOk h) from by first | (refine hardBad (hR.trans ?_); rw [dropCons he1]; first | exact logOk_bad0 (by assumption) | exact logOk_bad2 (by have := inR_not.1 (by assumption); omega)) | (have q : logOk h.term 0 h.log = true := (by rw [hR, List.drop_of_length_le (by omega)]; rfl); grind [hardOk])) ?_
      exact KF.mk (.inr rfl) [] [.bool false] (by kernel_rfl) (by kernel_rfl) (by kernel_rfl) (by kernel_rfl) (by kernel_rfl)
set_option maxRecDepth 100000 in
set_option maxHeartbeats 4000000 in
theorem impl_nodesAscend_spec  (list : List Int) (of_ : Int) (hl : list.length ≤ 1048576) (ho : 0 ≤ of_ ∧ of_ ≤ 1000) : FnSpec Try.prog 87 [.sl false 1 (list.map encI), .int .i64 of_] [] (.bool (asc (of_ - 1) (-1) list)) [] := by
  refine FnSpec.of 33 Try.func87 rfl Try.ntmps87 (by simp) (AW.weakK ?_)
  refine AW.seq ?_
  refine AW.region (At.start ?_)
  refine At.auto 1 (by kernel_rfl) ?_
  refine At.done rfl ?_
  refine AW.seq ?_
  refine AW.seq ?_
  refine AW.region (At.start ?_)
  refine At.auto 2 (by kernel_rfl) ?_
  refine At.say 8 (.int .i64 (((list.map encI).length : Nat) : Int)) (.int .i64 (list.length : Int)) (by kernel_rfl) (sayLen _ _) ?_
  refine At.auto 1 (by kernel_rfl) ?_
  refine At.done rfl ?_
  refine AW.block ?_
  refine AW.loopW (fun (k : Nat) => Go.Sy.mk [.sl false 1 (list.map encI), .int .i64 of_, .un, .un, .un, .un, .un, .sl false 1 (list.map encI), .int .i64 (list.length : Int), .int .i64 (k : Int)] []) (fun (k : Nat) => k ≤ list.length ∧ ∃ p : Int, (k = 0 → p = -1) ∧ (∀ e, 0 < k → list[k - 1]? = some e → e = p) ∧ asc (of_ - 1) (-1) list = asc (of_ - 1) p (list.drop k)) (fun (k : Nat) => list.length - k) 0 ⟨by omega, -1, by omega, by omega, by rw [List.drop_zero]⟩ (Sub.of [] [true, true, false, false, false, false, false, true, true, true] _ _ (by kernel_rfl) (by kernel_rfl) (by kernel_rfl)) ?_
  rintro k ⟨hk, p, hp0, hp1, hR⟩
  refine AW.seq ?_
  refine AW.region (At.start ?_)
  refine At.auto 1 (by kernel_rfl) ?_
  refine At.done rfl ?_
  refine AW.seq ?_
  refine AW.cond (decide ((k : Int) < (list.length : Int))) (by kernel_rfl) (fun hb => ?_) (fun hb => ?_)
  · have h1 : (k : Int) < (list.length : Int) := by simpa using hb
    clear hb
    refine AW.skip ?_
    refine AW.seq ?_
    refine AW.block ?_
    refine AW.seq ?_
    refine AW.region (At.start ?_)
    refine At.auto 1 (by kernel_rfl) ?_
    refine At.idxSl (t := 25) (d := 12) (x := .tmp 7) (y := .tmp 9) (p := false) (es := 1) (xs := (list.map encI)) (kd := .i64) (i := (k : Int)) (e := 3) (by kernel_rfl) (by kernel_rfl) (by kernel_rfl) (by kernel_rfl) (by omega) (by first | omega | (simp only [List.length_map, List.length_append, List.length_take, List.length_drop, List.length_replicate, List.length_set, List.length_cons, List.length_nil]; omega)) ?_
    refine Exists.elim (show ∃ e, list[k]? = some e from ⟨_, List.getElem?_eq_getElem (by first | omega | (simp only [List.length_map, List.length_append, List.length_take, List.length_drop, List.length_replicate, List.length_set, List.length_cons, List.length_nil]; omega))⟩) fun e1 he1 => ?_
    refine At.ldVp (t := 3) (d := 13) (x := .tmp 12) (p := false) (es := 1) (xs := (list.map encI)) (j := k) (off := 0) (b := false) (m := 1) (encI e1) (.int .i64 e1) (by kernel_rfl) (by kernel_rfl) (by kernel_rfl) (by kernel_rfl) (mapGet he1) (by kernel_rfl) ?_
    refine At.auto 2 (by kernel_rfl) ?_
    refine At.done rfl ?_
    refine AW.seq ?_
    refine AW.region (At.start ?_)
    refine At.auto 3 (by kernel_rfl) ?_
    refine At.say 16 (.int .i64 (IntKind.i64.wrap (of_ - 1))) (.int .i64 (of_ - 1)) (by kernel_rfl) (sayI _ (by omega)) ?_
    refine At.call (impl_within_spec  e1 0 (of_ - 1) ) Try.call85 true [] [] [] (by kernel_rfl) (by kernel_rfl) (by kernel_rfl) (by kernel_rfl) (by kernel_rfl) trivial ?_
    refine At.auto 2 (by kernel_rfl) ?_
    by_cases h2 : (inR e1 0 (of_ - 1)) = true
    · refine At.say 19 (.bool (!(inR e1 0 (of_ - 1)))) (.bool false) (by kernel_rfl) (sayNF (sayB h2)) ?_
      have h2i := inR_iff.1 h2
      refine At.auto 3 (by kernel_rfl) ?_
      by_cases h3 : (k : Int) > 0
      · refine At.say 22 (.bool (decide ((k : Int) > 0))) (.bool true) (by kernel_rfl) (sayT h3) ?_
        refine At.auto 3 (by kernel_rfl) ?_
        refine At.say 25 (.int .i64 (IntKind.i64.wrap ((k : Int) - 1))) (.int .i64 ((k : Int) - 1)) (by kernel_rfl) (sayI _ (by omega)) ?_
        refine At.idxSl (t := 25) (d := 26) (x := .tmp 23) (y := .tmp 25) (p := false) (es := 1) (xs := (list.map encI)) (kd := .i64) (i := (k : Int) - 1) (e := 3) (by kernel_rfl) (by kernel_rfl) (by kernel_rfl) (by kernel_rfl) (by omega) (by first | omega | (simp only [List.length_map, List.length_append, List.length_take, List.length_drop, List.length_replicate, List.length_set, List.length_cons, List.length_nil]; omega)) ?_
        refine Exists.elim (show ∃ e, list[((k : Int) - 1).toNat]? = some e from ⟨_, List.getElem?_eq_getElem (by first | omega | (simp only [List.length_map, List.length_append, List.length_take, List.length_drop, List.length_replicate, List.length_set, List.length_cons, List.length_nil]; omega))⟩) fun e2 he2 => ?_
        have qe2 := hp1 e2 (by omega) (by rw [show k - 1 = ((k : Int) - 1).toNat from by omega]; exact he2)
        refine At.ldVp (t := 3) (d := 27) (x := .tmp 26) (p := false) (es := 1) (xs := (list.map encI)) (j := ((k : Int) - 1).toNat) (off := 0) (b := false) (m := 1) (encI e2) (.int .i64 e2) (by kernel_rfl) (by kernel_rfl) (by kernel_rfl) (by kernel_rfl) (mapGet he2) (by kernel_rfl) ?_
        refine At.auto 4 (by kernel_rfl) ?_
        refine At.done rfl ?_
        refine AW.cond (decide (e2 ≥ e1)) (by kernel_rfl) (fun hb => ?_) (fun hb => ?_)
        · have h4 : e2 ≥ e1 := by simpa using hb
          clear hb
          refine AW.seq ?_
          refine AW.region (At.start ?_)
          refine At.auto 1 (by kernel_rfl) ?_
          refine At.done rfl ?_
          refine AW.ret ?_
          refine ⟨_, Sub.refl _ _, ?_⟩
          refine KF.conv (fun w => .bool w) (fun w => []) (show (false) = (asc (of_ - 1) (-1) list) from by first | (rw [hR, dropCons he1]; first | exact asc_bad1 (by assumption) | exact asc_bad2 (by omega)) | (rw [hR, List.drop_of_length_le (by omega)]; rfl)) ?_
          exact KF.mk (.inr rfl) [] [.bool false] (by kernel_rfl) (by kernel_rfl) (by kernel_rfl) (by kernel_rfl) (by kernel_rfl)
        · have h4 : ¬ (e2 ≥ e1) := by simpa using hb
          clear hb
          refine AW.skip ?_
          refine AW.region (At.start ?_)
          refine At.auto 1 (by kernel_rfl) ?_
          refine At.say 32 (.int .i64 (IntKind.i64.wrap ((k : Int) + 1))) (.int .i64 ((k : Int) + 1)) (by kernel_rfl) (sayI _ (by omega)) ?_
          refine At.auto 1 (by kernel_rfl) ?_
          refine At.done rfl ?_
          exact ⟨k + 1, ⟨by omega, e1, by omega, at_k he1, by have i1 := inR_iff.1 (show inR e1 0 (of_ - 1) = true by simpa using h2); rw [hR, dropCons he1]; exact asc_step (by simpa using h2) (by omega)⟩, (by omega), Sub.of [] [true, true, false, false, false, false, false, true, true, true] _ _ (by kernel_rfl) (by kernel_rfl) (by kernel_rfl)⟩
      · refine At.say 22 (.bool (decide ((k : Int) > 0))) (.bool false) (by kernel_rfl) (sayF h3) ?_
        refine At.auto 9 (by kernel_rfl) ?_
        refine At.done rfl ?_
        refine AW.cond false (by kernel_rfl) (fun h => by cases h) (fun _ => ?_)
        refine AW.skip ?_
        refine AW.region (At.start ?_)
        refine At.auto 1 (by kernel_rfl) ?_
        refine At.say 32 (.int .i64 (IntKind.i64.wrap ((k : Int) + 1))) (.int .i64 ((k : Int) + 1)) (by kernel_rfl) (sayI _ (by omega)) ?_
        refine At.auto 1 (by kernel_rfl) ?_
        refine At.done rfl ?_
        exact ⟨k + 1, ⟨by omega, e1, by omega, at_k he1, by have i1 := inR_iff.1 (show inR e1 0 (of_ - 1) = true by simpa using h2); rw [hR, dropCons he1]; exact asc_step (by simpa using h2) (by omega)⟩, (by omega), Sub.of [] [true, true, false, false, false, false, false, true, true, true] _ _ (by kernel_rfl) (by kernel_rfl) (by kernel_rfl)⟩
    · refine At.say 19 (.bool (!(inR e1 0 (of_ - 1)))) (.bool true) (by kernel_rfl) (sayNT (sayB (Bool.eq_false_iff.2 h2))) ?_
      replace h2 := Bool.eq_false_iff.2 h2
      refine At.auto 12 (by kernel_rfl) ?_
      refine At.done rfl ?_
      refine AW.cond true (by kernel_rfl) (fun _ => ?_) (fun h => by cases h)
      refine AW.seq ?_
      refine AW.region (At.start ?_)
      refine At.auto 1 (by kernel_rfl) ?_
      refine At.done rfl ?_
      refine AW.ret ?_
      refine ⟨_, Sub.refl _ _, ?_⟩
      refine KF.conv (fun w => .bool w) (fun w => []) (show (false) = (asc (of_ - 1) (-1) list) from by first | (rw [hR, dropCons he1]; first | exact asc_bad1 (by assumption) | exact asc_bad2 (by omega)) | (rw [hR, List.drop_of_length_le (by omega)]; rfl)) ?_
      exact KF.mk (.inr rfl) [] [.bool false] (by kernel_rfl) (by kernel_rfl) (by kernel_rfl) (by kernel_rfl) (by kernel_rfl)
  · have h1 : ¬ ((k : Int) < (list.length : Int)) := by simpa using hb
    clear hb
    refine AW.exit ?_
    refine AW.seq ?_
    refine AW.region (At.start ?_)
    refine At.auto 1 (by kernel_rfl) ?_
    refine At.done rfl ?_
    refine AW.ret ?_
    refine ⟨_, Sub.refl _ _, ?_⟩
    refine KF.conv (fun w => .bool w) (fun w => []) (show (true) = (asc (of_ - 1) (-1) list) from by first | (rw [hR, dropCons he1]; first | exact asc_bad1 (by assumption) | exact asc_bad2 (by omega)) | (rw [hR, List.drop_of_length_le (by omega)]; rfl)) ?_
    exact KF.mk (.inr rfl) [] [.bool true] (by kernel_rfl) (by kernel_rfl) (by kernel_rfl) (by kernel_rfl) (by kernel_rfl)
set_option maxRecDepth 100000 in
set_option maxHeartbeats 4000000 in
theorem slices_Index_spec  (s : List Int) (v : Int) (hl : s.length ≤ 1048576) : FnSpec Try.prog 109 [.sl false 1 (s.map encI), .int .i64 v] [] (.int .i64 (idxI v 0 s)) [] := by
  refine FnSpec.of 19 Try.func109 rfl Try.ntmps109 (by simp) (AW.weakK ?_)
  refine AW.seq ?_
  refine AW.region (At.start ?_)
  refine At.auto 1 (by kernel_rfl) ?_
  refine At.done rfl ?_
  refine AW.seq ?_
  refine AW.seq ?_
  refine AW.region (At.start ?_)
  refine At.auto 2 (by kernel_rfl) ?_
  refine At.say 7 (.int .i64 (((s.map encI).length : Nat) : Int)) (.int .i64 (s.length : Int)) (by kernel_rfl) (sayLen _ _) ?_
  refine At.auto 1 (by kernel_rfl) ?_
  refine At.done rfl ?_
  refine AW.block ?_
  refine AW.loopW (fun (k : Nat) => Go.Sy.mk [.sl false 1 (s.map encI), .int .i64 v, .un, .un, .un, .un, .un, .int .i64 (s.length : Int), .int .i64 (k : Int)] []) (fun (k : Nat) => k ≤ s.length ∧ idxI v 0 s = idxI v k (s.drop k)) (fun (k : Nat) => s.length - k) 0 ⟨by omega, by rw [List.drop_zero]⟩ (Sub.of [] [true, true, false, false, false, false, false, true, true] _ _ (by kernel_rfl) (by kernel_rfl) (by kernel_rfl)) ?_
  rintro k ⟨hk, hR⟩
  refine AW.seq ?_
  refine AW.region (At.start ?_)
  refine At.auto 1 (by kernel_rfl) ?_
  refine At.done rfl ?_
  refine AW.seq ?_
  refine AW.cond (decide ((k : Int) < (s.length : Int))) (by kernel_rfl) (fun hb => ?_) (fun hb => ?_)
  · have h1 : (k : Int) < (s.length : Int) := by simpa using hb
    clear hb
    refine AW.skip ?_
    refine AW.seq ?_
    refine AW.block ?_
    refine AW.seq ?_
    refine AW.region (At.start ?_)
    refine At.auto 2 (by kernel_rfl) ?_
    refine At.done rfl ?_
    refine AW.seq ?_
    refine AW.region (At.start ?_)
    refine At.auto 3 (by kernel_rfl) ?_
    refine At.idxSl (t := 25) (d := 14) (x := .tmp 12) (y := .tmp 13) (p := false) (es := 1) (xs := (s.map encI)) (kd := .i64) (i := (k : Int)) (e := 3) (by kernel_rfl) (by kernel_rfl) (by kernel_rfl) (by kernel_rfl) (by omega) (by first | omega | (simp only [List.length_map, List.length_append, List.length_take, List.length_drop, List.length_replicate, List.length_set, List.length_cons, List.length_nil]; omega)) ?_
    refine Exists.elim (show ∃ e, s[k]? = some e from ⟨_, List.getElem?_eq_getElem (by first | omega | (simp only [List.length_map, List.length_append, List.length_take, List.length_drop, List.length_replicate, List.length_set, List.length_cons, List.length_nil]; omega))⟩) fun e1 he1 => ?_
    refine At.ldVp (t := 3) (d := 15) (x := .tmp 14) (p := false) (es := 1) (xs := (s.map encI)) (j := k) (off := 0) (b := false) (m := 1) (encI e1) (.int .i64 e1) (by kernel_rfl) (by kernel_rfl) (by kernel_rfl) (by kernel_rfl) (mapGet he1) (by kernel_rfl) ?_
    refine At.auto 1 (by kernel_rfl) ?_
    refine At.done rfl ?_
    refine AW.cond (v == e1) (by kernel_rfl) (fun hb => ?_) (fun hb => ?_)
    · have h2 : v = e1 := by simpa using hb
      clear hb
      refine AW.seq ?_
      refine AW.region (At.start ?_)
      refine At.auto 2 (by kernel_rfl) ?_
      refine At.done rfl ?_
      refine AW.ret ?_
      refine ⟨_, Sub.refl _ _, ?_⟩
      refine KF.conv (fun w => .int .i64 w) (fun w => []) (show ((k : Int)) = (idxI v 0 s) from by first | (rw [hR, List.drop_of_length_le (by omega)]; rfl) | (rw [hR, dropCons he1, idxI, if_pos (by assumption)])) ?_
      exact KF.mk (.inr rfl) [] [.int .i64 (k : Int)] (by kernel_rfl) (by kernel_rfl) (by kernel_rfl) (by kernel_rfl) (by kernel_rfl)
    · have h2 : ¬ (v = e1) := by simpa using hb
      clear hb
      refine AW.skip ?_
      refine AW.region (At.start ?_)
      refine At.auto 1 (by kernel_rfl) ?_
      refine At.say 18 (.int .i64 (IntKind.i64.wrap ((k : Int) + 1))) (.int .i64 ((k : Int) + 1)) (by kernel_rfl) (sayI _ (by omega)) ?_
      refine At.auto 1 (by kernel_rfl) ?_
      refine At.done rfl ?_
      exact ⟨k + 1, ⟨by omega, by rw [hR, dropCons he1, idxI, if_neg (by assumption)]⟩, (by omega), Sub.of [] [true, true, false, false, false, false, false, true, true] _ _ (by kernel_rfl) (by kernel_rfl) (by kernel_rfl)⟩
  · have h1 : ¬ ((k : Int) < (s.length : Int)) := by simpa using hb
    clear hb
    refine AW.exit ?_
    refine AW.seq ?_
    refine AW.region (At.start ?_)
    refine At.auto 1 (by kernel_rfl) ?_
    refine At.done rfl ?_
    refine AW.ret ?_
    refine ⟨_, Sub.refl _ _, ?_⟩
    refine KF.conv (fun w => .int .i64 w) (fun w => []) (show (-1) = (idxI v 0 s) from by first | (rw [hR, List.drop_of_length_le (by omega)]; rfl) | (rw [hR, dropCons he1, idxI, if_pos (by assumption)])) ?_
    exact KF.mk (.inr rfl) [] [.int .i64 (-1)] (by kernel_rfl) (by kernel_rfl) (by kernel_rfl) (by kernel_rfl) (by kernel_rfl)
set_option maxRecDepth 100000 in
set_option maxHeartbeats 4000000 in
theorem slices_Contains_spec  (s : List Int) (v : Int) (hl : s.length ≤ 1048576) : FnSpec Try.prog 88 [.sl false 1 (s.map encI), .int .i64 v] [] (.bool (hasI v s)) [] := by
  refine FnSpec.of 9 Try.func88 rfl Try.ntmps88 (by simp) (AW.weakK ?_)
  refine AW.seq ?_
  refine AW.region (At.start ?_)
  refine At.auto 1 (by kernel_rfl) ?_
  refine At.done rfl ?_
  refine AW.seq ?_
  refine AW.region (At.start ?_)
  refine At.auto 2 (by kernel_rfl) ?_
  refine At.call (slices_Index_spec  s v (by first | omega | (dsimp only; omega) | (simp only [List.length_map, List.length_append, List.length_take, List.length_drop, List.length_replicate, List.length_set, List.length_cons, List.length_nil]; omega))) Try.call109 true [] [] [] (by kernel_rfl) (by kernel_rfl) (by kernel_rfl) (by kernel_rfl) (by kernel_rfl) trivial ?_
  refine At.auto 2 (by kernel_rfl) ?_
  refine At.done rfl ?_
  refine AW.ret ?_
  refine ⟨_, Sub.refl _ _, ?_⟩
  refine KF.conv (fun w => .bool w) (fun w => []) (show (decide ((idxI v 0 s) ≥ 0)) = (hasI v s) from idxI_has v s 0) ?_
  exact KF.mk (.inr rfl) [] [.bool (decide ((idxI v 0 s) ≥ 0))] (by kernel_rfl) (by kernel_rfl) (by kernel_rfl) (by kernel_rfl) (by kernel_rfl)
set_option maxRecDepth 100000 in
set_option maxHeartbeats 4000000 in
theorem impl_numbersIn_spec  (list : List Int) (count : Int) (low : Int) (high : Int) (hl : list.length ≤ 1048576) : FnSpec Try.prog 89 [.sl false 1 (list.map encI), .int .i64 count, .int .i64 low, .int .i64 high] [] (.bool (allIn low high list && ((list.length : Int) == count))) [] := by
  refine FnSpec.of 27 Try.func89 rfl Try.ntmps89 (by simp) (AW.weakK ?_)
  refine AW.seq ?_
  refine AW.region (At.start ?_)
  refine At.auto 1 (by kernel_rfl) ?_
  refine At.done rfl ?_
  refine AW.seq ?_
  refine AW.seq ?_
  refine AW.region (At.start ?_)
  refine At.auto 2 (by kernel_rfl) ?_
  refine At.say 12 (.int .i64 (((list.map encI).length : Nat) : Int)) (.int .i64 (list.length : Int)) (by kernel_rfl) (sayLen _ _) ?_
  refine At.auto 1 (by kernel_rfl) ?_
  refine At.done rfl ?_
  refine AW.block ?_
  refine AW.loopW (fun (k : Nat) => Go.Sy.mk [.sl false 1 (list.map encI), .int .i64 count, .int .i64 low, .int .i64 high, .un, .un, .un, .un, .un, .un, .un, .sl false 1 (list.map encI), .int .i64 (list.length : Int), .int .i64 (k : Int)] []) (fun (k : Nat) => k ≤ list.length ∧ allIn low high list = allIn low high (list.drop k)) (fun (k : Nat) => list.length - k) 0 ⟨by omega, by rw [List.drop_zero]⟩ (Sub.of [] [true, true, true, true, false, false, false, false, false, false, false, true, true, true] _ _ (by kernel_rfl) (by kernel_rfl) (by kernel_rfl)) ?_
  rintro k ⟨hk, hR⟩
  refine AW.seq ?_
  refine AW.region (At.start ?_)
  refine At.auto 1 (by kernel_rfl) ?_
  refine At.done rfl ?_
  refine AW.seq ?_
  refine AW.cond (decide ((k : Int) < (list.length : Int))) (by kernel_rfl) (fun hb => ?_) (fun hb => ?_)
  · have h1 : (k : Int) < (list.length : Int) := by simpa using hb
    clear hb
    refine AW.skip ?_
    refine AW.seq ?_
    refine AW.block ?_
    refine AW.seq ?_
    refine AW.region (At.start ?_)
    refine At.idxSl (t := 25) (d := 15) (x := .tmp 11) (y := .tmp 13) (p := false) (es := 1) (xs := (list.map encI)) (kd := .i64) (i := (k : Int)) (e := 3) (by kernel_rfl) (by kernel_rfl) (by kernel_rfl) (by kernel_rfl) (by omega) (by first | omega | (simp only [List.length_map, List.length_append, List.length_take, List.length_drop, List.length_replicate, List.length_set, List.length_cons, List.length_nil]; omega)) ?_
    refine Exists.elim (show ∃ e, list[k]? = some e from ⟨_, List.getElem?_eq_getElem (by first | omega | (simp only [List.length_map, List.length_append, List.length_take, List.length_drop, List.length_replicate, List.length_set, List.length_cons, List.length_nil]; omega))⟩) fun e1 he1 => ?_
    refine At.ldVp (t := 3) (d := 16) (x := .tmp 15) (p := false) (es := 1) (xs := (list.map encI)) (j := k) (off := 0) (b := false) (m := 1) (encI e1) (.int .i64 e1) (by kernel_rfl) (by kernel_rfl) (by kernel_rfl) (by kernel_rfl) (mapGet he1) (by kernel_rfl) ?_
    refine At.auto 1 (by kernel_rfl) ?_
    refine At.done rfl ?_
    refine AW.seq ?_
    refine AW.region (At.start ?_)
    refine At.auto 3 (by kernel_rfl) ?_
    refine At.call (impl_within_spec  e1 low high ) Try.call85 true [] [] [] (by kernel_rfl) (by kernel_rfl) (by kernel_rfl) (by kernel_rfl) (by kernel_rfl) trivial ?_
    refine At.auto 1 (by kernel_rfl) ?_
    refine At.done rfl ?_
    refine AW.cond (!(inR e1 low high)) (by kernel_rfl) (fun hb => ?_) (fun hb => ?_)
    · have h2 : (inR e1 low high) = false := by simpa using hb
      clear hb
      refine AW.seq ?_
      refine AW.region (At.start ?_)
      refine At.auto 1 (by kernel_rfl) ?_
      refine At.done rfl ?_
      refine AW.ret ?_
      refine ⟨_, Sub.refl _ _, ?_⟩
      refine KF.conv (fun w => .bool w) (fun w => []) (show (false) = (allIn low high list && ((list.length : Int) == count)) from by first | (rw [hR, dropCons he1, allIn]; simp only [*, Bool.false_and]; done) | (rw [hR, List.drop_of_length_le (by omega)]; rfl)) ?_
      exact KF.mk (.inr rfl) [] [.bool false] (by kernel_rfl) (by kernel_rfl) (by kernel_rfl) (by kernel_rfl) (by kernel_rfl)
    · have h2 : (inR e1 low high) = true := by simpa using hb
      clear hb
      have h2i := inR_iff.1 h2
      refine AW.skip ?_
      refine AW.region (At.start ?_)
      refine At.auto 1 (by kernel_rfl) ?_
      refine At.say 22 (.int .i64 (IntKind.i64.wrap ((k : Int) + 1))) (.int .i64 ((k : Int) + 1)) (by kernel_rfl) (sayI _ (by omega)) ?_
      refine At.auto 1 (by kernel_rfl) ?_
      refine At.done rfl ?_
      exact ⟨k + 1, ⟨by omega, by rw [hR, dropCons he1, allIn]; simp only [*, Bool.true_and]⟩, (by omega), Sub.of [] [true, true, true, true, false, false, false, false, false, false, false, true, true, true] _ _ (by kernel_rfl) (by kernel_rfl) (by kernel_rfl)⟩
  · have h1 : ¬ ((k : Int) < (list.length : Int)) := by simpa using hb
    clear hb
    refine AW.exit ?_
    refine AW.seq ?_
    refine AW.region (At.start ?_)
    refine At.auto 2 (by kernel_rfl) ?_
    refine At.say 24 (.int .i64 (((list.map encI).length : Nat) : Int)) (.int .i64 (list.length : Int)) (by kernel_rfl) (sayLen _ _) ?_
    refine At.auto 3 (by kernel_rfl) ?_
    refine At.done rfl ?_
    refine AW.ret ?_
    refine ⟨_, Sub.refl _ _, ?_⟩
    refine KF.conv (fun w => .bool w) (fun w => []) (show ((list.length : Int) == count) = (allIn low high list && ((list.length : Int) == count)) from by first | (rw [hR, dropCons he1, allIn]; simp only [*, Bool.false_and]; done) | (rw [hR, List.drop_of_length_le (by omega)]; rfl)) ?_
    exact KF.mk (.inr rfl) [] [.bool ((list.length : Int) == count)] (by kernel_rfl) (by kernel_rfl) (by kernel_rfl) (by kernel_rfl) (by kernel_rfl)
end Go.Proofs.Ytlmadhahghiedaa
