/- The contracts of the functions that FnExactRaftStand reaches (each: what it answers, said over values), printed by a program of this session (wip/sy/g/gen.py). -/
import Derived.Test.YtlmadhahghiedaaFFnExactRaftStand1
set_option linter.unusedVariables false
set_option linter.unusedSimpArgs false
namespace Go.Proofs.Ytlmadhahghiedaa
open Go Go.Sy Go.Proofs
set_option maxRecDepth 100000 in
set_option maxHeartbeats 4000000 in
theorem spec_l10Lead_T_spec  (r : Raft) (recs : List Rec) (hz : SmallR r) (ho : 0 ≤ r.of_ ∧ r.of_ ≤ 5) (hi : 0 ≤ r.id ∧ r.id < r.of_) (hr : recs.length ≤ 1000) (hlt : r.hard.log.length < 80) : FnSpec Try.prog 64 [.agg [.int .i64 r.id, .int .i64 r.of_, .int .i64 r.role, .int .i64 r.commit, .int .i64 r.hard.term, .int .i64 r.hard.vote, .ref 0, .ref 1, .ref 2, .ref 3], .ref 4] [.arr 88 6 (r.hard.log.map encEnt), .arr 3 1 (r.yes.map encI), .arr 3 1 (r.next.map encI), .arr 3 1 (r.match_.map encI), .arr 93 10 (recs.map encRec)] (.tup [.agg [.int .i64 ((leadR r).id), .int .i64 ((leadR r).of_), .int .i64 ((leadR r).role), .int .i64 ((leadR r).commit), .int .i64 ((leadR r).hard.term), .int .i64 ((leadR r).hard.vote), .ref 5, .ref 6, .ref 7, .ref 8], .ref 9, .ref 10]) [.arr 88 6 (r.hard.log.map encEnt), .arr 3 1 (r.yes.map encI), .arr 3 1 (r.next.map encI), .arr 3 1 (r.match_.map encI), .dead, .arr 88 6 (((leadR r).hard.log).map encEnt), .arr 3 1 (((leadR r).yes).map encI), .arr 3 1 (((leadR r).next).map encI), .arr 3 1 (((leadR r).match_).map encI), .arr 93 10 ((recs ++ leadRecs r).map encRec), .arr 76 17 ((sendAll (leadR r)).map encOut)] := by
  obtain ⟨z1, z2, z3, z4⟩ := id hz
  refine FnSpec.of 64 Try.func64 rfl Try.ntmps64 (by simp) (AW.weakK ?_)
  refine AW.r ?_
  refine At.a 4 ?_
  refine At.done rfl ?_
  refine AW.seq ?_
  refine AW.weak (Sub.nils [⟨true, 104, some 6, 5001, 88, 6⟩, ⟨true, 104, some 7, 5002, 3, 1⟩, ⟨true, 104, some 8, 5003, 3, 1⟩, ⟨true, 104, some 9, 5004, 3, 1⟩] (by kernel_rfl)) ?_
  refine AW.region (At.start ?_)
  refine At.a 2 ?_
  refine At.done rfl ?_
  refine AW.r ?_
  refine At.a 2 ?_
  refine At.done rfl ?_
  refine AW.seq ?_
  refine AW.weak (Sub.nils [⟨true, 102, some 7, 5005, 3, 1⟩] (by kernel_rfl)) ?_
  refine AW.region (At.start ?_)
  refine At.lit0 (t := 25) (d := 10) (e := 3) (es := 1) (bytes := 8) 110 (by kernel_rfl) (by kernel_rfl) (by kernel_rfl) (by kernel_rfl) ?_
  refine At.a 2 ?_
  refine At.done rfl ?_
  refine AW.r ?_
  refine At.lit0 (t := 25) (d := 12) (e := 3) (es := 1) (bytes := 8) 112 (by kernel_rfl) (by kernel_rfl) (by kernel_rfl) (by kernel_rfl) ?_
  refine At.a 2 ?_
  refine At.done rfl ?_
  refine AW.seq ?_
  refine AW.r ?_
  refine At.a 1 ?_
  refine At.done rfl ?_
  refine AW.block ?_
  refine AW.loopW (fun (k : Nat) => Go.Sy.mk [.un, .ref 4, .ptr 102 0 0, .un, .ptr 104 0 0, .un, .un, .int .i64 (k : Int)] [(0, .arr 88 6 (r.hard.log.map encEnt)), (1, .arr 3 1 (r.yes.map encI)), (2, .arr 3 1 (r.next.map encI)), (3, .arr 3 1 (r.match_.map encI)), (4, .arr 93 10 (recs.map encRec)), (102, .box 35 [.int .i64 r.id, .int .i64 r.of_, .int .i64 3, .int .i64 r.commit, .int .i64 r.hard.term, .int .i64 r.hard.vote, .ref 0, .ref 5005, .ref 110, .ref 112]), (104, .box 35 [.int .i64 0, .int .i64 0, .int .i64 0, .int .i64 0, .int .i64 0, .int .i64 0, .ref 5001, .ref 5002, .ref 5003, .ref 5004]), (110, .arr 3 1 ((List.replicate k ((r.hard.log.length : Int) + 1)).map encI)), (112, .arr 3 1 ((List.replicate k (0 : Int)).map encI)), (5001, .arr 88 6 []), (5002, .arr 3 1 []), (5003, .arr 3 1 []), (5004, .arr 3 1 []), (5005, .arr 3 1 [])]) (fun (k : Nat) => k ≤ r.of_.toNat) (fun (k : Nat) => r.of_.toNat - k) 0 (by omega) (Sub.o [(0, 0), (1, 1), (2, 2), (3, 3), (4, 4), (102, 102), (104, 104), (110, 110), (112, 112), (5001, 5001), (5002, 5002), (5003, 5003), (5004, 5004), (5005, 5005)] [false, true, true, false, true, false, false, true]) ?_
  rintro k hk
  refine AW.seq ?_
  refine AW.r ?_
  refine At.a 4 ?_
  refine At.done rfl ?_
  refine AW.cD ((k : Int) < r.of_) (fun h1 => ?_) (fun h1 => ?_)
  · skip
    refine AW.skip ?_
    refine AW.seq ?_
    refine AW.block ?_
    refine AW.seq ?_
    refine AW.regionD Try_mix (At.start ?_)
    refine At.a 3 ?_
    refine At.c (spec_l10End_spec  (⟨r.id, r.of_, 3, r.commit, r.hard, [], List.replicate k ((r.hard.log.length : Int) + 1), List.replicate k (0 : Int)⟩ : Raft) ) Try.call53 false [] [] [(0, 6, (r.hard.log.map encEnt)), (5005, 1, []), (110, 1, ((List.replicate k ((r.hard.log.length : Int) + 1)).map encI)), (112, 1, ((List.replicate k (0 : Int)).map encI))] ⟨rfl, ⟨88, (r.hard.log.map encEnt), by kernel_rfl, FrzIs.same (allP_encEnt _)⟩, rfl, ⟨3, [], by kernel_rfl, FrzIs.same (fun _ h => by cases h)⟩, rfl, ⟨3, ((List.replicate k ((r.hard.log.length : Int) + 1)).map encI), by kernel_rfl, FrzIs.same (allP_encI _)⟩, rfl, ⟨3, ((List.replicate k (0 : Int)).map encI), by kernel_rfl, FrzIs.same (allP_encI _)⟩, trivial⟩ ?_
    refine At.a 1 ?_
    refine At.sI 24 ((r.hard.log.length : Int) + 1) (by omega) ?_
    refine At.litK (t := 25) (d := 25) (e := 3) (es := 1) (bytes := 8) (n := 1) (parts := #[(0, .tmp 24)]) (88, 6) 125 [] [.int .i64 ((r.hard.log.length : Int) + 1)] [.int .i64 ((r.hard.log.length : Int) + 1)] [.int .i64 0] [.int .i64 ((r.hard.log.length : Int) + 1)] [] (by kernel_rfl) (by kernel_rfl) (by kernel_rfl) (by kernel_rfl) rfl (fun p hp => by cases hp) (by kernel_rfl) ?_
    refine At.append (t := 25) (d := 26) (e := 3) (es := 1) (bytes := 8) (s := .tmp 21) (x := .tmp 25) (S := .ref 110) (T := .ref 125) (xs := ((List.replicate k ((r.hard.log.length : Int) + 1)).map encI)) (ys := (([(r.hard.log.length : Int) + 1]).map encI)) 126 [110] [125] ((List.replicate (k + 1) ((r.hard.log.length : Int) + 1)).map encI) (by kernel_rfl) (by kernel_rfl) (by kernel_rfl) (by kernel_rfl) ⟨by kernel_rfl, rfl⟩ ⟨by kernel_rfl, .inr rfl⟩ (by kernel_rfl) (by kernel_rfl) (by rw [List.replicate_succ', List.map_append]; try rfl) (by simp only [List.length_map, List.length_append, List.length_take, List.length_drop, List.length_replicate, List.length_set, List.length_cons, List.length_nil]; omega) (by simp only [List.length_map, List.length_append, List.length_take, List.length_drop, List.length_replicate, List.length_set, List.length_cons, List.length_nil]; omega) ?_
    refine At.a 2 ?_
    refine At.done rfl ⟨by kernel_rfl, ?_⟩
    refine AW.region (At.start ?_)
    refine At.a 2 ?_
    refine At.litK (t := 25) (d := 30) (e := 3) (es := 1) (bytes := 8) (n := 1) (parts := #[(0, .const (.int .i64 0))]) (88, 6) 130 [] [.int .i64 0] [.int .i64 0] [.int .i64 0] [.int .i64 0] [] (by kernel_rfl) (by kernel_rfl) (by kernel_rfl) (by kernel_rfl) rfl (fun p hp => by cases hp) (by kernel_rfl) ?_
    refine At.append (t := 25) (d := 31) (e := 3) (es := 1) (bytes := 8) (s := .tmp 29) (x := .tmp 30) (S := .ref 112) (T := .ref 130) (xs := ((List.replicate k (0 : Int)).map encI)) (ys := (([0]).map encI)) 131 [112] [130] ((List.replicate (k + 1) (0 : Int)).map encI) (by kernel_rfl) (by kernel_rfl) (by kernel_rfl) (by kernel_rfl) ⟨by kernel_rfl, rfl⟩ ⟨by kernel_rfl, .inr rfl⟩ (by kernel_rfl) (by kernel_rfl) (by rw [List.replicate_succ', List.map_append]; try rfl) (by simp only [List.length_map, List.length_append, List.length_take, List.length_drop, List.length_replicate, List.length_set, List.length_cons, List.length_nil]; omega) (by simp only [List.length_map, List.length_append, List.length_take, List.length_drop, List.length_replicate, List.length_set, List.length_cons, List.length_nil]; omega) ?_
    refine At.a 2 ?_
    refine At.done rfl ?_
    refine AW.region (At.start ?_)
    refine At.a 2 ?_
    refine At.sI 19 ((k : Int) + 1) (by omega) ?_
    refine At.a 1 ?_
    refine At.done rfl ?_
    exact ⟨k + 1, (by omega), (by omega), Sub.o [(0, 0), (1, 1), (2, 2), (3, 3), (4, 4), (102, 102), (104, 104), (126, 110), (131, 112), (5001, 5001), (5002, 5002), (5003, 5003), (5004, 5004), (5005, 5005)] [false, true, true, false, true, false, false, true]⟩
  · skip
    refine AW.exit ?_
    refine AW.seq ?_
    refine AW.r ?_
    refine At.a 1 ?_
    refine At.c (spec_l10End_spec  (⟨r.id, r.of_, 3, r.commit, r.hard, [], List.replicate k ((r.hard.log.length : Int) + 1), List.replicate k (0 : Int)⟩ : Raft) ) Try.call53 false [] [] [(0, 6, (r.hard.log.map encEnt)), (5005, 1, []), (110, 1, ((List.replicate k ((r.hard.log.length : Int) + 1)).map encI)), (112, 1, ((List.replicate k (0 : Int)).map encI))] ⟨rfl, ⟨88, (r.hard.log.map encEnt), by kernel_rfl, FrzIs.same (allP_encEnt _)⟩, rfl, ⟨3, [], by kernel_rfl, FrzIs.same (fun _ h => by cases h)⟩, rfl, ⟨3, ((List.replicate k ((r.hard.log.length : Int) + 1)).map encI), by kernel_rfl, FrzIs.same (allP_encI _)⟩, rfl, ⟨3, ((List.replicate k (0 : Int)).map encI), by kernel_rfl, FrzIs.same (allP_encI _)⟩, trivial⟩ ?_
    refine At.a 1 ?_
    refine At.done rfl ?_
    refine AW.condT (decide ((r.hard.log.length : Int) < 80)) (by kernel_rfl) (decide_eq_true (by omega)) ?_
    refine AW.region (At.start ?_)
    refine At.a 7 ?_
    refine At.c (spec_l10Put_spec  (⟨r.id, r.of_, 3, r.commit, r.hard, [], List.replicate k ((r.hard.log.length : Int) + 1), List.replicate k (0 : Int)⟩ : Raft) (⟨r.hard.term, ⟨1, 0, 0, 0, (⟨#[]⟩ : ByteArray)⟩⟩ : Ent) recs (by omega) (by omega)) Try.call54 true [(0, 0), (5005, 1), (110, 2), (112, 3), (4, 4)] [(1880, 5), (1881, 6)] [] trivial ?_
    refine At.a 5 ?_
    refine At.done rfl ?_
    refine AW.seq ?_
    refine AW.regionD Try_mix (At.start ?_)
    refine At.a 5 ?_
    refine At.c (spec_l10End_spec  (⟨r.id, r.of_, 3, r.commit, ⟨r.hard.term, r.hard.vote, r.hard.log ++ [(⟨r.hard.term, ⟨1, 0, 0, 0, (⟨#[]⟩ : ByteArray)⟩⟩ : Ent)]⟩, [], List.replicate k ((r.hard.log.length : Int) + 1), List.replicate k (0 : Int)⟩ : Raft) ) Try.call53 false [] [] [(1880, 6, ((r.hard.log ++ [(⟨r.hard.term, ⟨1, 0, 0, 0, (⟨#[]⟩ : ByteArray)⟩⟩ : Ent)]).map encEnt)), (5005, 1, []), (110, 1, ((List.replicate k ((r.hard.log.length : Int) + 1)).map encI)), (112, 1, ((List.replicate k (0 : Int)).map encI))] ⟨rfl, ⟨88, ((r.hard.log ++ [(⟨r.hard.term, ⟨1, 0, 0, 0, (⟨#[]⟩ : ByteArray)⟩⟩ : Ent)]).map encEnt), by kernel_rfl, FrzIs.same (allP_encEnt _)⟩, rfl, ⟨3, [], by kernel_rfl, FrzIs.same (fun _ h => by cases h)⟩, rfl, ⟨3, ((List.replicate k ((r.hard.log.length : Int) + 1)).map encI), by kernel_rfl, FrzIs.same (allP_encI _)⟩, rfl, ⟨3, ((List.replicate k (0 : Int)).map encI), by kernel_rfl, FrzIs.same (allP_encI _)⟩, trivial⟩ ?_
    refine At.iRf 25 53 (.tmp 48) (.tmp 50) 112 ((List.replicate k (0 : Int)).map encI) .i64 r.id 3 1 (by omega) (by simp only [List.length_map, List.length_append, List.length_take, List.length_drop, List.length_replicate, List.length_set, List.length_cons, List.length_nil]; omega) ?_
    refine Exists.elim (show ∃ e, (List.replicate k (0 : Int))[(r.id).toNat]? = some e from ⟨_, List.getElem?_eq_getElem (by simp only [List.length_map, List.length_append, List.length_take, List.length_drop, List.length_replicate, List.length_set, List.length_cons, List.length_nil]; omega)⟩) fun e1 he1 => ?_
    refine At.sEl 3 112 3 1 ((r.id).toNat) 0 (.tmp 53) (.tmp 52) ((List.replicate k (0 : Int)).map encI) (((List.replicate k (0 : Int)).set ((r.id).toNat) ((r.hard.log ++ [(⟨r.hard.term, ⟨1, 0, 0, 0, (⟨#[]⟩ : ByteArray)⟩⟩ : Ent)]).length : Int)).map encI) [.int .i64 ((r.hard.log ++ [(⟨r.hard.term, ⟨1, 0, 0, 0, (⟨#[]⟩ : ByteArray)⟩⟩ : Ent)]).length : Int)] (.int .i64 ((r.hard.log ++ [(⟨r.hard.term, ⟨1, 0, 0, 0, (⟨#[]⟩ : ByteArray)⟩⟩ : Ent)]).length : Int)) (encI e1) (encI ((r.hard.log ++ [(⟨r.hard.term, ⟨1, 0, 0, 0, (⟨#[]⟩ : ByteArray)⟩⟩ : Ent)]).length : Int)) (mapGet he1) setV ?_
    refine At.done rfl ⟨by kernel_rfl, ?_⟩
    refine AW.seq ?_
    refine AW.r ?_
    refine At.a 3 ?_
    refine At.done rfl ?_
    refine AW.cE r.of_ (1 : Int) (fun h2 => ?_) (fun h2 => ?_)
    · skip
      refine AW.region (At.start ?_)
      refine At.a 1 ?_
      refine At.c (spec_l10End_spec  (⟨r.id, r.of_, 3, r.commit, ⟨r.hard.term, r.hard.vote, r.hard.log ++ [(⟨r.hard.term, ⟨1, 0, 0, 0, (⟨#[]⟩ : ByteArray)⟩⟩ : Ent)]⟩, [], List.replicate k ((r.hard.log.length : Int) + 1), (List.replicate k (0 : Int)).set ((r.id).toNat) ((r.hard.log ++ [(⟨r.hard.term, ⟨1, 0, 0, 0, (⟨#[]⟩ : ByteArray)⟩⟩ : Ent)]).length : Int)⟩ : Raft) ) Try.call53 false [] [] [(1880, 6, ((r.hard.log ++ [(⟨r.hard.term, ⟨1, 0, 0, 0, (⟨#[]⟩ : ByteArray)⟩⟩ : Ent)]).map encEnt)), (5005, 1, []), (110, 1, ((List.replicate k ((r.hard.log.length : Int) + 1)).map encI)), (112, 1, (((List.replicate k (0 : Int)).set ((r.id).toNat) ((r.hard.log ++ [(⟨r.hard.term, ⟨1, 0, 0, 0, (⟨#[]⟩ : ByteArray)⟩⟩ : Ent)]).length : Int)).map encI))] ⟨rfl, ⟨88, ((r.hard.log ++ [(⟨r.hard.term, ⟨1, 0, 0, 0, (⟨#[]⟩ : ByteArray)⟩⟩ : Ent)]).map encEnt), by kernel_rfl, FrzIs.same (allP_encEnt _)⟩, rfl, ⟨3, [], by kernel_rfl, FrzIs.same (fun _ h => by cases h)⟩, rfl, ⟨3, ((List.replicate k ((r.hard.log.length : Int) + 1)).map encI), by kernel_rfl, FrzIs.same (allP_encI _)⟩, rfl, ⟨3, (((List.replicate k (0 : Int)).set ((r.id).toNat) ((r.hard.log ++ [(⟨r.hard.term, ⟨1, 0, 0, 0, (⟨#[]⟩ : ByteArray)⟩⟩ : Ent)]).length : Int)).map encI), by kernel_rfl, FrzIs.same (allP_encI _)⟩, trivial⟩ ?_
      refine At.a 2 ?_
      refine At.done rfl ?_
      refine AW.seq ?_
      refine AW.regionD Try_mix (At.start ?_)
      refine At.a 3 ?_
      refine At.c (spec_l10SendAll_spec  (⟨r.id, r.of_, 3, ((r.hard.log ++ [(⟨r.hard.term, ⟨1, 0, 0, 0, (⟨#[]⟩ : ByteArray)⟩⟩ : Ent)]).length : Int), ⟨r.hard.term, r.hard.vote, r.hard.log ++ [(⟨r.hard.term, ⟨1, 0, 0, 0, (⟨#[]⟩ : ByteArray)⟩⟩ : Ent)]⟩, [], List.replicate k ((r.hard.log.length : Int) + 1), (List.replicate k (0 : Int)).set ((r.id).toNat) ((r.hard.log ++ [(⟨r.hard.term, ⟨1, 0, 0, 0, (⟨#[]⟩ : ByteArray)⟩⟩ : Ent)]).length : Int)⟩ : Raft) (by unfold SmallR; simp only [List.length_append, List.length_set, List.length_replicate, List.length_cons, List.length_nil]; omega) (by dsimp only; omega) (by dsimp only; simp only [List.length_replicate]; omega) (nextOk_rep rfl ⟨by omega, by dsimp only; (try simp only [List.length_append]); omega⟩)) Try.call35 false [] [(2260, 0)] [(1880, 6, ((r.hard.log ++ [(⟨r.hard.term, ⟨1, 0, 0, 0, (⟨#[]⟩ : ByteArray)⟩⟩ : Ent)]).map encEnt)), (5005, 1, []), (110, 1, ((List.replicate k ((r.hard.log.length : Int) + 1)).map encI)), (112, 1, (((List.replicate k (0 : Int)).set ((r.id).toNat) ((r.hard.log ++ [(⟨r.hard.term, ⟨1, 0, 0, 0, (⟨#[]⟩ : ByteArray)⟩⟩ : Ent)]).length : Int)).map encI))] ⟨rfl, ⟨88, ((r.hard.log ++ [(⟨r.hard.term, ⟨1, 0, 0, 0, (⟨#[]⟩ : ByteArray)⟩⟩ : Ent)]).map encEnt), by kernel_rfl, FrzIs.same (allP_encEnt _)⟩, rfl, ⟨3, [], by kernel_rfl, FrzIs.same (fun _ h => by cases h)⟩, rfl, ⟨3, ((List.replicate k ((r.hard.log.length : Int) + 1)).map encI), by kernel_rfl, FrzIs.same (allP_encI _)⟩, rfl, ⟨3, (((List.replicate k (0 : Int)).set ((r.id).toNat) ((r.hard.log ++ [(⟨r.hard.term, ⟨1, 0, 0, 0, (⟨#[]⟩ : ByteArray)⟩⟩ : Ent)]).length : Int)).map encI), by kernel_rfl, FrzIs.same (allP_encI _)⟩, trivial⟩ ?_
      refine At.a 3 ?_
      refine At.done rfl ⟨by kernel_rfl, ?_⟩
      refine AW.ret ?_
      refine ⟨_, Sub.refl _ _, ?_⟩
      refine KF.conv (fun w => .tup [.agg [.int .i64 w.id, .int .i64 w.of_, .int .i64 w.role, .int .i64 w.commit, .int .i64 w.hard.term, .int .i64 w.hard.vote, .ref 5, .ref 6, .ref 7, .ref 8], .ref 9, .ref 10]) (fun w => [.arr 88 6 (r.hard.log.map encEnt), .arr 3 1 (r.yes.map encI), .arr 3 1 (r.next.map encI), .arr 3 1 (r.match_.map encI), .dead, .arr 88 6 (w.hard.log.map encEnt), .arr 3 1 (w.yes.map encI), .arr 3 1 (w.next.map encI), .arr 3 1 (w.match_.map encI), .arr 93 10 ((recs ++ leadRecs r).map encRec), .arr 76 17 ((sendAll (leadR r)).map encOut)]) (show ((⟨r.id, r.of_, 3, ((r.hard.log ++ [(⟨r.hard.term, ⟨1, 0, 0, 0, (⟨#[]⟩ : ByteArray)⟩⟩ : Ent)]).length : Int), ⟨r.hard.term, r.hard.vote, r.hard.log ++ [(⟨r.hard.term, ⟨1, 0, 0, 0, (⟨#[]⟩ : ByteArray)⟩⟩ : Ent)]⟩, [], List.replicate k ((r.hard.log.length : Int) + 1), (List.replicate k (0 : Int)).set ((r.id).toNat) ((r.hard.log ++ [(⟨r.hard.term, ⟨1, 0, 0, 0, (⟨#[]⟩ : ByteArray)⟩⟩ : Ent)]).length : Int)⟩ : Raft)) = (leadR r) from by obtain rfl : k = r.of_.toNat := (by omega); have hlt2 := hlt; simp [leadR, leadRecs, had, put, lead0, noneE, putRec, hlt2, h1, h2]) ?_
      refine KF.conv (fun w => .tup [.agg [.int .i64 r.id, .int .i64 r.of_, .int .i64 3, .int .i64 ((r.hard.log ++ [(⟨r.hard.term, ⟨1, 0, 0, 0, (⟨#[]⟩ : ByteArray)⟩⟩ : Ent)]).length : Int), .int .i64 r.hard.term, .int .i64 r.hard.vote, .ref 5, .ref 6, .ref 7, .ref 8], .ref 9, .ref 10]) (fun w => [.arr 88 6 (r.hard.log.map encEnt), .arr 3 1 (r.yes.map encI), .arr 3 1 (r.next.map encI), .arr 3 1 (r.match_.map encI), .dead, .arr 88 6 ((r.hard.log ++ [(⟨r.hard.term, ⟨1, 0, 0, 0, (⟨#[]⟩ : ByteArray)⟩⟩ : Ent)]).map encEnt), .arr 3 1 [], .arr 3 1 ((List.replicate k ((r.hard.log.length : Int) + 1)).map encI), .arr 3 1 (((List.replicate k (0 : Int)).set ((r.id).toNat) ((r.hard.log ++ [(⟨r.hard.term, ⟨1, 0, 0, 0, (⟨#[]⟩ : ByteArray)⟩⟩ : Ent)]).length : Int)).map encI), .arr 93 10 (w.map encRec), .arr 76 17 ((sendAll (leadR r)).map encOut)]) (show (recs ++ [(⟨2, 0, 0, ((r.hard.log ++ [(⟨r.hard.term, ⟨1, 0, 0, 0, (⟨#[]⟩ : ByteArray)⟩⟩ : Ent)]).length : Int), (⟨r.hard.term, ⟨1, 0, 0, 0, (⟨#[]⟩ : ByteArray)⟩⟩ : Ent)⟩ : Rec)]) = (recs ++ leadRecs r) from by obtain rfl : k = r.of_.toNat := (by omega); have hlt2 := hlt; simp [leadR, leadRecs, had, put, lead0, noneE, putRec, hlt2, h1, h2]) ?_
      refine KF.conv (fun w => .tup [.agg [.int .i64 r.id, .int .i64 r.of_, .int .i64 3, .int .i64 ((r.hard.log ++ [(⟨r.hard.term, ⟨1, 0, 0, 0, (⟨#[]⟩ : ByteArray)⟩⟩ : Ent)]).length : Int), .int .i64 r.hard.term, .int .i64 r.hard.vote, .ref 5, .ref 6, .ref 7, .ref 8], .ref 9, .ref 10]) (fun w => [.arr 88 6 (r.hard.log.map encEnt), .arr 3 1 (r.yes.map encI), .arr 3 1 (r.next.map encI), .arr 3 1 (r.match_.map encI), .dead, .arr 88 6 ((r.hard.log ++ [(⟨r.hard.term, ⟨1, 0, 0, 0, (⟨#[]⟩ : ByteArray)⟩⟩ : Ent)]).map encEnt), .arr 3 1 [], .arr 3 1 ((List.replicate k ((r.hard.log.length : Int) + 1)).map encI), .arr 3 1 (((List.replicate k (0 : Int)).set ((r.id).toNat) ((r.hard.log ++ [(⟨r.hard.term, ⟨1, 0, 0, 0, (⟨#[]⟩ : ByteArray)⟩⟩ : Ent)]).length : Int)).map encI), .arr 93 10 ((recs ++ [(⟨2, 0, 0, ((r.hard.log ++ [(⟨r.hard.term, ⟨1, 0, 0, 0, (⟨#[]⟩ : ByteArray)⟩⟩ : Ent)]).length : Int), (⟨r.hard.term, ⟨1, 0, 0, 0, (⟨#[]⟩ : ByteArray)⟩⟩ : Ent)⟩ : Rec)]).map encRec), .arr 76 17 (w.map encOut)]) (show (sendAll (⟨r.id, r.of_, 3, ((r.hard.log ++ [(⟨r.hard.term, ⟨1, 0, 0, 0, (⟨#[]⟩ : ByteArray)⟩⟩ : Ent)]).length : Int), ⟨r.hard.term, r.hard.vote, r.hard.log ++ [(⟨r.hard.term, ⟨1, 0, 0, 0, (⟨#[]⟩ : ByteArray)⟩⟩ : Ent)]⟩, [], List.replicate k ((r.hard.log.length : Int) + 1), (List.replicate k (0 : Int)).set ((r.id).toNat) ((r.hard.log ++ [(⟨r.hard.term, ⟨1, 0, 0, 0, (⟨#[]⟩ : ByteArray)⟩⟩ : Ent)]).length : Int)⟩ : Raft)) = (sendAll (leadR r)) from by obtain rfl : k = r.of_.toNat := (by omega); have hlt2 := hlt; simp [leadR, leadRecs, had, put, lead0, noneE, putRec, hlt2, h1, h2]) ?_
      exact KF.m [(0, 0), (1, 1), (2, 2), (3, 3), (4, 4), (1880, 5), (5005, 6), (110, 7), (112, 8), (1881, 9), (2260, 10)] [.agg [.int .i64 r.id, .int .i64 r.of_, .int .i64 3, .int .i64 ((r.hard.log ++ [(⟨r.hard.term, ⟨1, 0, 0, 0, (⟨#[]⟩ : ByteArray)⟩⟩ : Ent)]).length : Int), .int .i64 r.hard.term, .int .i64 r.hard.vote, .ref 1880, .ref 5005, .ref 110, .ref 112], .ref 1881, .ref 2260]
    · skip
      refine AW.skip ?_
      refine AW.seq ?_
      refine AW.regionD Try_mix (At.start ?_)
      refine At.a 3 ?_
      refine At.c (spec_l10SendAll_spec  (⟨r.id, r.of_, 3, r.commit, ⟨r.hard.term, r.hard.vote, r.hard.log ++ [(⟨r.hard.term, ⟨1, 0, 0, 0, (⟨#[]⟩ : ByteArray)⟩⟩ : Ent)]⟩, [], List.replicate k ((r.hard.log.length : Int) + 1), (List.replicate k (0 : Int)).set ((r.id).toNat) ((r.hard.log ++ [(⟨r.hard.term, ⟨1, 0, 0, 0, (⟨#[]⟩ : ByteArray)⟩⟩ : Ent)]).length : Int)⟩ : Raft) (by unfold SmallR; simp only [List.length_append, List.length_set, List.length_replicate, List.length_cons, List.length_nil]; omega) (by dsimp only; omega) (by dsimp only; simp only [List.length_replicate]; omega) (nextOk_rep rfl ⟨by omega, by dsimp only; (try simp only [List.length_append]); omega⟩)) Try.call35 false [] [(2260, 0)] [(1880, 6, ((r.hard.log ++ [(⟨r.hard.term, ⟨1, 0, 0, 0, (⟨#[]⟩ : ByteArray)⟩⟩ : Ent)]).map encEnt)), (5005, 1, []), (110, 1, ((List.replicate k ((r.hard.log.length : Int) + 1)).map encI)), (112, 1, (((List.replicate k (0 : Int)).set ((r.id).toNat) ((r.hard.log ++ [(⟨r.hard.term, ⟨1, 0, 0, 0, (⟨#[]⟩ : ByteArray)⟩⟩ : Ent)]).length : Int)).map encI))] ⟨rfl, ⟨88, ((r.hard.log ++ [(⟨r.hard.term, ⟨1, 0, 0, 0, (⟨#[]⟩ : ByteArray)⟩⟩ : Ent)]).map encEnt), by kernel_rfl, FrzIs.same (allP_encEnt _)⟩, rfl, ⟨3, [], by kernel_rfl, FrzIs.same (fun _ h => by cases h)⟩, rfl, ⟨3, ((List.replicate k ((r.hard.log.length : Int) + 1)).map encI), by kernel_rfl, FrzIs.same (allP_encI _)⟩, rfl, ⟨3, (((List.replicate k (0 : Int)).set ((r.id).toNat) ((r.hard.log ++ [(⟨r.hard.term, ⟨1, 0, 0, 0, (⟨#[]⟩ : ByteArray)⟩⟩ : Ent)]).length : Int)).map encI), by kernel_rfl, FrzIs.same (allP_encI _)⟩, trivial⟩ ?_
      refine At.a 3 ?_
      refine At.done rfl ⟨by kernel_rfl, ?_⟩
      refine AW.ret ?_
      refine ⟨_, Sub.refl _ _, ?_⟩
      refine KF.conv (fun w => .tup [.agg [.int .i64 w.id, .int .i64 w.of_, .int .i64 w.role, .int .i64 w.commit, .int .i64 w.hard.term, .int .i64 w.hard.vote, .ref 5, .ref 6, .ref 7, .ref 8], .ref 9, .ref 10]) (fun w => [.arr 88 6 (r.hard.log.map encEnt), .arr 3 1 (r.yes.map encI), .arr 3 1 (r.next.map encI), .arr 3 1 (r.match_.map encI), .dead, .arr 88 6 (w.hard.log.map encEnt), .arr 3 1 (w.yes.map encI), .arr 3 1 (w.next.map encI), .arr 3 1 (w.match_.map encI), .arr 93 10 ((recs ++ leadRecs r).map encRec), .arr 76 17 ((sendAll (leadR r)).map encOut)]) (show ((⟨r.id, r.of_, 3, r.commit, ⟨r.hard.term, r.hard.vote, r.hard.log ++ [(⟨r.hard.term, ⟨1, 0, 0, 0, (⟨#[]⟩ : ByteArray)⟩⟩ : Ent)]⟩, [], List.replicate k ((r.hard.log.length : Int) + 1), (List.replicate k (0 : Int)).set ((r.id).toNat) ((r.hard.log ++ [(⟨r.hard.term, ⟨1, 0, 0, 0, (⟨#[]⟩ : ByteArray)⟩⟩ : Ent)]).length : Int)⟩ : Raft)) = (leadR r) from by obtain rfl : k = r.of_.toNat := (by omega); have hlt2 := hlt; simp [leadR, leadRecs, had, put, lead0, noneE, putRec, hlt2, h1, h2]) ?_
      refine KF.conv (fun w => .tup [.agg [.int .i64 r.id, .int .i64 r.of_, .int .i64 3, .int .i64 r.commit, .int .i64 r.hard.term, .int .i64 r.hard.vote, .ref 5, .ref 6, .ref 7, .ref 8], .ref 9, .ref 10]) (fun w => [.arr 88 6 (r.hard.log.map encEnt), .arr 3 1 (r.yes.map encI), .arr 3 1 (r.next.map encI), .arr 3 1 (r.match_.map encI), .dead, .arr 88 6 ((r.hard.log ++ [(⟨r.hard.term, ⟨1, 0, 0, 0, (⟨#[]⟩ : ByteArray)⟩⟩ : Ent)]).map encEnt), .arr 3 1 [], .arr 3 1 ((List.replicate k ((r.hard.log.length : Int) + 1)).map encI), .arr 3 1 (((List.replicate k (0 : Int)).set ((r.id).toNat) ((r.hard.log ++ [(⟨r.hard.term, ⟨1, 0, 0, 0, (⟨#[]⟩ : ByteArray)⟩⟩ : Ent)]).length : Int)).map encI), .arr 93 10 (w.map encRec), .arr 76 17 ((sendAll (leadR r)).map encOut)]) (show (recs ++ [(⟨2, 0, 0, ((r.hard.log ++ [(⟨r.hard.term, ⟨1, 0, 0, 0, (⟨#[]⟩ : ByteArray)⟩⟩ : Ent)]).length : Int), (⟨r.hard.term, ⟨1, 0, 0, 0, (⟨#[]⟩ : ByteArray)⟩⟩ : Ent)⟩ : Rec)]) = (recs ++ leadRecs r) from by obtain rfl : k = r.of_.toNat := (by omega); have hlt2 := hlt; simp [leadR, leadRecs, had, put, lead0, noneE, putRec, hlt2, h1, h2]) ?_
      refine KF.conv (fun w => .tup [.agg [.int .i64 r.id, .int .i64 r.of_, .int .i64 3, .int .i64 r.commit, .int .i64 r.hard.term, .int .i64 r.hard.vote, .ref 5, .ref 6, .ref 7, .ref 8], .ref 9, .ref 10]) (fun w => [.arr 88 6 (r.hard.log.map encEnt), .arr 3 1 (r.yes.map encI), .arr 3 1 (r.next.map encI), .arr 3 1 (r.match_.map encI), .dead, .arr 88 6 ((r.hard.log ++ [(⟨r.hard.term, ⟨1, 0, 0, 0, (⟨#[]⟩ : ByteArray)⟩⟩ : Ent)]).map encEnt), .arr 3 1 [], .arr 3 1 ((List.replicate k ((r.hard.log.length : Int) + 1)).map encI), .arr 3 1 (((List.replicate k (0 : Int)).set ((r.id).toNat) ((r.hard.log ++ [(⟨r.hard.term, ⟨1, 0, 0, 0, (⟨#[]⟩ : ByteArray)⟩⟩ : Ent)]).length : Int)).map encI), .arr 93 10 ((recs ++ [(⟨2, 0, 0, ((r.hard.log ++ [(⟨r.hard.term, ⟨1, 0, 0, 0, (⟨#[]⟩ : ByteArray)⟩⟩ : Ent)]).length : Int), (⟨r.hard.term, ⟨1, 0, 0, 0, (⟨#[]⟩ : ByteArray)⟩⟩ : Ent)⟩ : Rec)]).map encRec), .arr 76 17 (w.map encOut)]) (show (sendAll (⟨r.id, r.of_, 3, r.commit, ⟨r.hard.term, r.hard.vote, r.hard.log ++ [(⟨r.hard.term, ⟨1, 0, 0, 0, (⟨#[]⟩ : ByteArray)⟩⟩ : Ent)]⟩, [], List.replicate k ((r.hard.log.length : Int) + 1), (List.replicate k (0 : Int)).set ((r.id).toNat) ((r.hard.log ++ [(⟨r.hard.term, ⟨1, 0, 0, 0, (⟨#[]⟩ : ByteArray)⟩⟩ : Ent)]).length : Int)⟩ : Raft)) = (sendAll (leadR r)) from by obtain rfl : k = r.of_.toNat := (by omega); have hlt2 := hlt; simp [leadR, leadRecs, had, put, lead0, noneE, putRec, hlt2, h1, h2]) ?_
      exact KF.m [(0, 0), (1, 1), (2, 2), (3, 3), (4, 4), (1880, 5), (5005, 6), (110, 7), (112, 8), (1881, 9), (2260, 10)] [.agg [.int .i64 r.id, .int .i64 r.of_, .int .i64 3, .int .i64 r.commit, .int .i64 r.hard.term, .int .i64 r.hard.vote, .ref 1880, .ref 5005, .ref 110, .ref 112], .ref 1881, .ref 2260]
set_option maxRecDepth 100000 in
set_option maxHeartbeats 4000000 in
theorem spec_l10Lead_F_spec  (r : Raft) (recs : List Rec) (hz : SmallR r) (ho : 0 ≤ r.of_ ∧ r.of_ ≤ 5) (hi : 0 ≤ r.id ∧ r.id < r.of_) (hr : recs.length ≤ 1000) (hlt : ¬ r.hard.log.length < 80) : FnSpec Try.prog 64 [.agg [.int .i64 r.id, .int .i64 r.of_, .int .i64 r.role, .int .i64 r.commit, .int .i64 r.hard.term, .int .i64 r.hard.vote, .ref 0, .ref 1, .ref 2, .ref 3], .ref 4] [.arr 88 6 (r.hard.log.map encEnt), .arr 3 1 (r.yes.map encI), .arr 3 1 (r.next.map encI), .arr 3 1 (r.match_.map encI), .arr 93 10 (recs.map encRec)] (.tup [.agg [.int .i64 ((leadR r).id), .int .i64 ((leadR r).of_), .int .i64 ((leadR r).role), .int .i64 ((leadR r).commit), .int .i64 ((leadR r).hard.term), .int .i64 ((leadR r).hard.vote), .ref 0, .ref 5, .ref 6, .ref 7], .ref 4, .ref 8]) [.arr 88 6 (r.hard.log.map encEnt), .arr 3 1 (r.yes.map encI), .arr 3 1 (r.next.map encI), .arr 3 1 (r.match_.map encI), .arr 93 10 (recs.map encRec), .arr 3 1 (((leadR r).yes).map encI), .arr 3 1 (((leadR r).next).map encI), .arr 3 1 (((leadR r).match_).map encI), .arr 76 17 ((sendAll (leadR r)).map encOut)] := by
  obtain ⟨z1, z2, z3, z4⟩ := id hz
  refine FnSpec.of 64 Try.func64 rfl Try.ntmps64 (by simp) (AW.weakK ?_)
  refine AW.r ?_
  refine At.a 4 ?_
  refine At.done rfl ?_
  refine AW.seq ?_
  refine AW.weak (Sub.nils [⟨true, 104, some 6, 5001, 88, 6⟩, ⟨true, 104, some 7, 5002, 3, 1⟩, ⟨true, 104, some 8, 5003, 3, 1⟩, ⟨true, 104, some 9, 5004, 3, 1⟩] (by kernel_rfl)) ?_
  refine AW.region (At.start ?_)
  refine At.a 2 ?_
  refine At.done rfl ?_
  refine AW.r ?_
  refine At.a 2 ?_
  refine At.done rfl ?_
  refine AW.seq ?_
  refine AW.weak (Sub.nils [⟨true, 102, some 7, 5005, 3, 1⟩] (by kernel_rfl)) ?_
  refine AW.region (At.start ?_)
  refine At.lit0 (t := 25) (d := 10) (e := 3) (es := 1) (bytes := 8) 110 (by kernel_rfl) (by kernel_rfl) (by kernel_rfl) (by kernel_rfl) ?_
  refine At.a 2 ?_
  refine At.done rfl ?_
  refine AW.r ?_
  refine At.lit0 (t := 25) (d := 12) (e := 3) (es := 1) (bytes := 8) 112 (by kernel_rfl) (by kernel_rfl) (by kernel_rfl) (by kernel_rfl) ?_
  refine At.a 2 ?_
  refine At.done rfl ?_
  refine AW.seq ?_
  refine AW.r ?_
  refine At.a 1 ?_
  refine At.done rfl ?_
  refine AW.block ?_
  refine AW.loopW (fun (k : Nat) => Go.Sy.mk [.un, .ref 4, .ptr 102 0 0, .un, .ptr 104 0 0, .un, .un, .int .i64 (k : Int)] [(0, .arr 88 6 (r.hard.log.map encEnt)), (1, .arr 3 1 (r.yes.map encI)), (2, .arr 3 1 (r.next.map encI)), (3, .arr 3 1 (r.match_.map encI)), (4, .arr 93 10 (recs.map encRec)), (102, .box 35 [.int .i64 r.id, .int .i64 r.of_, .int .i64 3, .int .i64 r.commit, .int .i64 r.hard.term, .int .i64 r.hard.vote, .ref 0, .ref 5005, .ref 110, .ref 112]), (104, .box 35 [.int .i64 0, .int .i64 0, .int .i64 0, .int .i64 0, .int .i64 0, .int .i64 0, .ref 5001, .ref 5002, .ref 5003, .ref 5004]), (110, .arr 3 1 ((List.replicate k ((r.hard.log.length : Int) + 1)).map encI)), (112, .arr 3 1 ((List.replicate k (0 : Int)).map encI)), (5001, .arr 88 6 []), (5002, .arr 3 1 []), (5003, .arr 3 1 []), (5004, .arr 3 1 []), (5005, .arr 3 1 [])]) (fun (k : Nat) => k ≤ r.of_.toNat) (fun (k : Nat) => r.of_.toNat - k) 0 (by omega) (Sub.o [(0, 0), (1, 1), (2, 2), (3, 3), (4, 4), (102, 102), (104, 104), (110, 110), (112, 112), (5001, 5001), (5002, 5002), (5003, 5003), (5004, 5004), (5005, 5005)] [false, true, true, false, true, false, false, true]) ?_
  rintro k hk
  refine AW.seq ?_
  refine AW.r ?_
  refine At.a 4 ?_
  refine At.done rfl ?_
  refine AW.cD ((k : Int) < r.of_) (fun h1 => ?_) (fun h1 => ?_)
  · skip
    refine AW.skip ?_
    refine AW.seq ?_
    refine AW.block ?_
    refine AW.seq ?_
    refine AW.regionD Try_mix (At.start ?_)
    refine At.a 3 ?_
    refine At.c (spec_l10End_spec  (⟨r.id, r.of_, 3, r.commit, r.hard, [], List.replicate k ((r.hard.log.length : Int) + 1), List.replicate k (0 : Int)⟩ : Raft) ) Try.call53 false [] [] [(0, 6, (r.hard.log.map encEnt)), (5005, 1, []), (110, 1, ((List.replicate k ((r.hard.log.length : Int) + 1)).map encI)), (112, 1, ((List.replicate k (0 : Int)).map encI))] ⟨rfl, ⟨88, (r.hard.log.map encEnt), by kernel_rfl, FrzIs.same (allP_encEnt _)⟩, rfl, ⟨3, [], by kernel_rfl, FrzIs.same (fun _ h => by cases h)⟩, rfl, ⟨3, ((List.replicate k ((r.hard.log.length : Int) + 1)).map encI), by kernel_rfl, FrzIs.same (allP_encI _)⟩, rfl, ⟨3, ((List.replicate k (0 : Int)).map encI), by kernel_rfl, FrzIs.same (allP_encI _)⟩, trivial⟩ ?_
    refine At.a 1 ?_
    refine At.sI 24 ((r.hard.log.length : Int) + 1) (by omega) ?_
    refine At.litK (t := 25) (d := 25) (e := 3) (es := 1) (bytes := 8) (n := 1) (parts := #[(0, .tmp 24)]) (88, 6) 125 [] [.int .i64 ((r.hard.log.length : Int) + 1)] [.int .i64 ((r.hard.log.length : Int) + 1)] [.int .i64 0] [.int .i64 ((r.hard.log.length : Int) + 1)] [] (by kernel_rfl) (by kernel_rfl) (by kernel_rfl) (by kernel_rfl) rfl (fun p hp => by cases hp) (by kernel_rfl) ?_
    refine At.append (t := 25) (d := 26) (e := 3) (es := 1) (bytes := 8) (s := .tmp 21) (x := .tmp 25) (S := .ref 110) (T := .ref 125) (xs := ((List.replicate k ((r.hard.log.length : Int) + 1)).map encI)) (ys := (([(r.hard.log.length : Int) + 1]).map encI)) 126 [110] [125] ((List.replicate (k + 1) ((r.hard.log.length : Int) + 1)).map encI) (by kernel_rfl) (by kernel_rfl) (by kernel_rfl) (by kernel_rfl) ⟨by kernel_rfl, rfl⟩ ⟨by kernel_rfl, .inr rfl⟩ (by kernel_rfl) (by kernel_rfl) (by rw [List.replicate_succ', List.map_append]; try rfl) (by simp only [List.length_map, List.length_append, List.length_take, List.length_drop, List.length_replicate, List.length_set, List.length_cons, List.length_nil]; omega) (by simp only [List.length_map, List.length_append, List.length_take, List.length_drop, List.length_replicate, List.length_set, List.length_cons, List.length_nil]; omega) ?_
    refine At.a 2 ?_
    refine At.done rfl ⟨by kernel_rfl, ?_⟩
    refine AW.region (At.start ?_)
    refine At.a 2 ?_
    refine At.litK (t := 25) (d := 30) (e := 3) (es := 1) (bytes := 8) (n := 1) (parts := #[(0, .const (.int .i64 0))]) (88, 6) 130 [] [.int .i64 0] [.int .i64 0] [.int .i64 0] [.int .i64 0] [] (by kernel_rfl) (by kernel_rfl) (by kernel_rfl) (by kernel_rfl) rfl (fun p hp => by cases hp) (by kernel_rfl) ?_
    refine At.append (t := 25) (d := 31) (e := 3) (es := 1) (bytes := 8) (s := .tmp 29) (x := .tmp 30) (S := .ref 112) (T := .ref 130) (xs := ((List.replicate k (0 : Int)).map encI)) (ys := (([0]).map encI)) 131 [112] [130] ((List.replicate (k + 1) (0 : Int)).map encI) (by kernel_rfl) (by kernel_rfl) (by kernel_rfl) (by kernel_rfl) ⟨by kernel_rfl, rfl⟩ ⟨by kernel_rfl, .inr rfl⟩ (by kernel_rfl) (by kernel_rfl) (by rw [List.replicate_succ', List.map_append]; try rfl) (by simp only [List.length_map, List.length_append, List.length_take, List.length_drop, List.length_replicate, List.length_set, List.length_cons, List.length_nil]; omega) (by simp only [List.length_map, List.length_append, List.length_take, List.length_drop, List.length_replicate, List.length_set, List.length_cons, List.length_nil]; omega) ?_
    refine At.a 2 ?_
    refine At.done rfl ?_
    refine AW.region (At.start ?_)
    refine At.a 2 ?_
    refine At.sI 19 ((k : Int) + 1) (by omega) ?_
    refine At.a 1 ?_
    refine At.done rfl ?_
    exact ⟨k + 1, (by omega), (by omega), Sub.o [(0, 0), (1, 1), (2, 2), (3, 3), (4, 4), (102, 102), (104, 104), (126, 110), (131, 112), (5001, 5001), (5002, 5002), (5003, 5003), (5004, 5004), (5005, 5005)] [false, true, true, false, true, false, false, true]⟩
  · skip
    refine AW.exit ?_
    refine AW.seq ?_
    refine AW.r ?_
    refine At.a 1 ?_
    refine At.c (spec_l10End_spec  (⟨r.id, r.of_, 3, r.commit, r.hard, [], List.replicate k ((r.hard.log.length : Int) + 1), List.replicate k (0 : Int)⟩ : Raft) ) Try.call53 false [] [] [(0, 6, (r.hard.log.map encEnt)), (5005, 1, []), (110, 1, ((List.replicate k ((r.hard.log.length : Int) + 1)).map encI)), (112, 1, ((List.replicate k (0 : Int)).map encI))] ⟨rfl, ⟨88, (r.hard.log.map encEnt), by kernel_rfl, FrzIs.same (allP_encEnt _)⟩, rfl, ⟨3, [], by kernel_rfl, FrzIs.same (fun _ h => by cases h)⟩, rfl, ⟨3, ((List.replicate k ((r.hard.log.length : Int) + 1)).map encI), by kernel_rfl, FrzIs.same (allP_encI _)⟩, rfl, ⟨3, ((List.replicate k (0 : Int)).map encI), by kernel_rfl, FrzIs.same (allP_encI _)⟩, trivial⟩ ?_
    refine At.a 1 ?_
    refine At.done rfl ?_
    refine AW.condF (decide ((r.hard.log.length : Int) < 80)) (by kernel_rfl) (decide_eq_false (by omega)) ?_
    refine AW.skip ?_
    refine AW.seq ?_
    refine AW.regionD Try_mix (At.start ?_)
    refine At.a 5 ?_
    refine At.c (spec_l10End_spec  (⟨r.id, r.of_, 3, r.commit, r.hard, [], List.replicate k ((r.hard.log.length : Int) + 1), List.replicate k (0 : Int)⟩ : Raft) ) Try.call53 false [] [] [(0, 6, (r.hard.log.map encEnt)), (5005, 1, []), (110, 1, ((List.replicate k ((r.hard.log.length : Int) + 1)).map encI)), (112, 1, ((List.replicate k (0 : Int)).map encI))] ⟨rfl, ⟨88, (r.hard.log.map encEnt), by kernel_rfl, FrzIs.same (allP_encEnt _)⟩, rfl, ⟨3, [], by kernel_rfl, FrzIs.same (fun _ h => by cases h)⟩, rfl, ⟨3, ((List.replicate k ((r.hard.log.length : Int) + 1)).map encI), by kernel_rfl, FrzIs.same (allP_encI _)⟩, rfl, ⟨3, ((List.replicate k (0 : Int)).map encI), by kernel_rfl, FrzIs.same (allP_encI _)⟩, trivial⟩ ?_
    refine At.iRf 25 53 (.tmp 48) (.tmp 50) 112 ((List.replicate k (0 : Int)).map encI) .i64 r.id 3 1 (by omega) (by simp only [List.length_map, List.length_append, List.length_take, List.length_drop, List.length_replicate, List.length_set, List.length_cons, List.length_nil]; omega) ?_
    refine Exists.elim (show ∃ e, (List.replicate k (0 : Int))[(r.id).toNat]? = some e from ⟨_, List.getElem?_eq_getElem (by simp only [List.length_map, List.length_append, List.length_take, List.length_drop, List.length_replicate, List.length_set, List.length_cons, List.length_nil]; omega)⟩) fun e1 he1 => ?_
    refine At.sEl 3 112 3 1 ((r.id).toNat) 0 (.tmp 53) (.tmp 52) ((List.replicate k (0 : Int)).map encI) (((List.replicate k (0 : Int)).set ((r.id).toNat) (r.hard.log.length : Int)).map encI) [.int .i64 (r.hard.log.length : Int)] (.int .i64 (r.hard.log.length : Int)) (encI e1) (encI (r.hard.log.length : Int)) (mapGet he1) setV ?_
    refine At.done rfl ⟨by kernel_rfl, ?_⟩
    refine AW.seq ?_
    refine AW.r ?_
    refine At.a 3 ?_
    refine At.done rfl ?_
    refine AW.cE r.of_ (1 : Int) (fun h2 => ?_) (fun h2 => ?_)
    · skip
      refine AW.region (At.start ?_)
      refine At.a 1 ?_
      refine At.c (spec_l10End_spec  (⟨r.id, r.of_, 3, r.commit, r.hard, [], List.replicate k ((r.hard.log.length : Int) + 1), (List.replicate k (0 : Int)).set ((r.id).toNat) (r.hard.log.length : Int)⟩ : Raft) ) Try.call53 false [] [] [(0, 6, (r.hard.log.map encEnt)), (5005, 1, []), (110, 1, ((List.replicate k ((r.hard.log.length : Int) + 1)).map encI)), (112, 1, (((List.replicate k (0 : Int)).set ((r.id).toNat) (r.hard.log.length : Int)).map encI))] ⟨rfl, ⟨88, (r.hard.log.map encEnt), by kernel_rfl, FrzIs.same (allP_encEnt _)⟩, rfl, ⟨3, [], by kernel_rfl, FrzIs.same (fun _ h => by cases h)⟩, rfl, ⟨3, ((List.replicate k ((r.hard.log.length : Int) + 1)).map encI), by kernel_rfl, FrzIs.same (allP_encI _)⟩, rfl, ⟨3, (((List.replicate k (0 : Int)).set ((r.id).toNat) (r.hard.log.length : Int)).map encI), by kernel_rfl, FrzIs.same (allP_encI _)⟩, trivial⟩ ?_
      refine At.a 2 ?_
      refine At.done rfl ?_
      refine AW.seq ?_
      refine AW.regionD Try_mix (At.start ?_)
      refine At.a 3 ?_
      refine At.c (spec_l10SendAll_spec  (⟨r.id, r.of_, 3, (r.hard.log.length : Int), r.hard, [], List.replicate k ((r.hard.log.length : Int) + 1), (List.replicate k (0 : Int)).set ((r.id).toNat) (r.hard.log.length : Int)⟩ : Raft) (by unfold SmallR; simp only [List.length_append, List.length_set, List.length_replicate, List.length_cons, List.length_nil]; omega) (by dsimp only; omega) (by dsimp only; simp only [List.length_replicate]; omega) (nextOk_rep rfl ⟨by omega, by dsimp only; (try simp only [List.length_append]); omega⟩)) Try.call35 false [] [(2260, 0)] [(0, 6, (r.hard.log.map encEnt)), (5005, 1, []), (110, 1, ((List.replicate k ((r.hard.log.length : Int) + 1)).map encI)), (112, 1, (((List.replicate k (0 : Int)).set ((r.id).toNat) (r.hard.log.length : Int)).map encI))] ⟨rfl, ⟨88, (r.hard.log.map encEnt), by kernel_rfl, FrzIs.same (allP_encEnt _)⟩, rfl, ⟨3, [], by kernel_rfl, FrzIs.same (fun _ h => by cases h)⟩, rfl, ⟨3, ((List.replicate k ((r.hard.log.length : Int) + 1)).map encI), by kernel_rfl, FrzIs.same (allP_encI _)⟩, rfl, ⟨3, (((List.replicate k (0 : Int)).set ((r.id).toNat) (r.hard.log.length : Int)).map encI), by kernel_rfl, FrzIs.same (allP_encI _)⟩, trivial⟩ ?_
      refine At.a 3 ?_
      refine At.done rfl ⟨by kernel_rfl, ?_⟩
      refine AW.ret ?_
      refine ⟨_, Sub.refl _ _, ?_⟩
      refine KF.conv (fun w => .tup [.agg [.int .i64 w.id, .int .i64 w.of_, .int .i64 w.role, .int .i64 w.commit, .int .i64 w.hard.term, .int .i64 w.hard.vote, .ref 0, .ref 5, .ref 6, .ref 7], .ref 4, .ref 8]) (fun w => [.arr 88 6 (r.hard.log.map encEnt), .arr 3 1 (r.yes.map encI), .arr 3 1 (r.next.map encI), .arr 3 1 (r.match_.map encI), .arr 93 10 (recs.map encRec), .arr 3 1 (w.yes.map encI), .arr 3 1 (w.next.map encI), .arr 3 1 (w.match_.map encI), .arr 76 17 ((sendAll (leadR r)).map encOut)]) (show ((⟨r.id, r.of_, 3, (r.hard.log.length : Int), r.hard, [], List.replicate k ((r.hard.log.length : Int) + 1), (List.replicate k (0 : Int)).set ((r.id).toNat) (r.hard.log.length : Int)⟩ : Raft)) = (leadR r) from by obtain rfl : k = r.of_.toNat := (by omega); have hlt2 := hlt; simp [leadR, leadRecs, had, put, lead0, noneE, putRec, hlt2, h1, h2]) ?_
      refine KF.conv (fun w => .tup [.agg [.int .i64 r.id, .int .i64 r.of_, .int .i64 3, .int .i64 (r.hard.log.length : Int), .int .i64 r.hard.term, .int .i64 r.hard.vote, .ref 0, .ref 5, .ref 6, .ref 7], .ref 4, .ref 8]) (fun w => [.arr 88 6 (r.hard.log.map encEnt), .arr 3 1 (r.yes.map encI), .arr 3 1 (r.next.map encI), .arr 3 1 (r.match_.map encI), .arr 93 10 (recs.map encRec), .arr 3 1 [], .arr 3 1 ((List.replicate k ((r.hard.log.length : Int) + 1)).map encI), .arr 3 1 (((List.replicate k (0 : Int)).set ((r.id).toNat) (r.hard.log.length : Int)).map encI), .arr 76 17 ((sendAll (leadR r)).map encOut)]) (show (recs) = (recs ++ leadRecs r) from by obtain rfl : k = r.of_.toNat := (by omega); have hlt2 := hlt; simp [leadR, leadRecs, had, put, lead0, noneE, putRec, hlt2, h1, h2]) ?_
      refine KF.conv (fun w => .tup [.agg [.int .i64 r.id, .int .i64 r.of_, .int .i64 3, .int .i64 (r.hard.log.length : Int), .int .i64 r.hard.term, .int .i64 r.hard.vote, .ref 0, .ref 5, .ref 6, .ref 7], .ref 4, .ref 8]) (fun w => [.arr 88 6 (r.hard.log.map encEnt), .arr 3 1 (r.yes.map encI), .arr 3 1 (r.next.map encI), .arr 3 1 (r.match_.map encI), .arr 93 10 (recs.map encRec), .arr 3 1 [], .arr 3 1 ((List.replicate k ((r.hard.log.length : Int) + 1)).map encI), .arr 3 1 (((List.replicate k (0 : Int)).set ((r.id).toNat) (r.hard.log.length : Int)).map encI), .arr 76 17 (w.map encOut)]) (show (sendAll (⟨r.id, r.of_, 3, (r.hard.log.length : Int), r.hard, [], List.replicate k ((r.hard.log.length : Int) + 1), (List.replicate k (0 : Int)).set ((r.id).toNat) (r.hard.log.length : Int)⟩ : Raft)) = (sendAll (leadR r)) from by obtain rfl : k = r.of_.toNat := (by omega); have hlt2 := hlt; simp [leadR, leadRecs, had, put, lead0, noneE, putRec, hlt2, h1, h2]) ?_
      exact KF.m [(0, 0), (1, 1), (2, 2), (3, 3), (4, 4), (5005, 5), (110, 6), (112, 7), (2260, 8)] [.agg [.int .i64 r.id, .int .i64 r.of_, .int .i64 3, .int .i64 (r.hard.log.length : Int), .int .i64 r.hard.term, .int .i64 r.hard.vote, .ref 0, .ref 5005, .ref 110, .ref 112], .ref 4, .ref 2260]
    · skip
      refine AW.skip ?_
      refine AW.seq ?_
      refine AW.regionD Try_mix (At.start ?_)
      refine At.a 3 ?_
      refine At.c (spec_l10SendAll_spec  (⟨r.id, r.of_, 3, r.commit, r.hard, [], List.replicate k ((r.hard.log.length : Int) + 1), (List.replicate k (0 : Int)).set ((r.id).toNat) (r.hard.log.length : Int)⟩ : Raft) (by unfold SmallR; simp only [List.length_append, List.length_set, List.length_replicate, List.length_cons, List.length_nil]; omega) (by dsimp only; omega) (by dsimp only; simp only [List.length_replicate]; omega) (nextOk_rep rfl ⟨by omega, by dsimp only; (try simp only [List.length_append]); omega⟩)) Try.call35 false [] [(2260, 0)] [(0, 6, (r.hard.log.map encEnt)), (5005, 1, []), (110, 1, ((List.replicate k ((r.hard.log.length : Int) + 1)).map encI)), (112, 1, (((List.replicate k (0 : Int)).set ((r.id).toNat) (r.hard.log.length : Int)).map encI))] ⟨rfl, ⟨88, (r.hard.log.map encEnt), by kernel_rfl, FrzIs.same (allP_encEnt _)⟩, rfl, ⟨3, [], by kernel_rfl, FrzIs.same (fun _ h => by cases h)⟩, rfl, ⟨3, ((List.replicate k ((r.hard.log.length : Int) + 1)).map encI), by kernel_rfl, FrzIs.same (allP_encI _)⟩, rfl, ⟨3, (((List.replicate k (0 : Int)).set ((r.id).toNat) (r.hard.log.length : Int)).map encI), by kernel_rfl, FrzIs.same (allP_encI _)⟩, trivial⟩ ?_
      refine At.a 3 ?_
      refine At.done rfl ⟨by kernel_rfl, ?_⟩
      refine AW.ret ?_
      refine ⟨_, Sub.refl _ _, ?_⟩
      refine KF.conv (fun w => .tup [.agg [.int .i64 w.id, .int .i64 w.of_, .int .i64 w.role, .int .i64 w.commit, .int .i64 w.hard.term, .int .i64 w.hard.vote, .ref 0, .ref 5, .ref 6, .ref 7], .ref 4, .ref 8]) (fun w => [.arr 88 6 (r.hard.log.map encEnt), .arr 3 1 (r.yes.map encI), .arr 3 1 (r.next.map encI), .arr 3 1 (r.match_.map encI), .arr 93 10 (recs.map encRec), .arr 3 1 (w.yes.map encI), .arr 3 1 (w.next.map encI), .arr 3 1 (w.match_.map encI), .arr 76 17 ((sendAll (leadR r)).map encOut)]) (show ((⟨r.id, r.of_, 3, r.commit, r.hard, [], List.replicate k ((r.hard.log.length : Int) + 1), (List.replicate k (0 : Int)).set ((r.id).toNat) (r.hard.log.length : Int)⟩ : Raft)) = (leadR r) from by obtain rfl : k = r.of_.toNat := (by omega); have hlt2 := hlt; simp [leadR, leadRecs, had, put, lead0, noneE, putRec, hlt2, h1, h2]) ?_
      refine KF.conv (fun w => .tup [.agg [.int .i64 r.id, .int .i64 r.of_, .int .i64 3, .int .i64 r.commit, .int .i64 r.hard.term, .int .i64 r.hard.vote, .ref 0, .ref 5, .ref 6, .ref 7], .ref 4, .ref 8]) (fun w => [.arr 88 6 (r.hard.log.map encEnt), .arr 3 1 (r.yes.map encI), .arr 3 1 (r.next.map encI), .arr 3 1 (r.match_.map encI), .arr 93 10 (recs.map encRec), .arr 3 1 [], .arr 3 1 ((List.replicate k ((r.hard.log.length : Int) + 1)).map encI), .arr 3 1 (((List.replicate k (0 : Int)).set ((r.id).toNat) (r.hard.log.length : Int)).map encI), .arr 76 17 ((sendAll (leadR r)).map encOut)]) (show (recs) = (recs ++ leadRecs r) from by obtain rfl : k = r.of_.toNat := (by omega); have hlt2 := hlt; simp [leadR, leadRecs, had, put, lead0, noneE, putRec, hlt2, h1, h2]) ?_
      refine KF.conv (fun w => .tup [.agg [.int .i64 r.id, .int .i64 r.of_, .int .i64 3, .int .i64 r.commit, .int .i64 r.hard.term, .int .i64 r.hard.vote, .ref 0, .ref 5, .ref 6, .ref 7], .ref 4, .ref 8]) (fun w => [.arr 88 6 (r.hard.log.map encEnt), .arr 3 1 (r.yes.map encI), .arr 3 1 (r.next.map encI), .arr 3 1 (r.match_.map encI), .arr 93 10 (recs.map encRec), .arr 3 1 [], .arr 3 1 ((List.replicate k ((r.hard.log.length : Int) + 1)).map encI), .arr 3 1 (((List.replicate k (0 : Int)).set ((r.id).toNat) (r.hard.log.length : Int)).map encI), .arr 76 17 (w.map encOut)]) (show (sendAll (⟨r.id, r.of_, 3, r.commit, r.hard, [], List.replicate k ((r.hard.log.length : Int) + 1), (List.replicate k (0 : Int)).set ((r.id).toNat) (r.hard.log.length : Int)⟩ : Raft)) = (sendAll (leadR r)) from by obtain rfl : k = r.of_.toNat := (by omega); have hlt2 := hlt; simp [leadR, leadRecs, had, put, lead0, noneE, putRec, hlt2, h1, h2]) ?_
      exact KF.m [(0, 0), (1, 1), (2, 2), (3, 3), (4, 4), (5005, 5), (110, 6), (112, 7), (2260, 8)] [.agg [.int .i64 r.id, .int .i64 r.of_, .int .i64 3, .int .i64 r.commit, .int .i64 r.hard.term, .int .i64 r.hard.vote, .ref 0, .ref 5005, .ref 110, .ref 112], .ref 4, .ref 2260]
set_option maxRecDepth 100000 in
set_option maxHeartbeats 4000000 in
theorem spec_l10Asks_spec  (r : Raft) (hz : SmallR r) (ho : 0 ≤ r.of_ ∧ r.of_ ≤ 5) : FnSpec Try.prog 36 [.agg [.int .i64 r.id, .int .i64 r.of_, .int .i64 r.role, .int .i64 r.commit, .int .i64 r.hard.term, .int .i64 r.hard.vote, .sl false 6 (r.hard.log.map encEnt), .sl false 1 (r.yes.map encI), .sl false 1 (r.next.map encI), .sl false 1 (r.match_.map encI)]] [] (.ref 0) [.arr 76 17 ((asks r).map encOut)] := by
  obtain ⟨z1, z2, z3, z4⟩ := id hz
  refine FnSpec.of 42 Try.func36 rfl Try.ntmps36 (by simp) (AW.weakK ?_)
  refine AW.r ?_
  refine At.a 2 ?_
  refine At.done rfl ?_
  refine AW.r ?_
  refine At.lit0 (t := 29) (d := 5) (e := 76) (es := 17) (bytes := 168) 105 (by kernel_rfl) (by kernel_rfl) (by kernel_rfl) (by kernel_rfl) ?_
  refine At.a 1 ?_
  refine At.done rfl ?_
  refine AW.seq ?_
  refine AW.r ?_
  refine At.a 1 ?_
  refine At.done rfl ?_
  refine AW.block ?_
  refine AW.loopW (fun (x : Nat × List Out) => match x with | (k, o) => Go.Sy.mk [.un, .ptr 101 0 0, .un, .ref 105, .int .i64 (k : Int)] [(101, .box 35 [.int .i64 r.id, .int .i64 r.of_, .int .i64 r.role, .int .i64 r.commit, .int .i64 r.hard.term, .int .i64 r.hard.vote, .sl false 6 (r.hard.log.map encEnt), .sl false 1 (r.yes.map encI), .sl false 1 (r.next.map encI), .sl false 1 (r.match_.map encI)]), (105, .arr 76 17 (o.map encOut))]) (fun (x : Nat × List Out) => match x with | (k, o) => (k : Int) ≤ r.of_ ∧ o = askUp r k) (fun (x : Nat × List Out) => match x with | (k, o) => r.of_.toNat - k) (0, []) ⟨by omega, by simp [askUp]⟩ (Sub.o [(101, 101), (105, 105)] [false, true, false, true, true]) ?_
  rintro ⟨k, o⟩ ⟨hk, hR⟩
  have hlen := askUp_len r k
  have hlen2 := congrArg List.length hR
  try rw [List.length_append] at hlen2
  refine AW.seq ?_
  refine AW.r ?_
  refine At.a 4 ?_
  refine At.done rfl ?_
  refine AW.cD ((k : Int) < r.of_) (fun h1 => ?_) (fun h1 => ?_)
  · skip
    refine AW.skip ?_
    refine AW.seq ?_
    refine AW.block ?_
    refine AW.r ?_
    refine At.a 5 ?_
    by_cases h2 : (k : Int) = r.id
    · refine At.sB 16 ((k : Int) != r.id) false (sayUF h2) ?_
      refine At.a 6 ?_
      refine At.done rfl ?_
      refine AW.cond false (by kernel_rfl) (fun h => by cases h) (fun _ => ?_)
      refine AW.skip ?_
      refine AW.region (At.start ?_)
      refine At.a 2 ?_
      refine At.sI 11 ((k : Int) + 1) (by omega) ?_
      refine At.a 1 ?_
      refine At.done rfl ?_
      exact ⟨(k + 1, o), ⟨by omega, by rw [hR, askUp, if_pos (by grind)]; simp⟩, (by simp only; omega), Sub.o [(101, 101), (105, 105)] [false, true, false, true, true]⟩
    · refine At.sB 16 ((k : Int) != r.id) true (sayUT h2) ?_
      refine At.a 3 ?_
      refine At.c (spec_l7Has_spec  r.yes (k : Int) (by omega)) Try.call81 true [] [] [] trivial ?_
      refine At.a 2 ?_
      refine At.done rfl ?_
      refine AW.cNB (hasI (k : Int) r.yes) (fun h3 => ?_) (fun h3 => ?_)
      · skip
        refine AW.regionD Try_mix (At.start ?_)
        refine At.a 8 ?_
        refine At.c (spec_l10End_spec  r ) Try.call53 true [] [] [] trivial ?_
        refine At.a 3 ?_
        refine At.c (spec_l10End_spec  r ) Try.call53 true [] [] [] trivial ?_
        refine At.c (spec_l10Term_spec  r.hard (r.hard.log.length : Int) (by omega)) Try.call69 true [] [] [] trivial ?_
        refine At.a 2 ?_
        refine At.litK (t := 29) (d := 39) (e := 76) (es := 17) (bytes := 168) (n := 1) (parts := #[(0, .tmp 38)]) (88, 6) 139 [] [.int .i64 (k : Int), .int .i64 1, .int .i64 r.id, .int .i64 r.hard.term, .int .i64 (r.hard.log.length : Int), .int .i64 (termAt r.hard.log (r.hard.log.length : Int)), .int .i64 0, .bool false, .int .i64 0, .int .i64 0, .str (⟨#[]⟩ : ByteArray), .int .i64 0, .int .i64 0, .int .i64 0, .int .i64 0, .str (⟨#[]⟩ : ByteArray), .nil] [.int .i64 (k : Int), .int .i64 1, .int .i64 r.id, .int .i64 r.hard.term, .int .i64 (r.hard.log.length : Int), .int .i64 (termAt r.hard.log (r.hard.log.length : Int)), .int .i64 0, .bool false, .int .i64 0, .int .i64 0, .str (⟨#[]⟩ : ByteArray), .int .i64 0, .int .i64 0, .int .i64 0, .int .i64 0, .str (⟨#[]⟩ : ByteArray), .own 88 6 []] [.int .i64 0, .int .i64 0, .int .i64 0, .int .i64 0, .int .i64 0, .int .i64 0, .int .i64 0, .bool false, .int .i64 0, .int .i64 0, .str (⟨#[]⟩ : ByteArray), .int .i64 0, .int .i64 0, .int .i64 0, .int .i64 0, .str (⟨#[]⟩ : ByteArray), .nil] [.agg [.int .i64 (k : Int), .int .i64 1, .int .i64 r.id, .int .i64 r.hard.term, .int .i64 (r.hard.log.length : Int), .int .i64 (termAt r.hard.log (r.hard.log.length : Int)), .int .i64 0, .bool false, .int .i64 0, .int .i64 0, .str (⟨#[]⟩ : ByteArray), .int .i64 0, .int .i64 0, .int .i64 0, .int .i64 0, .str (⟨#[]⟩ : ByteArray), .own 88 6 []]] [] (by kernel_rfl) (by kernel_rfl) (by kernel_rfl) (by kernel_rfl) rfl (fun p hp => by cases hp) (by kernel_rfl) ?_
        refine At.append (t := 29) (d := 40) (e := 76) (es := 17) (bytes := 168) (s := .tmp 23) (x := .tmp 39) (S := .ref 105) (T := .ref 139) (xs := (o.map encOut)) (ys := (([(⟨(k : Int), ⟨1, r.id, r.hard.term, (r.hard.log.length : Int), termAt r.hard.log (r.hard.log.length : Int), 0, false, 0, 0, (⟨#[]⟩ : ByteArray), ⟨0, 0, 0, 0, (⟨#[]⟩ : ByteArray)⟩, []⟩⟩ : Out)]).map encOut)) 140 [105] [139] ((o ++ ([(⟨(k : Int), ⟨1, r.id, r.hard.term, (r.hard.log.length : Int), termAt r.hard.log (r.hard.log.length : Int), 0, false, 0, 0, (⟨#[]⟩ : ByteArray), ⟨0, 0, 0, 0, (⟨#[]⟩ : ByteArray)⟩, []⟩⟩ : Out)])).map encOut) (by kernel_rfl) (by kernel_rfl) (by kernel_rfl) (by kernel_rfl) ⟨by kernel_rfl, rfl⟩ ⟨by kernel_rfl, .inr rfl⟩ (by kernel_rfl) (by kernel_rfl) (by simp) (by simp only [List.length_map, List.length_append, List.length_take, List.length_drop, List.length_replicate, List.length_set, List.length_cons, List.length_nil]; omega) (by simp only [List.length_map, List.length_append, List.length_take, List.length_drop, List.length_replicate, List.length_set, List.length_cons, List.length_nil]; omega) ?_
        refine At.a 1 ?_
        refine At.done rfl ⟨by kernel_rfl, ?_⟩
        refine AW.region (At.start ?_)
        refine At.a 2 ?_
        refine At.sI 11 ((k : Int) + 1) (by omega) ?_
        refine At.a 1 ?_
        refine At.done rfl ?_
        exact ⟨(k + 1, (o ++ ([(⟨(k : Int), ⟨1, r.id, r.hard.term, (r.hard.log.length : Int), termAt r.hard.log (r.hard.log.length : Int), 0, false, 0, 0, (⟨#[]⟩ : ByteArray), ⟨0, 0, 0, 0, (⟨#[]⟩ : ByteArray)⟩, []⟩⟩ : Out)]))), ⟨by omega, by rw [hR, askUp, if_neg (by grind)]; (try rw [termAt_end]); first | rfl | exact List.append_assoc _ _ _⟩, (by simp only; omega), Sub.o [(101, 101), (140, 105)] [false, true, false, true, true]⟩
      · skip
        refine AW.skip ?_
        refine AW.region (At.start ?_)
        refine At.a 2 ?_
        refine At.sI 11 ((k : Int) + 1) (by omega) ?_
        refine At.a 1 ?_
        refine At.done rfl ?_
        exact ⟨(k + 1, o), ⟨by omega, by rw [hR, askUp, if_pos (by grind)]; simp⟩, (by simp only; omega), Sub.o [(101, 101), (105, 105)] [false, true, false, true, true]⟩
  · skip
    refine AW.exit ?_
    refine AW.r ?_
    refine At.a 2 ?_
    refine At.done rfl ?_
    refine AW.ret ?_
    refine ⟨_, Sub.refl _ _, ?_⟩
    refine KF.conv (fun w => .ref 0) (fun w => [.arr 76 17 (w.map encOut)]) (show (o) = (asks r) from by rw [hR, asks, show r.of_.toNat = k from by omega]) ?_
    exact KF.m [(105, 0)] [.ref 105]
set_option maxRecDepth 100000 in
set_option maxHeartbeats 4000000 in
theorem spec_RaftStand_spec  (r : Raft) (hz : SmallR r) : FnSpec Try.prog 24 [.agg [.int .i64 r.id, .int .i64 r.of_, .int .i64 r.role, .int .i64 r.commit, .int .i64 r.hard.term, .int .i64 r.hard.vote, .sl false 6 (r.hard.log.map encEnt), .sl false 1 (r.yes.map encI), .sl false 1 (r.next.map encI), .sl false 1 (r.match_.map encI)]] [] (.tup [.agg [.int .i64 (((stands r).1).id), .int .i64 (((stands r).1).of_), .int .i64 (((stands r).1).role), .int .i64 (((stands r).1).commit), .int .i64 (((stands r).1).hard.term), .int .i64 (((stands r).1).hard.vote), .ref 0, .ref 1, .ref 2, .ref 3], .ref 4, .ref 5]) [.arr 88 6 ((((stands r).1).hard.log).map encEnt), .arr 3 1 ((((stands r).1).yes).map encI), .arr 3 1 ((((stands r).1).next).map encI), .arr 3 1 ((((stands r).1).match_).map encI), .arr 93 10 (((stands r).2.1).map encRec), .arr 76 17 (((stands r).2.2).map encOut)] := by
  obtain ⟨z1, z2, z3, z4⟩ := id hz
  refine FnSpec.of 58 Try.func24 rfl Try.ntmps24 (by simp) (AW.weakK ?_)
  by_cases hok : raftOk r = true
  · skip
    have hokn := raftOk1_nums (raftOk_1 hok)
    refine AW.r ?_
    refine At.a 4 ?_
    refine At.done rfl ?_
    refine AW.seq ?_
    refine AW.weak (Sub.nils [⟨true, 102, some 6, 5001, 88, 6⟩, ⟨true, 102, some 7, 5002, 3, 1⟩, ⟨true, 102, some 8, 5003, 3, 1⟩, ⟨true, 102, some 9, 5004, 3, 1⟩] (by kernel_rfl)) ?_
    refine AW.region (At.start ?_)
    refine At.a 1 ?_
    refine At.c (spec_l10Same_T_spec  r (by exact hz) hok) Try.call51 true [] [(1160, 0), (1161, 1), (1162, 2), (1163, 3)] [] trivial ?_
    refine At.lit0 (t := 45) (d := 9) (e := 93) (es := 10) (bytes := 88) 109 (by kernel_rfl) (by kernel_rfl) (by kernel_rfl) (by kernel_rfl) ?_
    refine At.a 3 ?_
    refine At.done rfl ?_
    refine AW.seq ?_
    refine AW.r ?_
    refine At.a 1 ?_
    refine At.c (spec_RaftOk_spec  r (by exact hz)) Try.call34 true [] [] [] trivial ?_
    refine At.a 2 ?_
    refine At.sB 13 (!(raftOk r)) false (sayB (by rw [show (raftOk r) = true from hok]; rfl)) ?_
    refine At.a 5 ?_
    by_cases h1 : r.role = 3
    · refine At.sB 18 (r.role == 3) true (sayET h1) ?_
      refine At.a 5 ?_
      refine At.done rfl ?_
      refine AW.cond true (by kernel_rfl) (fun _ => ?_) (fun h => by cases h)
      refine AW.r ?_
      refine At.a 2 ?_
      refine At.lit0 (t := 29) (d := 26) (e := 76) (es := 17) (bytes := 168) 126 (by kernel_rfl) (by kernel_rfl) (by kernel_rfl) (by kernel_rfl) ?_
      refine At.a 3 ?_
      refine At.done rfl ?_
      refine AW.ret ?_
      refine ⟨_, Sub.refl _ _, ?_⟩
      refine KF.conv (fun w => .tup [.agg [.int .i64 w.id, .int .i64 w.of_, .int .i64 w.role, .int .i64 w.commit, .int .i64 w.hard.term, .int .i64 w.hard.vote, .ref 0, .ref 1, .ref 2, .ref 3], .ref 4, .ref 5]) (fun w => [.arr 88 6 (w.hard.log.map encEnt), .arr 3 1 (w.yes.map encI), .arr 3 1 (w.next.map encI), .arr 3 1 (w.match_.map encI), .arr 93 10 (((stands r).2.1).map encRec), .arr 76 17 (((stands r).2.2).map encOut)]) (show (r) = ((stands r).1) from by have q : ¬ (raftOk r = true ∧ r.role ≠ 3 ∧ r.hard.term ≠ 1000000000) := (by rintro ⟨_, q1, q2⟩; omega); rw [stands, if_neg q]; (try simp [same, hok])) ?_
      refine KF.conv (fun w => .tup [.agg [.int .i64 r.id, .int .i64 r.of_, .int .i64 r.role, .int .i64 r.commit, .int .i64 r.hard.term, .int .i64 r.hard.vote, .ref 0, .ref 1, .ref 2, .ref 3], .ref 4, .ref 5]) (fun w => [.arr 88 6 (r.hard.log.map encEnt), .arr 3 1 (r.yes.map encI), .arr 3 1 (r.next.map encI), .arr 3 1 (r.match_.map encI), .arr 93 10 (w.map encRec), .arr 76 17 (((stands r).2.2).map encOut)]) (show ([]) = ((stands r).2.1) from by have q : ¬ (raftOk r = true ∧ r.role ≠ 3 ∧ r.hard.term ≠ 1000000000) := (by rintro ⟨_, q1, q2⟩; omega); rw [stands, if_neg q]; (try simp [same, hok])) ?_
      refine KF.conv (fun w => .tup [.agg [.int .i64 r.id, .int .i64 r.of_, .int .i64 r.role, .int .i64 r.commit, .int .i64 r.hard.term, .int .i64 r.hard.vote, .ref 0, .ref 1, .ref 2, .ref 3], .ref 4, .ref 5]) (fun w => [.arr 88 6 (r.hard.log.map encEnt), .arr 3 1 (r.yes.map encI), .arr 3 1 (r.next.map encI), .arr 3 1 (r.match_.map encI), .arr 93 10 [], .arr 76 17 (w.map encOut)]) (show ([]) = ((stands r).2.2) from by have q : ¬ (raftOk r = true ∧ r.role ≠ 3 ∧ r.hard.term ≠ 1000000000) := (by rintro ⟨_, q1, q2⟩; omega); rw [stands, if_neg q]; (try simp [same, hok])) ?_
      exact KF.m [(1160, 0), (1161, 1), (1162, 2), (1163, 3), (109, 4), (126, 5)] [.agg [.int .i64 r.id, .int .i64 r.of_, .int .i64 r.role, .int .i64 r.commit, .int .i64 r.hard.term, .int .i64 r.hard.vote, .ref 1160, .ref 1161, .ref 1162, .ref 1163], .ref 109, .ref 126]
    · refine At.sB 18 (r.role == 3) false (sayEF h1) ?_
      refine At.a 5 ?_
      refine At.done rfl ?_
      refine AW.cE r.hard.term (1000000000 : Int) (fun h2 => ?_) (fun h2 => ?_)
      · skip
        refine AW.r ?_
        refine At.a 2 ?_
        refine At.lit0 (t := 29) (d := 26) (e := 76) (es := 17) (bytes := 168) 126 (by kernel_rfl) (by kernel_rfl) (by kernel_rfl) (by kernel_rfl) ?_
        refine At.a 3 ?_
        refine At.done rfl ?_
        refine AW.ret ?_
        refine ⟨_, Sub.refl _ _, ?_⟩
        refine KF.conv (fun w => .tup [.agg [.int .i64 w.id, .int .i64 w.of_, .int .i64 w.role, .int .i64 w.commit, .int .i64 w.hard.term, .int .i64 w.hard.vote, .ref 0, .ref 1, .ref 2, .ref 3], .ref 4, .ref 5]) (fun w => [.arr 88 6 (w.hard.log.map encEnt), .arr 3 1 (w.yes.map encI), .arr 3 1 (w.next.map encI), .arr 3 1 (w.match_.map encI), .arr 93 10 (((stands r).2.1).map encRec), .arr 76 17 (((stands r).2.2).map encOut)]) (show (r) = ((stands r).1) from by have q : ¬ (raftOk r = true ∧ r.role ≠ 3 ∧ r.hard.term ≠ 1000000000) := (by rintro ⟨_, q1, q2⟩; omega); rw [stands, if_neg q]; (try simp [same, hok])) ?_
        refine KF.conv (fun w => .tup [.agg [.int .i64 r.id, .int .i64 r.of_, .int .i64 r.role, .int .i64 r.commit, .int .i64 r.hard.term, .int .i64 r.hard.vote, .ref 0, .ref 1, .ref 2, .ref 3], .ref 4, .ref 5]) (fun w => [.arr 88 6 (r.hard.log.map encEnt), .arr 3 1 (r.yes.map encI), .arr 3 1 (r.next.map encI), .arr 3 1 (r.match_.map encI), .arr 93 10 (w.map encRec), .arr 76 17 (((stands r).2.2).map encOut)]) (show ([]) = ((stands r).2.1) from by have q : ¬ (raftOk r = true ∧ r.role ≠ 3 ∧ r.hard.term ≠ 1000000000) := (by rintro ⟨_, q1, q2⟩; omega); rw [stands, if_neg q]; (try simp [same, hok])) ?_
        refine KF.conv (fun w => .tup [.agg [.int .i64 r.id, .int .i64 r.of_, .int .i64 r.role, .int .i64 r.commit, .int .i64 r.hard.term, .int .i64 r.hard.vote, .ref 0, .ref 1, .ref 2, .ref 3], .ref 4, .ref 5]) (fun w => [.arr 88 6 (r.hard.log.map encEnt), .arr 3 1 (r.yes.map encI), .arr 3 1 (r.next.map encI), .arr 3 1 (r.match_.map encI), .arr 93 10 [], .arr 76 17 (w.map encOut)]) (show ([]) = ((stands r).2.2) from by have q : ¬ (raftOk r = true ∧ r.role ≠ 3 ∧ r.hard.term ≠ 1000000000) := (by rintro ⟨_, q1, q2⟩; omega); rw [stands, if_neg q]; (try simp [same, hok])) ?_
        exact KF.m [(1160, 0), (1161, 1), (1162, 2), (1163, 3), (109, 4), (126, 5)] [.agg [.int .i64 r.id, .int .i64 r.of_, .int .i64 r.role, .int .i64 r.commit, .int .i64 r.hard.term, .int .i64 r.hard.vote, .ref 1160, .ref 1161, .ref 1162, .ref 1163], .ref 109, .ref 126]
      · skip
        refine AW.skip ?_
        refine AW.r ?_
        refine At.a 4 ?_
        refine At.sI 30 (r.hard.term + 1) (by omega) ?_
        refine At.a 3 ?_
        refine At.done rfl ?_
        refine AW.r ?_
        refine At.a 3 ?_
        refine At.sI 35 (r.id + 1) (by omega) ?_
        refine At.a 3 ?_
        refine At.done rfl ?_
        refine AW.r ?_
        refine At.a 2 ?_
        refine At.done rfl ?_
        refine AW.r ?_
        refine At.a 2 ?_
        refine At.done rfl ?_
        refine AW.seq ?_
        refine AW.weak (Sub.nils [⟨true, 105, some 7, 5005, 3, 1⟩] (by kernel_rfl)) ?_
        refine AW.region (At.start ?_)
        refine At.a 2 ?_
        refine At.c (spec_l10Vote_spec  (⟨r.id, r.of_, 2, r.commit, ⟨r.hard.term + 1, r.id + 1, r.hard.log⟩, [], r.next, r.match_⟩ : Raft) ) Try.call63 false [] [] [(1160, 6, (r.hard.log.map encEnt)), (5005, 1, []), (1162, 1, (r.next.map encI)), (1163, 1, (r.match_.map encI))] ⟨rfl, ⟨88, (r.hard.log.map encEnt), by kernel_rfl, FrzIs.same (allP_encEnt _)⟩, rfl, ⟨3, [], by kernel_rfl, FrzIs.same (fun _ h => by cases h)⟩, rfl, ⟨3, (r.next.map encI), by kernel_rfl, FrzIs.same (allP_encI _)⟩, rfl, ⟨3, (r.match_.map encI), by kernel_rfl, FrzIs.same (allP_encI _)⟩, trivial⟩ ?_
        refine At.litK (t := 45) (d := 43) (e := 93) (es := 10) (bytes := 88) (n := 1) (parts := #[(0, .tmp 42)]) (88, 6) 143 [] [.int .i64 1, .int .i64 (r.hard.term + 1), .int .i64 (r.id + 1), .int .i64 0, .int .i64 0, .int .i64 0, .int .i64 0, .int .i64 0, .int .i64 0, .str (⟨#[]⟩ : ByteArray)] [.int .i64 1, .int .i64 (r.hard.term + 1), .int .i64 (r.id + 1), .int .i64 0, .int .i64 0, .int .i64 0, .int .i64 0, .int .i64 0, .int .i64 0, .str (⟨#[]⟩ : ByteArray)] [.int .i64 0, .int .i64 0, .int .i64 0, .int .i64 0, .int .i64 0, .int .i64 0, .int .i64 0, .int .i64 0, .int .i64 0, .str (⟨#[]⟩ : ByteArray)] [.agg [.int .i64 1, .int .i64 (r.hard.term + 1), .int .i64 (r.id + 1), .int .i64 0, .int .i64 0, .int .i64 0, .int .i64 0, .int .i64 0, .int .i64 0, .str (⟨#[]⟩ : ByteArray)]] [] (by kernel_rfl) (by kernel_rfl) (by kernel_rfl) (by kernel_rfl) rfl (fun p hp => by cases hp) (by kernel_rfl) ?_
        refine At.append (t := 45) (d := 44) (e := 93) (es := 10) (bytes := 88) (s := .tmp 40) (x := .tmp 43) (S := .ref 109) (T := .ref 143) (xs := []) (ys := (([(⟨1, (r.hard.term + 1), (r.id + 1), 0, ⟨0, ⟨0, 0, 0, 0, (⟨#[]⟩ : ByteArray)⟩⟩⟩ : Rec)]).map encRec)) 144 [109] [143] (([(⟨1, (r.hard.term + 1), (r.id + 1), 0, ⟨0, ⟨0, 0, 0, 0, (⟨#[]⟩ : ByteArray)⟩⟩⟩ : Rec)]).map encRec) (by kernel_rfl) (by kernel_rfl) (by kernel_rfl) (by kernel_rfl) ⟨by kernel_rfl, rfl⟩ ⟨by kernel_rfl, .inr rfl⟩ (by kernel_rfl) (by kernel_rfl) (by simp) (by simp only [List.length_map, List.length_append, List.length_take, List.length_drop, List.length_replicate, List.length_set, List.length_cons, List.length_nil]; omega) (by simp only [List.length_map, List.length_append, List.length_take, List.length_drop, List.length_replicate, List.length_set, List.length_cons, List.length_nil]; omega) ?_
        refine At.a 1 ?_
        refine At.done rfl ?_
        refine AW.seq ?_
        refine AW.r ?_
        refine At.a 3 ?_
        refine At.done rfl ?_
        refine AW.cE r.of_ (1 : Int) (fun h3 => ?_) (fun h3 => ?_)
        · skip
          refine AW.r ?_
          refine At.a 2 ?_
          by_cases h4 : r.hard.log.length < 80
          · skip
            refine At.c (spec_l10Lead_T_spec  (⟨r.id, r.of_, 2, r.commit, ⟨r.hard.term + 1, r.id + 1, r.hard.log⟩, [], r.next, r.match_⟩ : Raft) ([(⟨1, (r.hard.term + 1), (r.id + 1), 0, ⟨0, ⟨0, 0, 0, 0, (⟨#[]⟩ : ByteArray)⟩⟩⟩ : Rec)]) (by unfold SmallR; simp only [List.length_nil]; omega) (by dsimp only; omega) (by dsimp only; omega) (by simp only [List.length_map, List.length_append, List.length_take, List.length_drop, List.length_replicate, List.length_set, List.length_cons, List.length_nil]; omega) h4) Try.call64 true [(1160, 0), (5005, 1), (1162, 2), (1163, 3), (144, 4)] [(2000, 5), (2001, 6), (2002, 7), (2003, 8), (2004, 9), (2005, 10)] [] trivial ?_
            refine At.a 6 ?_
            refine At.done rfl ?_
            refine AW.ret ?_
            refine ⟨_, Sub.refl _ _, ?_⟩
            refine KF.conv (fun w => .tup [.agg [.int .i64 w.id, .int .i64 w.of_, .int .i64 w.role, .int .i64 w.commit, .int .i64 w.hard.term, .int .i64 w.hard.vote, .ref 0, .ref 1, .ref 2, .ref 3], .ref 4, .ref 5]) (fun w => [.arr 88 6 (w.hard.log.map encEnt), .arr 3 1 (w.yes.map encI), .arr 3 1 (w.next.map encI), .arr 3 1 (w.match_.map encI), .arr 93 10 (((stands r).2.1).map encRec), .arr 76 17 (((stands r).2.2).map encOut)]) (show ((leadR (⟨r.id, r.of_, 2, r.commit, ⟨r.hard.term + 1, r.id + 1, r.hard.log⟩, [], r.next, r.match_⟩ : Raft))) = ((stands r).1) from by have q : raftOk r = true ∧ r.role ≠ 3 ∧ r.hard.term ≠ 1000000000 := (⟨hok, by omega, by omega⟩); simp only [stands, if_pos q]; first | rfl | (rw [endRecs_ne (by dsimp only; first | omega | (rw [leadR_term]; dsimp only; omega))]; simp [h1, h2, h3, h4, voteRec, leadR_term, leadR_vote, standR, zEnt, zCmd, leadRecs]; done) | (simp [h1, h2, h3, h4, standR, voteRec, zEnt, zCmd, leadRecs]; done) | (simp [h1, h2, h3, h4, standR, voteRec, zEnt, zCmd, leadRecs]; rfl) | (simp [h1, h2, h3, h4, standR, leadR, had, lead0]; done) | (simp [h1, h2, h3, h4, standR, leadR, had, lead0]; rfl)) ?_
            refine KF.conv (fun w => .tup [.agg [.int .i64 ((leadR (⟨r.id, r.of_, 2, r.commit, ⟨r.hard.term + 1, r.id + 1, r.hard.log⟩, [], r.next, r.match_⟩ : Raft)).id), .int .i64 ((leadR (⟨r.id, r.of_, 2, r.commit, ⟨r.hard.term + 1, r.id + 1, r.hard.log⟩, [], r.next, r.match_⟩ : Raft)).of_), .int .i64 ((leadR (⟨r.id, r.of_, 2, r.commit, ⟨r.hard.term + 1, r.id + 1, r.hard.log⟩, [], r.next, r.match_⟩ : Raft)).role), .int .i64 ((leadR (⟨r.id, r.of_, 2, r.commit, ⟨r.hard.term + 1, r.id + 1, r.hard.log⟩, [], r.next, r.match_⟩ : Raft)).commit), .int .i64 ((leadR (⟨r.id, r.of_, 2, r.commit, ⟨r.hard.term + 1, r.id + 1, r.hard.log⟩, [], r.next, r.match_⟩ : Raft)).hard.term), .int .i64 ((leadR (⟨r.id, r.of_, 2, r.commit, ⟨r.hard.term + 1, r.id + 1, r.hard.log⟩, [], r.next, r.match_⟩ : Raft)).hard.vote), .ref 0, .ref 1, .ref 2, .ref 3], .ref 4, .ref 5]) (fun w => [.arr 88 6 (((leadR (⟨r.id, r.of_, 2, r.commit, ⟨r.hard.term + 1, r.id + 1, r.hard.log⟩, [], r.next, r.match_⟩ : Raft)).hard.log).map encEnt), .arr 3 1 (((leadR (⟨r.id, r.of_, 2, r.commit, ⟨r.hard.term + 1, r.id + 1, r.hard.log⟩, [], r.next, r.match_⟩ : Raft)).yes).map encI), .arr 3 1 (((leadR (⟨r.id, r.of_, 2, r.commit, ⟨r.hard.term + 1, r.id + 1, r.hard.log⟩, [], r.next, r.match_⟩ : Raft)).next).map encI), .arr 3 1 (((leadR (⟨r.id, r.of_, 2, r.commit, ⟨r.hard.term + 1, r.id + 1, r.hard.log⟩, [], r.next, r.match_⟩ : Raft)).match_).map encI), .arr 93 10 (w.map encRec), .arr 76 17 (((stands r).2.2).map encOut)]) (show (([(⟨1, (r.hard.term + 1), (r.id + 1), 0, ⟨0, ⟨0, 0, 0, 0, (⟨#[]⟩ : ByteArray)⟩⟩⟩ : Rec)]) ++ leadRecs (⟨r.id, r.of_, 2, r.commit, ⟨r.hard.term + 1, r.id + 1, r.hard.log⟩, [], r.next, r.match_⟩ : Raft)) = ((stands r).2.1) from by have q : raftOk r = true ∧ r.role ≠ 3 ∧ r.hard.term ≠ 1000000000 := (⟨hok, by omega, by omega⟩); simp only [stands, if_pos q]; first | rfl | (rw [endRecs_ne (by dsimp only; first | omega | (rw [leadR_term]; dsimp only; omega))]; simp [h1, h2, h3, h4, voteRec, leadR_term, leadR_vote, standR, zEnt, zCmd, leadRecs]; done) | (simp [h1, h2, h3, h4, standR, voteRec, zEnt, zCmd, leadRecs]; done) | (simp [h1, h2, h3, h4, standR, voteRec, zEnt, zCmd, leadRecs]; rfl) | (simp [h1, h2, h3, h4, standR, leadR, had, lead0]; done) | (simp [h1, h2, h3, h4, standR, leadR, had, lead0]; rfl)) ?_
            refine KF.conv (fun w => .tup [.agg [.int .i64 ((leadR (⟨r.id, r.of_, 2, r.commit, ⟨r.hard.term + 1, r.id + 1, r.hard.log⟩, [], r.next, r.match_⟩ : Raft)).id), .int .i64 ((leadR (⟨r.id, r.of_, 2, r.commit, ⟨r.hard.term + 1, r.id + 1, r.hard.log⟩, [], r.next, r.match_⟩ : Raft)).of_), .int .i64 ((leadR (⟨r.id, r.of_, 2, r.commit, ⟨r.hard.term + 1, r.id + 1, r.hard.log⟩, [], r.next, r.match_⟩ : Raft)).role), .int .i64 ((leadR (⟨r.id, r.of_, 2, r.commit, ⟨r.hard.term + 1, r.id + 1, r.hard.log⟩, [], r.next, r.match_⟩ : Raft)).commit), .int .i64 ((leadR (⟨r.id, r.of_, 2, r.commit, ⟨r.hard.term + 1, r.id + 1, r.hard.log⟩, [], r.next, r.match_⟩ : Raft)).hard.term), .int .i64 ((leadR (⟨r.id, r.of_, 2, r.commit, ⟨r.hard.term + 1, r.id + 1, r.hard.log⟩, [], r.next, r.match_⟩ : Raft)).hard.vote), .ref 0, .ref 1, .ref 2, .ref 3], .ref 4, .ref 5]) (fun w => [.arr 88 6 (((leadR (⟨r.id, r.of_, 2, r.commit, ⟨r.hard.term + 1, r.id + 1, r.hard.log⟩, [], r.next, r.match_⟩ : Raft)).hard.log).map encEnt), .arr 3 1 (((leadR (⟨r.id, r.of_, 2, r.commit, ⟨r.hard.term + 1, r.id + 1, r.hard.log⟩, [], r.next, r.match_⟩ : Raft)).yes).map encI), .arr 3 1 (((leadR (⟨r.id, r.of_, 2, r.commit, ⟨r.hard.term + 1, r.id + 1, r.hard.log⟩, [], r.next, r.match_⟩ : Raft)).next).map encI), .arr 3 1 (((leadR (⟨r.id, r.of_, 2, r.commit, ⟨r.hard.term + 1, r.id + 1, r.hard.log⟩, [], r.next, r.match_⟩ : Raft)).match_).map encI), .arr 93 10 ((([(⟨1, (r.hard.term + 1), (r.id + 1), 0, ⟨0, ⟨0, 0, 0, 0, (⟨#[]⟩ : ByteArray)⟩⟩⟩ : Rec)]) ++ leadRecs (⟨r.id, r.of_, 2, r.commit, ⟨r.hard.term + 1, r.id + 1, r.hard.log⟩, [], r.next, r.match_⟩ : Raft)).map encRec), .arr 76 17 (w.map encOut)]) (show (sendAll (leadR (⟨r.id, r.of_, 2, r.commit, ⟨r.hard.term + 1, r.id + 1, r.hard.log⟩, [], r.next, r.match_⟩ : Raft))) = ((stands r).2.2) from by have q : raftOk r = true ∧ r.role ≠ 3 ∧ r.hard.term ≠ 1000000000 := (⟨hok, by omega, by omega⟩); simp only [stands, if_pos q]; first | rfl | (rw [endRecs_ne (by dsimp only; first | omega | (rw [leadR_term]; dsimp only; omega))]; simp [h1, h2, h3, h4, voteRec, leadR_term, leadR_vote, standR, zEnt, zCmd, leadRecs]; done) | (simp [h1, h2, h3, h4, standR, voteRec, zEnt, zCmd, leadRecs]; done) | (simp [h1, h2, h3, h4, standR, voteRec, zEnt, zCmd, leadRecs]; rfl) | (simp [h1, h2, h3, h4, standR, leadR, had, lead0]; done) | (simp [h1, h2, h3, h4, standR, leadR, had, lead0]; rfl)) ?_
            exact KF.m [(2000, 0), (2001, 1), (2002, 2), (2003, 3), (2004, 4), (2005, 5)] [.agg [.int .i64 ((leadR (⟨r.id, r.of_, 2, r.commit, ⟨r.hard.term + 1, r.id + 1, r.hard.log⟩, [], r.next, r.match_⟩ : Raft)).id), .int .i64 ((leadR (⟨r.id, r.of_, 2, r.commit, ⟨r.hard.term + 1, r.id + 1, r.hard.log⟩, [], r.next, r.match_⟩ : Raft)).of_), .int .i64 ((leadR (⟨r.id, r.of_, 2, r.commit, ⟨r.hard.term + 1, r.id + 1, r.hard.log⟩, [], r.next, r.match_⟩ : Raft)).role), .int .i64 ((leadR (⟨r.id, r.of_, 2, r.commit, ⟨r.hard.term + 1, r.id + 1, r.hard.log⟩, [], r.next, r.match_⟩ : Raft)).commit), .int .i64 ((leadR (⟨r.id, r.of_, 2, r.commit, ⟨r.hard.term + 1, r.id + 1, r.hard.log⟩, [], r.next, r.match_⟩ : Raft)).hard.term), .int .i64 ((leadR (⟨r.id, r.of_, 2, r.commit, ⟨r.hard.term + 1, r.id + 1, r.hard.log⟩, [], r.next, r.match_⟩ : Raft)).hard.vote), .ref 2000, .ref 2001, .ref 2002, .ref 2003], .ref 2004, .ref 2005]
          · skip
            refine At.c (spec_l10Lead_F_spec  (⟨r.id, r.of_, 2, r.commit, ⟨r.hard.term + 1, r.id + 1, r.hard.log⟩, [], r.next, r.match_⟩ : Raft) ([(⟨1, (r.hard.term + 1), (r.id + 1), 0, ⟨0, ⟨0, 0, 0, 0, (⟨#[]⟩ : ByteArray)⟩⟩⟩ : Rec)]) (by unfold SmallR; simp only [List.length_nil]; omega) (by dsimp only; omega) (by dsimp only; omega) (by simp only [List.length_map, List.length_append, List.length_take, List.length_drop, List.length_replicate, List.length_set, List.length_cons, List.length_nil]; omega) h4) Try.call64 true [(1160, 0), (5005, 1), (1162, 2), (1163, 3), (144, 4)] [(2000, 5), (2001, 6), (2002, 7), (2003, 8)] [] trivial ?_
            refine At.a 6 ?_
            refine At.done rfl ?_
            refine AW.ret ?_
            refine ⟨_, Sub.refl _ _, ?_⟩
            refine KF.conv (fun w => .tup [.agg [.int .i64 w.id, .int .i64 w.of_, .int .i64 w.role, .int .i64 w.commit, .int .i64 w.hard.term, .int .i64 w.hard.vote, .ref 0, .ref 1, .ref 2, .ref 3], .ref 4, .ref 5]) (fun w => [.arr 88 6 (w.hard.log.map encEnt), .arr 3 1 (w.yes.map encI), .arr 3 1 (w.next.map encI), .arr 3 1 (w.match_.map encI), .arr 93 10 (((stands r).2.1).map encRec), .arr 76 17 (((stands r).2.2).map encOut)]) (show ((⟨(leadR (⟨r.id, r.of_, 2, r.commit, ⟨r.hard.term + 1, r.id + 1, r.hard.log⟩, [], r.next, r.match_⟩ : Raft)).id, (leadR (⟨r.id, r.of_, 2, r.commit, ⟨r.hard.term + 1, r.id + 1, r.hard.log⟩, [], r.next, r.match_⟩ : Raft)).of_, (leadR (⟨r.id, r.of_, 2, r.commit, ⟨r.hard.term + 1, r.id + 1, r.hard.log⟩, [], r.next, r.match_⟩ : Raft)).role, (leadR (⟨r.id, r.of_, 2, r.commit, ⟨r.hard.term + 1, r.id + 1, r.hard.log⟩, [], r.next, r.match_⟩ : Raft)).commit, ⟨(leadR (⟨r.id, r.of_, 2, r.commit, ⟨r.hard.term + 1, r.id + 1, r.hard.log⟩, [], r.next, r.match_⟩ : Raft)).hard.term, (leadR (⟨r.id, r.of_, 2, r.commit, ⟨r.hard.term + 1, r.id + 1, r.hard.log⟩, [], r.next, r.match_⟩ : Raft)).hard.vote, r.hard.log⟩, (leadR (⟨r.id, r.of_, 2, r.commit, ⟨r.hard.term + 1, r.id + 1, r.hard.log⟩, [], r.next, r.match_⟩ : Raft)).yes, (leadR (⟨r.id, r.of_, 2, r.commit, ⟨r.hard.term + 1, r.id + 1, r.hard.log⟩, [], r.next, r.match_⟩ : Raft)).next, (leadR (⟨r.id, r.of_, 2, r.commit, ⟨r.hard.term + 1, r.id + 1, r.hard.log⟩, [], r.next, r.match_⟩ : Raft)).match_⟩ : Raft)) = ((stands r).1) from by have q : raftOk r = true ∧ r.role ≠ 3 ∧ r.hard.term ≠ 1000000000 := (⟨hok, by omega, by omega⟩); simp only [stands, if_pos q]; first | rfl | (rw [endRecs_ne (by dsimp only; first | omega | (rw [leadR_term]; dsimp only; omega))]; simp [h1, h2, h3, h4, voteRec, leadR_term, leadR_vote, standR, zEnt, zCmd, leadRecs]; done) | (simp [h1, h2, h3, h4, standR, voteRec, zEnt, zCmd, leadRecs]; done) | (simp [h1, h2, h3, h4, standR, voteRec, zEnt, zCmd, leadRecs]; rfl) | (simp [h1, h2, h3, h4, standR, leadR, had, lead0]; done) | (simp [h1, h2, h3, h4, standR, leadR, had, lead0]; rfl)) ?_
            refine KF.conv (fun w => .tup [.agg [.int .i64 ((leadR (⟨r.id, r.of_, 2, r.commit, ⟨r.hard.term + 1, r.id + 1, r.hard.log⟩, [], r.next, r.match_⟩ : Raft)).id), .int .i64 ((leadR (⟨r.id, r.of_, 2, r.commit, ⟨r.hard.term + 1, r.id + 1, r.hard.log⟩, [], r.next, r.match_⟩ : Raft)).of_), .int .i64 ((leadR (⟨r.id, r.of_, 2, r.commit, ⟨r.hard.term + 1, r.id + 1, r.hard.log⟩, [], r.next, r.match_⟩ : Raft)).role), .int .i64 ((leadR (⟨r.id, r.of_, 2, r.commit, ⟨r.hard.term + 1, r.id + 1, r.hard.log⟩, [], r.next, r.match_⟩ : Raft)).commit), .int .i64 ((leadR (⟨r.id, r.of_, 2, r.commit, ⟨r.hard.term + 1, r.id + 1, r.hard.log⟩, [], r.next, r.match_⟩ : Raft)).hard.term), .int .i64 ((leadR (⟨r.id, r.of_, 2, r.commit, ⟨r.hard.term + 1, r.id + 1, r.hard.log⟩, [], r.next, r.match_⟩ : Raft)).hard.vote), .ref 0, .ref 1, .ref 2, .ref 3], .ref 4, .ref 5]) (fun w => [.arr 88 6 (r.hard.log.map encEnt), .arr 3 1 (((leadR (⟨r.id, r.of_, 2, r.commit, ⟨r.hard.term + 1, r.id + 1, r.hard.log⟩, [], r.next, r.match_⟩ : Raft)).yes).map encI), .arr 3 1 (((leadR (⟨r.id, r.of_, 2, r.commit, ⟨r.hard.term + 1, r.id + 1, r.hard.log⟩, [], r.next, r.match_⟩ : Raft)).next).map encI), .arr 3 1 (((leadR (⟨r.id, r.of_, 2, r.commit, ⟨r.hard.term + 1, r.id + 1, r.hard.log⟩, [], r.next, r.match_⟩ : Raft)).match_).map encI), .arr 93 10 (w.map encRec), .arr 76 17 (((stands r).2.2).map encOut)]) (show (([(⟨1, (r.hard.term + 1), (r.id + 1), 0, ⟨0, ⟨0, 0, 0, 0, (⟨#[]⟩ : ByteArray)⟩⟩⟩ : Rec)])) = ((stands r).2.1) from by have q : raftOk r = true ∧ r.role ≠ 3 ∧ r.hard.term ≠ 1000000000 := (⟨hok, by omega, by omega⟩); simp only [stands, if_pos q]; first | rfl | (rw [endRecs_ne (by dsimp only; first | omega | (rw [leadR_term]; dsimp only; omega))]; simp [h1, h2, h3, h4, voteRec, leadR_term, leadR_vote, standR, zEnt, zCmd, leadRecs]; done) | (simp [h1, h2, h3, h4, standR, voteRec, zEnt, zCmd, leadRecs]; done) | (simp [h1, h2, h3, h4, standR, voteRec, zEnt, zCmd, leadRecs]; rfl) | (simp [h1, h2, h3, h4, standR, leadR, had, lead0]; done) | (simp [h1, h2, h3, h4, standR, leadR, had, lead0]; rfl)) ?_
            refine KF.conv (fun w => .tup [.agg [.int .i64 ((leadR (⟨r.id, r.of_, 2, r.commit, ⟨r.hard.term + 1, r.id + 1, r.hard.log⟩, [], r.next, r.match_⟩ : Raft)).id), .int .i64 ((leadR (⟨r.id, r.of_, 2, r.commit, ⟨r.hard.term + 1, r.id + 1, r.hard.log⟩, [], r.next, r.match_⟩ : Raft)).of_), .int .i64 ((leadR (⟨r.id, r.of_, 2, r.commit, ⟨r.hard.term + 1, r.id + 1, r.hard.log⟩, [], r.next, r.match_⟩ : Raft)).role), .int .i64 ((leadR (⟨r.id, r.of_, 2, r.commit, ⟨r.hard.term + 1, r.id + 1, r.hard.log⟩, [], r.next, r.match_⟩ : Raft)).commit), .int .i64 ((leadR (⟨r.id, r.of_, 2, r.commit, ⟨r.hard.term + 1, r.id + 1, r.hard.log⟩, [], r.next, r.match_⟩ : Raft)).hard.term), .int .i64 ((leadR (⟨r.id, r.of_, 2, r.commit, ⟨r.hard.term + 1, r.id + 1, r.hard.log⟩, [], r.next, r.match_⟩ : Raft)).hard.vote), .ref 0, .ref 1, .ref 2, .ref 3], .ref 4, .ref 5]) (fun w => [.arr 88 6 (r.hard.log.map encEnt), .arr 3 1 (((leadR (⟨r.id, r.of_, 2, r.commit, ⟨r.hard.term + 1, r.id + 1, r.hard.log⟩, [], r.next, r.match_⟩ : Raft)).yes).map encI), .arr 3 1 (((leadR (⟨r.id, r.of_, 2, r.commit, ⟨r.hard.term + 1, r.id + 1, r.hard.log⟩, [], r.next, r.match_⟩ : Raft)).next).map encI), .arr 3 1 (((leadR (⟨r.id, r.of_, 2, r.commit, ⟨r.hard.term + 1, r.id + 1, r.hard.log⟩, [], r.next, r.match_⟩ : Raft)).match_).map encI), .arr 93 10 (([(⟨1, (r.hard.term + 1), (r.id + 1), 0, ⟨0, ⟨0, 0, 0, 0, (⟨#[]⟩ : ByteArray)⟩⟩⟩ : Rec)]).map encRec), .arr 76 17 (w.map encOut)]) (show (sendAll (leadR (⟨r.id, r.of_, 2, r.commit, ⟨r.hard.term + 1, r.id + 1, r.hard.log⟩, [], r.next, r.match_⟩ : Raft))) = ((stands r).2.2) from by have q : raftOk r = true ∧ r.role ≠ 3 ∧ r.hard.term ≠ 1000000000 := (⟨hok, by omega, by omega⟩); simp only [stands, if_pos q]; first | rfl | (rw [endRecs_ne (by dsimp only; first | omega | (rw [leadR_term]; dsimp only; omega))]; simp [h1, h2, h3, h4, voteRec, leadR_term, leadR_vote, standR, zEnt, zCmd, leadRecs]; done) | (simp [h1, h2, h3, h4, standR, voteRec, zEnt, zCmd, leadRecs]; done) | (simp [h1, h2, h3, h4, standR, voteRec, zEnt, zCmd, leadRecs]; rfl) | (simp [h1, h2, h3, h4, standR, leadR, had, lead0]; done) | (simp [h1, h2, h3, h4, standR, leadR, had, lead0]; rfl)) ?_
            exact KF.m [(1160, 0), (2000, 1), (2001, 2), (2002, 3), (144, 4), (2003, 5)] [.agg [.int .i64 ((leadR (⟨r.id, r.of_, 2, r.commit, ⟨r.hard.term + 1, r.id + 1, r.hard.log⟩, [], r.next, r.match_⟩ : Raft)).id), .int .i64 ((leadR (⟨r.id, r.of_, 2, r.commit, ⟨r.hard.term + 1, r.id + 1, r.hard.log⟩, [], r.next, r.match_⟩ : Raft)).of_), .int .i64 ((leadR (⟨r.id, r.of_, 2, r.commit, ⟨r.hard.term + 1, r.id + 1, r.hard.log⟩, [], r.next, r.match_⟩ : Raft)).role), .int .i64 ((leadR (⟨r.id, r.of_, 2, r.commit, ⟨r.hard.term + 1, r.id + 1, r.hard.log⟩, [], r.next, r.match_⟩ : Raft)).commit), .int .i64 ((leadR (⟨r.id, r.of_, 2, r.commit, ⟨r.hard.term + 1, r.id + 1, r.hard.log⟩, [], r.next, r.match_⟩ : Raft)).hard.term), .int .i64 ((leadR (⟨r.id, r.of_, 2, r.commit, ⟨r.hard.term + 1, r.id + 1, r.hard.log⟩, [], r.next, r.match_⟩ : Raft)).hard.vote), .ref 1160, .ref 2000, .ref 2001, .ref 2002], .ref 144, .ref 2003]
        · skip
          refine AW.skip ?_
          refine AW.seq ?_
          refine AW.regionD Try_mix (At.start ?_)
          refine At.a 3 ?_
          refine At.c (spec_l10Asks_spec  (⟨r.id, r.of_, 2, r.commit, ⟨r.hard.term + 1, r.id + 1, r.hard.log⟩, [], r.next, r.match_⟩ : Raft) (by unfold SmallR; simp only [List.length_nil]; omega) (by dsimp only; omega)) Try.call36 false [] [(2140, 0)] [(1160, 6, (r.hard.log.map encEnt)), (5005, 1, []), (1162, 1, (r.next.map encI)), (1163, 1, (r.match_.map encI))] ⟨rfl, ⟨88, (r.hard.log.map encEnt), by kernel_rfl, FrzIs.same (allP_encEnt _)⟩, rfl, ⟨3, [], by kernel_rfl, FrzIs.same (fun _ h => by cases h)⟩, rfl, ⟨3, (r.next.map encI), by kernel_rfl, FrzIs.same (allP_encI _)⟩, rfl, ⟨3, (r.match_.map encI), by kernel_rfl, FrzIs.same (allP_encI _)⟩, trivial⟩ ?_
          refine At.a 3 ?_
          refine At.done rfl ⟨by kernel_rfl, ?_⟩
          refine AW.ret ?_
          refine ⟨_, Sub.refl _ _, ?_⟩
          refine KF.conv (fun w => .tup [.agg [.int .i64 w.id, .int .i64 w.of_, .int .i64 w.role, .int .i64 w.commit, .int .i64 w.hard.term, .int .i64 w.hard.vote, .ref 0, .ref 1, .ref 2, .ref 3], .ref 4, .ref 5]) (fun w => [.arr 88 6 (w.hard.log.map encEnt), .arr 3 1 (w.yes.map encI), .arr 3 1 (w.next.map encI), .arr 3 1 (w.match_.map encI), .arr 93 10 (((stands r).2.1).map encRec), .arr 76 17 (((stands r).2.2).map encOut)]) (show ((⟨r.id, r.of_, 2, r.commit, ⟨r.hard.term + 1, r.id + 1, r.hard.log⟩, [], r.next, r.match_⟩ : Raft)) = ((stands r).1) from by have q : raftOk r = true ∧ r.role ≠ 3 ∧ r.hard.term ≠ 1000000000 := (⟨hok, by omega, by omega⟩); simp only [stands, if_pos q]; first | rfl | (rw [endRecs_ne (by dsimp only; first | omega | (rw [leadR_term]; dsimp only; omega))]; simp [h1, h2, h3, voteRec, leadR_term, leadR_vote, standR, zEnt, zCmd, leadRecs]; done) | (simp [h1, h2, h3, standR, voteRec, zEnt, zCmd, leadRecs]; done) | (simp [h1, h2, h3, standR, voteRec, zEnt, zCmd, leadRecs]; rfl) | (simp [h1, h2, h3, standR, leadR, had, lead0]; done) | (simp [h1, h2, h3, standR, leadR, had, lead0]; rfl)) ?_
          refine KF.conv (fun w => .tup [.agg [.int .i64 r.id, .int .i64 r.of_, .int .i64 2, .int .i64 r.commit, .int .i64 (r.hard.term + 1), .int .i64 (r.id + 1), .ref 0, .ref 1, .ref 2, .ref 3], .ref 4, .ref 5]) (fun w => [.arr 88 6 (r.hard.log.map encEnt), .arr 3 1 [], .arr 3 1 (r.next.map encI), .arr 3 1 (r.match_.map encI), .arr 93 10 (w.map encRec), .arr 76 17 (((stands r).2.2).map encOut)]) (show ([(⟨1, (r.hard.term + 1), (r.id + 1), 0, ⟨0, ⟨0, 0, 0, 0, (⟨#[]⟩ : ByteArray)⟩⟩⟩ : Rec)]) = ((stands r).2.1) from by have q : raftOk r = true ∧ r.role ≠ 3 ∧ r.hard.term ≠ 1000000000 := (⟨hok, by omega, by omega⟩); simp only [stands, if_pos q]; first | rfl | (rw [endRecs_ne (by dsimp only; first | omega | (rw [leadR_term]; dsimp only; omega))]; simp [h1, h2, h3, voteRec, leadR_term, leadR_vote, standR, zEnt, zCmd, leadRecs]; done) | (simp [h1, h2, h3, standR, voteRec, zEnt, zCmd, leadRecs]; done) | (simp [h1, h2, h3, standR, voteRec, zEnt, zCmd, leadRecs]; rfl) | (simp [h1, h2, h3, standR, leadR, had, lead0]; done) | (simp [h1, h2, h3, standR, leadR, had, lead0]; rfl)) ?_
          refine KF.conv (fun w => .tup [.agg [.int .i64 r.id, .int .i64 r.of_, .int .i64 2, .int .i64 r.commit, .int .i64 (r.hard.term + 1), .int .i64 (r.id + 1), .ref 0, .ref 1, .ref 2, .ref 3], .ref 4, .ref 5]) (fun w => [.arr 88 6 (r.hard.log.map encEnt), .arr 3 1 [], .arr 3 1 (r.next.map encI), .arr 3 1 (r.match_.map encI), .arr 93 10 (([(⟨1, (r.hard.term + 1), (r.id + 1), 0, ⟨0, ⟨0, 0, 0, 0, (⟨#[]⟩ : ByteArray)⟩⟩⟩ : Rec)]).map encRec), .arr 76 17 (w.map encOut)]) (show (asks (⟨r.id, r.of_, 2, r.commit, ⟨r.hard.term + 1, r.id + 1, r.hard.log⟩, [], r.next, r.match_⟩ : Raft)) = ((stands r).2.2) from by have q : raftOk r = true ∧ r.role ≠ 3 ∧ r.hard.term ≠ 1000000000 := (⟨hok, by omega, by omega⟩); simp only [stands, if_pos q]; first | rfl | (rw [endRecs_ne (by dsimp only; first | omega | (rw [leadR_term]; dsimp only; omega))]; simp [h1, h2, h3, voteRec, leadR_term, leadR_vote, standR, zEnt, zCmd, leadRecs]; done) | (simp [h1, h2, h3, standR, voteRec, zEnt, zCmd, leadRecs]; done) | (simp [h1, h2, h3, standR, voteRec, zEnt, zCmd, leadRecs]; rfl) | (simp [h1, h2, h3, standR, leadR, had, lead0]; done) | (simp [h1, h2, h3, standR, leadR, had, lead0]; rfl)) ?_
          exact KF.m [(1160, 0), (5005, 1), (1162, 2), (1163, 3), (144, 4), (2140, 5)] [.agg [.int .i64 r.id, .int .i64 r.of_, .int .i64 2, .int .i64 r.commit, .int .i64 (r.hard.term + 1), .int .i64 (r.id + 1), .ref 1160, .ref 5005, .ref 1162, .ref 1163], .ref 144, .ref 2140]
  · skip
    refine AW.r ?_
    refine At.a 4 ?_
    refine At.done rfl ?_
    refine AW.seq ?_
    refine AW.weak (Sub.nils [⟨true, 102, some 6, 5001, 88, 6⟩, ⟨true, 102, some 7, 5002, 3, 1⟩, ⟨true, 102, some 8, 5003, 3, 1⟩, ⟨true, 102, some 9, 5004, 3, 1⟩] (by kernel_rfl)) ?_
    refine AW.region (At.start ?_)
    refine At.a 1 ?_
    refine At.c (spec_l10Same_F_spec  r (by exact hz) hok) Try.call51 true [] [(1160, 0), (1161, 1), (1162, 2), (1163, 3)] [] trivial ?_
    refine At.lit0 (t := 45) (d := 9) (e := 93) (es := 10) (bytes := 88) 109 (by kernel_rfl) (by kernel_rfl) (by kernel_rfl) (by kernel_rfl) ?_
    refine At.a 3 ?_
    refine At.done rfl ?_
    refine AW.seq ?_
    refine AW.r ?_
    refine At.a 1 ?_
    refine At.c (spec_RaftOk_spec  r (by exact hz)) Try.call34 true [] [] [] trivial ?_
    refine At.a 2 ?_
    refine At.sB 13 (!(raftOk r)) true (sayB (by rw [show (raftOk r) = false from (Bool.eq_false_iff.2 hok)]; rfl)) ?_
    refine At.a 10 ?_
    refine At.done rfl ?_
    refine AW.cond true (by kernel_rfl) (fun _ => ?_) (fun h => by cases h)
    refine AW.r ?_
    refine At.a 2 ?_
    refine At.lit0 (t := 29) (d := 26) (e := 76) (es := 17) (bytes := 168) 126 (by kernel_rfl) (by kernel_rfl) (by kernel_rfl) (by kernel_rfl) ?_
    refine At.a 3 ?_
    refine At.done rfl ?_
    refine AW.ret ?_
    refine ⟨_, Sub.refl _ _, ?_⟩
    refine KF.conv (fun w => .tup [.agg [.int .i64 w.id, .int .i64 w.of_, .int .i64 w.role, .int .i64 w.commit, .int .i64 w.hard.term, .int .i64 w.hard.vote, .ref 0, .ref 1, .ref 2, .ref 3], .ref 4, .ref 5]) (fun w => [.arr 88 6 (w.hard.log.map encEnt), .arr 3 1 (w.yes.map encI), .arr 3 1 (w.next.map encI), .arr 3 1 (w.match_.map encI), .arr 93 10 (((stands r).2.1).map encRec), .arr 76 17 (((stands r).2.2).map encOut)]) (show ((⟨0, 0, 0, 0, ⟨0, 0, []⟩, [], [], []⟩ : Raft)) = ((stands r).1) from by simp [stands, same, hok]; try rfl) ?_
    refine KF.conv (fun w => .tup [.agg [.int .i64 0, .int .i64 0, .int .i64 0, .int .i64 0, .int .i64 0, .int .i64 0, .ref 0, .ref 1, .ref 2, .ref 3], .ref 4, .ref 5]) (fun w => [.arr 88 6 [], .arr 3 1 [], .arr 3 1 [], .arr 3 1 [], .arr 93 10 (w.map encRec), .arr 76 17 (((stands r).2.2).map encOut)]) (show ([]) = ((stands r).2.1) from by simp [stands, same, hok]; try rfl) ?_
    refine KF.conv (fun w => .tup [.agg [.int .i64 0, .int .i64 0, .int .i64 0, .int .i64 0, .int .i64 0, .int .i64 0, .ref 0, .ref 1, .ref 2, .ref 3], .ref 4, .ref 5]) (fun w => [.arr 88 6 [], .arr 3 1 [], .arr 3 1 [], .arr 3 1 [], .arr 93 10 [], .arr 76 17 (w.map encOut)]) (show ([]) = ((stands r).2.2) from by simp [stands, same, hok]; try rfl) ?_
    exact KF.m [(1160, 0), (1161, 1), (1162, 2), (1163, 3), (109, 4), (126, 5)] [.agg [.int .i64 0, .int .i64 0, .int .i64 0, .int .i64 0, .int .i64 0, .int .i64 0, .ref 1160, .ref 1161, .ref 1162, .ref 1163], .ref 109, .ref 126]
set_option maxRecDepth 100000 in
set_option maxHeartbeats 4000000 in
theorem impl_copyLog_spec  (l : List Ent) (hl : l.length ≤ 1048576) : FnSpec Try.prog 111 [.sl false 6 (l.map encEnt)] [] (.ref 0) [.arr 88 6 (l.map encEnt)] := by
  refine FnSpec.of 6 Try.func111 rfl Try.ntmps111 (by simp) (AW.weakK ?_)
  refine AW.r ?_
  refine At.a 1 ?_
  refine At.done rfl ?_
  refine AW.r ?_
  refine At.lit0 (t := 31) (d := 3) (e := 88) (es := 6) (bytes := 56) 103 (by kernel_rfl) (by kernel_rfl) (by kernel_rfl) (by kernel_rfl) ?_
  refine At.a 1 ?_
  refine At.append (t := 31) (d := 5) (e := 88) (es := 6) (bytes := 56) (s := .tmp 3) (x := .tmp 4) (S := .ref 103) (T := .sl false 6 (l.map encEnt)) (xs := []) (ys := (l.map encEnt)) 105 [103] [] (l.map encEnt) (by kernel_rfl) (by kernel_rfl) (by kernel_rfl) (by kernel_rfl) ⟨by kernel_rfl, rfl⟩ ⟨rfl, rfl, (allP_encEnt _), rfl⟩ (by kernel_rfl) (by kernel_rfl) (by simp) (by simp only [List.length_map, List.length_append, List.length_take, List.length_drop, List.length_replicate, List.length_set, List.length_cons, List.length_nil]; omega) (by simp only [List.length_map, List.length_append, List.length_take, List.length_drop, List.length_replicate, List.length_set, List.length_cons, List.length_nil]; omega) ?_
  refine At.a 1 ?_
  refine At.done rfl ?_
  refine AW.ret ?_
  refine ⟨_, Sub.refl _ _, ?_⟩
  exact KF.m [(105, 0)] [.ref 105]
set_option maxRecDepth 100000 in
set_option maxHeartbeats 4000000 in
theorem impl_copyHard_spec  (h : Hard) (hl : h.log.length ≤ 1048576) : FnSpec Try.prog 106 [.agg [.int .i64 h.term, .int .i64 h.vote, .sl false 6 (h.log.map encEnt)]] [] (.agg [.int .i64 h.term, .int .i64 h.vote, .ref 0]) [.arr 88 6 (h.log.map encEnt)] := by
  refine FnSpec.of 8 Try.func106 rfl Try.ntmps106 (by simp) (AW.weakK ?_)
  refine AW.r ?_
  refine At.a 2 ?_
  refine At.done rfl ?_
  refine AW.seq ?_
  refine AW.weak (Sub.nils [⟨true, 102, some 2, 5001, 88, 6⟩] (by kernel_rfl)) ?_
  refine AW.region (At.start ?_)
  refine At.a 2 ?_
  refine At.c (impl_copyLog_spec  h.log (by omega)) Try.call111 true [] [(1100, 0)] [] trivial ?_
  refine At.a 2 ?_
  refine At.done rfl ?_
  refine AW.r ?_
  refine At.a 2 ?_
  refine At.done rfl ?_
  refine AW.ret ?_
  refine ⟨_, Sub.refl _ _, ?_⟩
  exact KF.m [(1100, 0)] [.agg [.int .i64 h.term, .int .i64 h.vote, .ref 1100]]
set_option maxRecDepth 100000 in
set_option maxHeartbeats 4000000 in
theorem impl_copyInts_spec  (l : List Int) (hl : l.length ≤ 1048576) : FnSpec Try.prog 107 [.sl false 1 (l.map encI)] [] (.ref 0) [.arr 3 1 (l.map encI)] := by
  refine FnSpec.of 6 Try.func107 rfl Try.ntmps107 (by simp) (AW.weakK ?_)
  refine AW.r ?_
  refine At.a 1 ?_
  refine At.done rfl ?_
  refine AW.r ?_
  refine At.lit0 (t := 25) (d := 3) (e := 3) (es := 1) (bytes := 8) 103 (by kernel_rfl) (by kernel_rfl) (by kernel_rfl) (by kernel_rfl) ?_
  refine At.a 1 ?_
  refine At.append (t := 25) (d := 5) (e := 3) (es := 1) (bytes := 8) (s := .tmp 3) (x := .tmp 4) (S := .ref 103) (T := .sl false 1 (l.map encI)) (xs := []) (ys := (l.map encI)) 105 [103] [] (l.map encI) (by kernel_rfl) (by kernel_rfl) (by kernel_rfl) (by kernel_rfl) ⟨by kernel_rfl, rfl⟩ ⟨rfl, rfl, (allP_encI _), rfl⟩ (by kernel_rfl) (by kernel_rfl) (by simp) (by simp only [List.length_map, List.length_append, List.length_take, List.length_drop, List.length_replicate, List.length_set, List.length_cons, List.length_nil]; omega) (by simp only [List.length_map, List.length_append, List.length_take, List.length_drop, List.length_replicate, List.length_set, List.length_cons, List.length_nil]; omega) ?_
  refine At.a 1 ?_
  refine At.done rfl ?_
  refine AW.ret ?_
  refine ⟨_, Sub.refl _ _, ?_⟩
  exact KF.m [(105, 0)] [.ref 105]
set_option maxRecDepth 100000 in
set_option maxHeartbeats 4000000 in
theorem impl_copyRaft_spec  (r : Raft) (hz : SmallR r) : FnSpec Try.prog 83 [.agg [.int .i64 r.id, .int .i64 r.of_, .int .i64 r.role, .int .i64 r.commit, .int .i64 r.hard.term, .int .i64 r.hard.vote, .sl false 6 (r.hard.log.map encEnt), .sl false 1 (r.yes.map encI), .sl false 1 (r.next.map encI), .sl false 1 (r.match_.map encI)]] [] (.agg [.int .i64 r.id, .int .i64 r.of_, .int .i64 r.role, .int .i64 r.commit, .int .i64 r.hard.term, .int .i64 r.hard.vote, .ref 0, .ref 1, .ref 2, .ref 3]) [.arr 88 6 (r.hard.log.map encEnt), .arr 3 1 (r.yes.map encI), .arr 3 1 (r.next.map encI), .arr 3 1 (r.match_.map encI)] := by
  obtain ⟨z1, z2, z3, z4⟩ := id hz
  refine FnSpec.of 20 Try.func83 rfl Try.ntmps83 (by simp) (AW.weakK ?_)
  refine AW.r ?_
  refine At.a 2 ?_
  refine At.done rfl ?_
  refine AW.seq ?_
  refine AW.weak (Sub.nils [⟨true, 102, some 6, 5001, 88, 6⟩, ⟨true, 102, some 7, 5002, 3, 1⟩, ⟨true, 102, some 8, 5003, 3, 1⟩, ⟨true, 102, some 9, 5004, 3, 1⟩] (by kernel_rfl)) ?_
  refine AW.region (At.start ?_)
  refine At.a 2 ?_
  refine At.c (impl_copyHard_spec  r.hard (by omega)) Try.call106 true [] [(1100, 0)] [] trivial ?_
  refine At.a 2 ?_
  refine At.done rfl ?_
  refine AW.seq ?_
  refine AW.regionD Try_mix (At.start ?_)
  refine At.a 2 ?_
  refine At.c (impl_copyInts_spec  r.yes (by omega)) Try.call107 true [] [(1180, 0)] [] trivial ?_
  refine At.a 2 ?_
  refine At.c (impl_copyInts_spec  r.next (by omega)) Try.call107 true [] [(1240, 0)] [] trivial ?_
  refine At.a 2 ?_
  refine At.c (impl_copyInts_spec  r.match_ (by omega)) Try.call107 true [] [(1300, 0)] [] trivial ?_
  refine At.a 6 ?_
  refine At.done rfl ⟨by kernel_rfl, ?_⟩
  refine AW.r ?_
  refine At.a 2 ?_
  refine At.done rfl ?_
  refine AW.ret ?_
  refine ⟨_, Sub.refl _ _, ?_⟩
  exact KF.m [(1100, 0), (1180, 1), (1240, 2), (1300, 3)] [.agg [.int .i64 r.id, .int .i64 r.of_, .int .i64 r.role, .int .i64 r.commit, .int .i64 r.hard.term, .int .i64 r.hard.vote, .ref 1100, .ref 1180, .ref 1240, .ref 1300]]
set_option maxRecDepth 100000 in
set_option maxHeartbeats 4000000 in
theorem impl_stepOf_spec  (r : Raft) (hz : SmallR r) : FnSpec Try.prog 39 [.agg [.int .i64 r.id, .int .i64 r.of_, .int .i64 r.role, .int .i64 r.commit, .int .i64 r.hard.term, .int .i64 r.hard.vote, .sl false 6 (r.hard.log.map encEnt), .sl false 1 (r.yes.map encI), .sl false 1 (r.next.map encI), .sl false 1 (r.match_.map encI)]] [] (.ptr 0 0 0) [.box 73 [.int .i64 r.id, .int .i64 r.of_, .int .i64 r.role, .int .i64 r.commit, .int .i64 r.hard.term, .int .i64 r.hard.vote, .ref 1, .ref 2, .ref 3, .ref 4, .int .i64 r.id, .int .i64 r.of_, .int .i64 r.role, .int .i64 r.commit, .int .i64 r.hard.term, .int .i64 r.hard.vote, .sl false 6 (r.hard.log.map encEnt), .sl false 1 (r.yes.map encI), .sl false 1 (r.next.map encI), .sl false 1 (r.match_.map encI), .ref 5, .ref 6], .arr 88 6 (r.hard.log.map encEnt), .arr 3 1 (r.yes.map encI), .arr 3 1 (r.next.map encI), .arr 3 1 (r.match_.map encI), .arr 93 10 [], .arr 76 17 []] := by
  obtain ⟨z1, z2, z3, z4⟩ := id hz
  refine FnSpec.of 8 Try.func39 rfl Try.ntmps39 (by simp) (AW.weakK ?_)
  refine AW.r ?_
  refine At.a 2 ?_
  refine At.done rfl ?_
  refine AW.seq ?_
  refine AW.regionD Try_mix (At.start ?_)
  refine At.a 1 ?_
  refine At.c (impl_copyRaft_spec  r (by omega)) Try.call83 true [] [(1080, 0), (1081, 1), (1082, 2), (1083, 3)] [] trivial ?_
  refine At.a 4 ?_
  refine At.done rfl ⟨by kernel_rfl, ?_⟩
  refine AW.ret ?_
  refine ⟨_, Sub.nils [⟨true, 107, some 20, 5001, 93, 10⟩, ⟨true, 107, some 21, 5002, 76, 17⟩] (by kernel_rfl), ?_⟩
  exact KF.m [(107, 0), (1080, 1), (1081, 2), (1082, 3), (1083, 4), (5001, 5), (5002, 6)] [.ptr 107 0 0]
set_option maxRecDepth 100000 in
set_option maxHeartbeats 4000000 in
theorem impl_isOf_spec  (of : Int) : FnSpec Try.prog 84 [.int .i64 of] [] (.bool (ofOk of)) [] := by
  refine FnSpec.of 13 Try.func84 rfl Try.ntmps84 (by simp) (AW.weakK ?_)
  refine AW.r ?_
  refine At.a 1 ?_
  refine At.done rfl ?_
  refine AW.r ?_
  refine At.a 3 ?_
  by_cases h1 : of = 1
  · refine At.sB 5 (of == 1) true (sayET h1) ?_
    refine At.a 8 ?_
    refine At.done rfl ?_
    refine AW.ret ?_
    refine ⟨_, Sub.refl _ _, ?_⟩
    refine KF.conv (fun w => .bool w) (fun w => []) (show (true) = (ofOk of) from by simp_all [ofOk]) ?_
    exact KF.m [] [.bool true]
  · refine At.sB 5 (of == 1) false (sayEF h1) ?_
    refine At.a 4 ?_
    by_cases h2 : of = 3
    · refine At.sB 9 (of == 3) true (sayET h2) ?_
      refine At.a 4 ?_
      refine At.done rfl ?_
      refine AW.ret ?_
      refine ⟨_, Sub.refl _ _, ?_⟩
      refine KF.conv (fun w => .bool w) (fun w => []) (show (true) = (ofOk of) from by simp_all [ofOk]) ?_
      exact KF.m [] [.bool true]
    · refine At.sB 9 (of == 3) false (sayEF h2) ?_
      refine At.a 4 ?_
      refine At.done rfl ?_
      refine AW.ret ?_
      refine ⟨_, Sub.refl _ _, ?_⟩
      refine KF.conv (fun w => .bool w) (fun w => []) (show (of == 5) = (ofOk of) from by simp_all [ofOk]) ?_
      exact KF.m [] [.bool (of == 5)]
set_option maxRecDepth 100000 in
set_option maxHeartbeats 4000000 in
theorem impl_within_spec  (n : Int) (low : Int) (high : Int) : FnSpec Try.prog 85 [.int .i64 n, .int .i64 low, .int .i64 high] [] (.bool (inR n low high)) [] := by
  refine FnSpec.of 15 Try.func85 rfl Try.ntmps85 (by simp) (AW.weakK ?_)
  refine AW.r ?_
  refine At.a 1 ?_
  refine At.done rfl ?_
  refine AW.r ?_
  refine At.a 4 ?_
  by_cases h1 : n ≥ low
  · refine At.sB 10 (decide (n ≥ low)) true (sayT h1) ?_
    refine At.a 5 ?_
    refine At.done rfl ?_
    refine AW.ret ?_
    refine ⟨_, Sub.refl _ _, ?_⟩
    refine KF.conv (fun w => .bool w) (fun w => []) (show (decide (n ≤ high)) = (inR n low high) from by simp [inR, *]) ?_
    exact KF.m [] [.bool (decide (n ≤ high))]
  · refine At.sB 10 (decide (n ≥ low)) false (sayF h1) ?_
    refine At.a 5 ?_
    refine At.done rfl ?_
    refine AW.ret ?_
    refine ⟨_, Sub.refl _ _, ?_⟩
    refine KF.conv (fun w => .bool w) (fun w => []) (show (false) = (inR n low high) from by simp [inR, *]) ?_
    exact KF.m [] [.bool false]
set_option maxRecDepth 100000 in
set_option maxHeartbeats 4000000 in
theorem impl_isRelease_spec  (n : Int) : FnSpec Try.prog 92 [.int .i64 n] [] (.bool (inR n 1 1000)) [] := by
  refine FnSpec.of 5 Try.func92 rfl Try.ntmps92 (by simp) (AW.weakK ?_)
  refine AW.r ?_
  refine At.a 1 ?_
  refine At.done rfl ?_
  refine AW.r ?_
  refine At.a 1 ?_
  refine At.c (impl_within_spec  n 1 1000 ) Try.call85 true [] [] [] trivial ?_
  refine At.a 1 ?_
  refine At.done rfl ?_
  refine AW.ret ?_
  refine ⟨_, Sub.refl _ _, ?_⟩
  exact KF.m [] [.bool (inR n 1 1000)]
set_option maxRecDepth 100000 in
set_option maxHeartbeats 4000000 in
theorem impl_isSize_spec  (n : Int) : FnSpec Try.prog 93 [.int .i64 n] [] (.bool (inR n 0 1000)) [] := by
  refine FnSpec.of 5 Try.func93 rfl Try.ntmps93 (by simp) (AW.weakK ?_)
  refine AW.r ?_
  refine At.a 1 ?_
  refine At.done rfl ?_
  refine AW.r ?_
  refine At.a 1 ?_
  refine At.c (impl_within_spec  n 0 1000 ) Try.call85 true [] [] [] trivial ?_
  refine At.a 1 ?_
  refine At.done rfl ?_
  refine AW.ret ?_
  refine ⟨_, Sub.refl _ _, ?_⟩
  exact KF.m [] [.bool (inR n 0 1000)]
set_option maxRecDepth 100000 in
set_option maxHeartbeats 4000000 in
theorem impl_isNode_spec  (n : Int) : FnSpec Try.prog 94 [.int .i64 n] [] (.bool (inR n 0 4)) [] := by
  refine FnSpec.of 5 Try.func94 rfl Try.ntmps94 (by simp) (AW.weakK ?_)
  refine AW.r ?_
  refine At.a 1 ?_
  refine At.done rfl ?_
  refine AW.r ?_
  refine At.a 1 ?_
  refine At.c (impl_within_spec  n 0 4 ) Try.call85 true [] [] [] trivial ?_
  refine At.a 1 ?_
  refine At.done rfl ?_
  refine AW.ret ?_
  refine ⟨_, Sub.refl _ _, ?_⟩
  exact KF.m [] [.bool (inR n 0 4)]
set_option maxRecDepth 100000 in
set_option maxHeartbeats 4000000 in
theorem impl_CmdOk_spec  (c : Cmd) : FnSpec Try.prog 55 [.agg [.int .i64 c.kind, .int .i64 c.release, .int .i64 c.node, .int .i64 c.size, .str c.digest]] [] (.bool (cmdOk c)) [] := by
  refine FnSpec.of 52 Try.func55 rfl Try.ntmps55 (by simp) (AW.weakK ?_)
  refine AW.r ?_
  refine At.a 2 ?_
  refine At.done rfl ?_
  refine AW.r ?_
  refine At.a 3 ?_
  refine At.done rfl ?_
  refine AW.r ?_
  refine At.a 4 ?_
  refine At.done rfl ?_
  refine AW.r ?_
  refine At.a 2 ?_
  refine At.c (impl_isRelease_spec  c.release ) Try.call92 true [] [] [] trivial ?_
  refine At.a 1 ?_
  refine At.done rfl ?_
  refine AW.seq ?_
  refine AW.r ?_
  refine At.a 2 ?_
  refine At.done rfl ?_
  refine AW.block ?_
  refine AW.r ?_
  refine At.a 2 ?_
  refine At.done rfl ?_
  refine AW.cE c.kind (1 : Int) (fun h1 => ?_) (fun h1 => ?_)
  · skip
    refine AW.region (At.start ?_)
    refine At.a 4 ?_
    refine At.done rfl ?_
    refine AW.r ?_
    refine At.a 2 ?_
    by_cases h2 : c.release = 0
    · refine At.sB 47 (c.release == 0) true (sayET h2) ?_
      refine At.a 2 ?_
      refine At.eqA (t := 48) (u := 48) (d := 50) (op := .eql) (x := .tmp 48) (y := .tmp 49) (X := [.int .i64 0, .int .i64 0, .int .i64 c.node, .int .i64 c.size, .str c.digest]) (Y := [.int .i64 0, .int .i64 0, .int .i64 0, .int .i64 0, .str (⟨#[]⟩ : ByteArray)]) (cmdEq (⟨0, 0, c.node, c.size, c.digest⟩ : Cmd) (⟨0, 0, 0, 0, (⟨#[]⟩ : ByteArray)⟩ : Cmd)) (by kernel_rfl) (by kernel_rfl) (by kernel_rfl) (by kernel_rfl) (by kernel_rfl) (.bool (cmdEq (⟨0, 0, c.node, c.size, c.digest⟩ : Cmd) (⟨0, 0, 0, 0, (⟨#[]⟩ : ByteArray)⟩ : Cmd))) (.inl ⟨rfl, rfl⟩) ?_
      refine At.a 2 ?_
      refine At.done rfl ?_
      refine AW.ret ?_
      refine ⟨_, Sub.refl _ _, ?_⟩
      refine KF.conv (fun w => .bool w) (fun w => []) (show (cmdEq (⟨0, 0, c.node, c.size, c.digest⟩ : Cmd) (⟨0, 0, 0, 0, (⟨#[]⟩ : ByteArray)⟩ : Cmd)) = (cmdOk c) from by (try simp only [inR_iff, inR_not] at *); rw [Bool.eq_iff_iff]; simp only [cmdOk, cmdEq, noBytes]; (repeat' split) <;> (try simp [inR_iff]) <;> grind) ?_
      exact KF.m [] [.bool (cmdEq (⟨0, 0, c.node, c.size, c.digest⟩ : Cmd) (⟨0, 0, 0, 0, (⟨#[]⟩ : ByteArray)⟩ : Cmd))]
    · refine At.sB 47 (c.release == 0) false (sayEF h2) ?_
      refine At.a 5 ?_
      refine At.done rfl ?_
      refine AW.ret ?_
      refine ⟨_, Sub.refl _ _, ?_⟩
      refine KF.conv (fun w => .bool w) (fun w => []) (show (false) = (cmdOk c) from by (try simp only [inR_iff, inR_not] at *); rw [Bool.eq_iff_iff]; simp only [cmdOk, cmdEq, noBytes]; (repeat' split) <;> (try simp [inR_iff]) <;> grind) ?_
      exact KF.m [] [.bool false]
  · skip
    refine AW.r ?_
    refine At.a 2 ?_
    refine At.done rfl ?_
    refine AW.cE c.kind (2 : Int) (fun h3 => ?_) (fun h3 => ?_)
    · skip
      refine AW.r ?_
      refine At.a 2 ?_
      by_cases h4 : (inR c.release 1 1000) = true
      · refine At.sB 21 (inR c.release 1 1000) true (sayB h4) ?_
        refine At.a 2 ?_
        refine At.c (impl_isSize_spec  c.size ) Try.call93 true [] [] [] trivial ?_
        refine At.a 2 ?_
        by_cases h5 : (inR c.size 0 1000) = true
        · refine At.sB 26 (inR c.size 0 1000) true (sayB h5) ?_
          refine At.a 6 ?_
          refine At.done rfl ?_
          refine AW.region (At.start ?_)
          refine At.a 4 ?_
          refine At.done rfl ?_
          refine AW.r ?_
          refine At.a 2 ?_
          by_cases h6 : (c.digest.size : Int) = 32
          · refine At.sB 47 ((c.digest.size : Int) == 32) true (sayET h6) ?_
            refine At.a 2 ?_
            refine At.eqA (t := 48) (u := 48) (d := 50) (op := .eql) (x := .tmp 48) (y := .tmp 49) (X := [.int .i64 0, .int .i64 0, .int .i64 c.node, .int .i64 0, .str (⟨#[]⟩ : ByteArray)]) (Y := [.int .i64 0, .int .i64 0, .int .i64 0, .int .i64 0, .str (⟨#[]⟩ : ByteArray)]) (cmdEq (⟨0, 0, c.node, 0, (⟨#[]⟩ : ByteArray)⟩ : Cmd) (⟨0, 0, 0, 0, (⟨#[]⟩ : ByteArray)⟩ : Cmd)) (by kernel_rfl) (by kernel_rfl) (by kernel_rfl) (by kernel_rfl) (by kernel_rfl) (.bool (cmdEq (⟨0, 0, c.node, 0, (⟨#[]⟩ : ByteArray)⟩ : Cmd) (⟨0, 0, 0, 0, (⟨#[]⟩ : ByteArray)⟩ : Cmd))) (.inl ⟨rfl, rfl⟩) ?_
            refine At.a 2 ?_
            refine At.done rfl ?_
            refine AW.ret ?_
            refine ⟨_, Sub.refl _ _, ?_⟩
            refine KF.conv (fun w => .bool w) (fun w => []) (show (cmdEq (⟨0, 0, c.node, 0, (⟨#[]⟩ : ByteArray)⟩ : Cmd) (⟨0, 0, 0, 0, (⟨#[]⟩ : ByteArray)⟩ : Cmd)) = (cmdOk c) from by (try simp only [inR_iff, inR_not] at *); rw [Bool.eq_iff_iff]; simp only [cmdOk, cmdEq, noBytes]; (repeat' split) <;> (try simp [inR_iff]) <;> grind) ?_
            exact KF.m [] [.bool (cmdEq (⟨0, 0, c.node, 0, (⟨#[]⟩ : ByteArray)⟩ : Cmd) (⟨0, 0, 0, 0, (⟨#[]⟩ : ByteArray)⟩ : Cmd))]
          · refine At.sB 47 ((c.digest.size : Int) == 32) false (sayEF h6) ?_
            refine At.a 5 ?_
            refine At.done rfl ?_
            refine AW.ret ?_
            refine ⟨_, Sub.refl _ _, ?_⟩
            refine KF.conv (fun w => .bool w) (fun w => []) (show (false) = (cmdOk c) from by (try simp only [inR_iff, inR_not] at *); rw [Bool.eq_iff_iff]; simp only [cmdOk, cmdEq, noBytes]; (repeat' split) <;> (try simp [inR_iff]) <;> grind) ?_
            exact KF.m [] [.bool false]
        · refine At.sB 26 (inR c.size 0 1000) false (sayB (Bool.eq_false_iff.2 h5)) ?_
          replace h5 := Bool.eq_false_iff.2 h5
          refine At.a 6 ?_
          refine At.done rfl ?_
          refine AW.region (At.start ?_)
          refine At.a 4 ?_
          refine At.done rfl ?_
          refine AW.r ?_
          refine At.a 7 ?_
          refine At.done rfl ?_
          refine AW.ret ?_
          refine ⟨_, Sub.refl _ _, ?_⟩
          refine KF.conv (fun w => .bool w) (fun w => []) (show (false) = (cmdOk c) from by (try simp only [inR_iff, inR_not] at *); rw [Bool.eq_iff_iff]; simp only [cmdOk, cmdEq, noBytes]; (repeat' split) <;> (try simp [inR_iff]) <;> grind) ?_
          exact KF.m [] [.bool false]
      · refine At.sB 21 (inR c.release 1 1000) false (sayB (Bool.eq_false_iff.2 h4)) ?_
        replace h4 := Bool.eq_false_iff.2 h4
        refine At.a 11 ?_
        refine At.done rfl ?_
        refine AW.region (At.start ?_)
        refine At.a 4 ?_
        refine At.done rfl ?_
        refine AW.r ?_
        refine At.a 7 ?_
        refine At.done rfl ?_
        refine AW.ret ?_
        refine ⟨_, Sub.refl _ _, ?_⟩
        refine KF.conv (fun w => .bool w) (fun w => []) (show (false) = (cmdOk c) from by (try simp only [inR_iff, inR_not] at *); rw [Bool.eq_iff_iff]; simp only [cmdOk, cmdEq, noBytes]; (repeat' split) <;> (try simp [inR_iff]) <;> grind) ?_
        exact KF.m [] [.bool false]
    · skip
      refine AW.r ?_
      refine At.a 2 ?_
      refine At.done rfl ?_
      refine AW.cE c.kind (3 : Int) (fun h7 => ?_) (fun h7 => ?_)
      · skip
        refine AW.r ?_
        refine At.a 2 ?_
        by_cases h8 : (inR c.release 1 1000) = true
        · refine At.sB 37 (inR c.release 1 1000) true (sayB h8) ?_
          refine At.a 2 ?_
          refine At.c (impl_isNode_spec  c.node ) Try.call94 true [] [] [] trivial ?_
          refine At.a 2 ?_
          refine At.done rfl ?_
          refine AW.region (At.start ?_)
          refine At.a 2 ?_
          refine At.done rfl ?_
          refine AW.r ?_
          refine At.a 2 ?_
          by_cases h9 : (inR c.node 0 4) = true
          · refine At.sB 47 (inR c.node 0 4) true (sayB h9) ?_
            refine At.a 2 ?_
            refine At.eqA (t := 48) (u := 48) (d := 50) (op := .eql) (x := .tmp 48) (y := .tmp 49) (X := [.int .i64 0, .int .i64 0, .int .i64 0, .int .i64 c.size, .str c.digest]) (Y := [.int .i64 0, .int .i64 0, .int .i64 0, .int .i64 0, .str (⟨#[]⟩ : ByteArray)]) (cmdEq (⟨0, 0, 0, c.size, c.digest⟩ : Cmd) (⟨0, 0, 0, 0, (⟨#[]⟩ : ByteArray)⟩ : Cmd)) (by kernel_rfl) (by kernel_rfl) (by kernel_rfl) (by kernel_rfl) (by kernel_rfl) (.bool (cmdEq (⟨0, 0, 0, c.size, c.digest⟩ : Cmd) (⟨0, 0, 0, 0, (⟨#[]⟩ : ByteArray)⟩ : Cmd))) (.inl ⟨rfl, rfl⟩) ?_
            refine At.a 2 ?_
            refine At.done rfl ?_
            refine AW.ret ?_
            refine ⟨_, Sub.refl _ _, ?_⟩
            refine KF.conv (fun w => .bool w) (fun w => []) (show (cmdEq (⟨0, 0, 0, c.size, c.digest⟩ : Cmd) (⟨0, 0, 0, 0, (⟨#[]⟩ : ByteArray)⟩ : Cmd)) = (cmdOk c) from by (try simp only [inR_iff, inR_not] at *); rw [Bool.eq_iff_iff]; simp only [cmdOk, cmdEq, noBytes]; (repeat' split) <;> (try simp [inR_iff]) <;> grind) ?_
            exact KF.m [] [.bool (cmdEq (⟨0, 0, 0, c.size, c.digest⟩ : Cmd) (⟨0, 0, 0, 0, (⟨#[]⟩ : ByteArray)⟩ : Cmd))]
          · refine At.sB 47 (inR c.node 0 4) false (sayB (Bool.eq_false_iff.2 h9)) ?_
            replace h9 := Bool.eq_false_iff.2 h9
            refine At.a 5 ?_
            refine At.done rfl ?_
            refine AW.ret ?_
            refine ⟨_, Sub.refl _ _, ?_⟩
            refine KF.conv (fun w => .bool w) (fun w => []) (show (false) = (cmdOk c) from by (try simp only [inR_iff, inR_not] at *); rw [Bool.eq_iff_iff]; simp only [cmdOk, cmdEq, noBytes]; (repeat' split) <;> (try simp [inR_iff]) <;> grind) ?_
            exact KF.m [] [.bool false]
        · refine At.sB 37 (inR c.release 1 1000) false (sayB (Bool.eq_false_iff.2 h8)) ?_
          replace h8 := Bool.eq_false_iff.2 h8
          refine At.a 5 ?_
          refine At.done rfl ?_
          refine AW.region (At.start ?_)
          refine At.a 2 ?_
          refine At.done rfl ?_
          refine AW.r ?_
          refine At.a 7 ?_
          refine At.done rfl ?_
          refine AW.ret ?_
          refine ⟨_, Sub.refl _ _, ?_⟩
          refine KF.conv (fun w => .bool w) (fun w => []) (show (false) = (cmdOk c) from by (try simp only [inR_iff, inR_not] at *); rw [Bool.eq_iff_iff]; simp only [cmdOk, cmdEq, noBytes]; (repeat' split) <;> (try simp [inR_iff]) <;> grind) ?_
          exact KF.m [] [.bool false]
      · skip
        refine AW.seq ?_
        refine AW.r ?_
        refine At.a 2 ?_
        refine At.done rfl ?_
        refine AW.cE c.kind (4 : Int) (fun h10 => ?_) (fun h10 => ?_)
        · skip
          refine AW.skip ?_
          refine AW.cE c.kind (4 : Int) (fun h11 => ?_) (fun h11 => ?_)
          · skip
            refine AW.skip ?_
            refine AW.r ?_
            refine At.a 2 ?_
            by_cases h12 : (inR c.release 1 1000) = true
            · refine At.sB 47 (inR c.release 1 1000) true (sayB h12) ?_
              refine At.a 2 ?_
              refine At.eqA (t := 48) (u := 48) (d := 50) (op := .eql) (x := .tmp 48) (y := .tmp 49) (X := [.int .i64 0, .int .i64 0, .int .i64 c.node, .int .i64 c.size, .str c.digest]) (Y := [.int .i64 0, .int .i64 0, .int .i64 0, .int .i64 0, .str (⟨#[]⟩ : ByteArray)]) (cmdEq (⟨0, 0, c.node, c.size, c.digest⟩ : Cmd) (⟨0, 0, 0, 0, (⟨#[]⟩ : ByteArray)⟩ : Cmd)) (by kernel_rfl) (by kernel_rfl) (by kernel_rfl) (by kernel_rfl) (by kernel_rfl) (.bool (cmdEq (⟨0, 0, c.node, c.size, c.digest⟩ : Cmd) (⟨0, 0, 0, 0, (⟨#[]⟩ : ByteArray)⟩ : Cmd))) (.inl ⟨rfl, rfl⟩) ?_
              refine At.a 2 ?_
              refine At.done rfl ?_
              refine AW.ret ?_
              refine ⟨_, Sub.refl _ _, ?_⟩
              refine KF.conv (fun w => .bool w) (fun w => []) (show (cmdEq (⟨0, 0, c.node, c.size, c.digest⟩ : Cmd) (⟨0, 0, 0, 0, (⟨#[]⟩ : ByteArray)⟩ : Cmd)) = (cmdOk c) from by (try simp only [inR_iff, inR_not] at *); rw [Bool.eq_iff_iff]; simp only [cmdOk, cmdEq, noBytes]; (repeat' split) <;> (try simp [inR_iff]) <;> grind) ?_
              exact KF.m [] [.bool (cmdEq (⟨0, 0, c.node, c.size, c.digest⟩ : Cmd) (⟨0, 0, 0, 0, (⟨#[]⟩ : ByteArray)⟩ : Cmd))]
            · refine At.sB 47 (inR c.release 1 1000) false (sayB (Bool.eq_false_iff.2 h12)) ?_
              replace h12 := Bool.eq_false_iff.2 h12
              refine At.a 5 ?_
              refine At.done rfl ?_
              refine AW.ret ?_
              refine ⟨_, Sub.refl _ _, ?_⟩
              refine KF.conv (fun w => .bool w) (fun w => []) (show (false) = (cmdOk c) from by (try simp only [inR_iff, inR_not] at *); rw [Bool.eq_iff_iff]; simp only [cmdOk, cmdEq, noBytes]; (repeat' split) <;> (try simp [inR_iff]) <;> grind) ?_
              exact KF.m [] [.bool false]
          · skip
            refine AW.r ?_
            refine At.a 1 ?_
            refine At.done rfl ?_
            refine AW.ret ?_
            refine ⟨_, Sub.refl _ _, ?_⟩
            refine KF.conv (fun w => .bool w) (fun w => []) (show (false) = (cmdOk c) from by (try simp only [inR_iff, inR_not] at *); rw [Bool.eq_iff_iff]; simp only [cmdOk, cmdEq, noBytes]; (repeat' split) <;> (try simp [inR_iff]) <;> grind) ?_
            exact KF.m [] [.bool false]
        · skip
          refine AW.region (At.start ?_)
          refine At.a 2 ?_
          refine At.done rfl ?_
          refine AW.cE c.kind (5 : Int) (fun h13 => ?_) (fun h13 => ?_)
          · skip
            refine AW.skip ?_
            refine AW.r ?_
            refine At.a 2 ?_
            by_cases h14 : (inR c.release 1 1000) = true
            · refine At.sB 47 (inR c.release 1 1000) true (sayB h14) ?_
              refine At.a 2 ?_
              refine At.eqA (t := 48) (u := 48) (d := 50) (op := .eql) (x := .tmp 48) (y := .tmp 49) (X := [.int .i64 0, .int .i64 0, .int .i64 c.node, .int .i64 c.size, .str c.digest]) (Y := [.int .i64 0, .int .i64 0, .int .i64 0, .int .i64 0, .str (⟨#[]⟩ : ByteArray)]) (cmdEq (⟨0, 0, c.node, c.size, c.digest⟩ : Cmd) (⟨0, 0, 0, 0, (⟨#[]⟩ : ByteArray)⟩ : Cmd)) (by kernel_rfl) (by kernel_rfl) (by kernel_rfl) (by kernel_rfl) (by kernel_rfl) (.bool (cmdEq (⟨0, 0, c.node, c.size, c.digest⟩ : Cmd) (⟨0, 0, 0, 0, (⟨#[]⟩ : ByteArray)⟩ : Cmd))) (.inl ⟨rfl, rfl⟩) ?_
              refine At.a 2 ?_
              refine At.done rfl ?_
              refine AW.ret ?_
              refine ⟨_, Sub.refl _ _, ?_⟩
              refine KF.conv (fun w => .bool w) (fun w => []) (show (cmdEq (⟨0, 0, c.node, c.size, c.digest⟩ : Cmd) (⟨0, 0, 0, 0, (⟨#[]⟩ : ByteArray)⟩ : Cmd)) = (cmdOk c) from by (try simp only [inR_iff, inR_not] at *); rw [Bool.eq_iff_iff]; simp only [cmdOk, cmdEq, noBytes]; (repeat' split) <;> (try simp [inR_iff]) <;> grind) ?_
              exact KF.m [] [.bool (cmdEq (⟨0, 0, c.node, c.size, c.digest⟩ : Cmd) (⟨0, 0, 0, 0, (⟨#[]⟩ : ByteArray)⟩ : Cmd))]
            · refine At.sB 47 (inR c.release 1 1000) false (sayB (Bool.eq_false_iff.2 h14)) ?_
              replace h14 := Bool.eq_false_iff.2 h14
              refine At.a 5 ?_
              refine At.done rfl ?_
              refine AW.ret ?_
              refine ⟨_, Sub.refl _ _, ?_⟩
              refine KF.conv (fun w => .bool w) (fun w => []) (show (false) = (cmdOk c) from by (try simp only [inR_iff, inR_not] at *); rw [Bool.eq_iff_iff]; simp only [cmdOk, cmdEq, noBytes]; (repeat' split) <;> (try simp [inR_iff]) <;> grind) ?_
              exact KF.m [] [.bool false]
          · skip
            refine AW.r ?_
            refine At.a 1 ?_
            refine At.done rfl ?_
            refine AW.ret ?_
            refine ⟨_, Sub.refl _ _, ?_⟩
            refine KF.conv (fun w => .bool w) (fun w => []) (show (false) = (cmdOk c) from by (try simp only [inR_iff, inR_not] at *); rw [Bool.eq_iff_iff]; simp only [cmdOk, cmdEq, noBytes]; (repeat' split) <;> (try simp [inR_iff]) <;> grind) ?_
            exact KF.m [] [.bool false]
set_option maxRecDepth 100000 in
set_option maxHeartbeats 4000000 in
theorem impl_lastTerm_spec  (l : List Ent) (hl : l.length ≤ 1048576) : FnSpec Try.prog 73 [.sl false 6 (l.map encEnt)] [] (.int .i64 (lastT l)) [] := by
  refine FnSpec.of 13 Try.func73 rfl Try.ntmps73 (by simp) (AW.weakK ?_)
  refine AW.r ?_
  refine At.a 1 ?_
  refine At.done rfl ?_
  refine AW.seq ?_
  refine AW.r ?_
  refine At.a 2 ?_
  refine At.sL 4 encEnt l ?_
  refine At.a 1 ?_
  refine At.done rfl ?_
  refine AW.cE (l.length : Int) (0 : Int) (fun h1 => ?_) (fun h1 => ?_)
  · skip
    refine AW.r ?_
    refine At.a 1 ?_
    refine At.done rfl ?_
    refine AW.ret ?_
    refine ⟨_, Sub.refl _ _, ?_⟩
    refine KF.conv (fun w => .int .i64 w) (fun w => []) (show (0) = (lastT l) from by obtain rfl := List.length_eq_zero_iff.1 (show l.length = 0 by omega); rfl) ?_
    exact KF.m [] [.int .i64 0]
  · skip
    refine AW.skip ?_
    refine AW.r ?_
    refine At.a 3 ?_
    refine At.sL 8 encEnt l ?_
    refine At.a 1 ?_
    refine At.sI 9 ((l.length : Int) - 1) (by omega) ?_
    refine At.iSl 31 10 (.tmp 6) (.tmp 9) false 6 (l.map encEnt) .i64 ((l.length : Int) - 1) 88 (by omega) (by simp only [List.length_map, List.length_append, List.length_take, List.length_drop, List.length_replicate, List.length_set, List.length_cons, List.length_nil]; omega) ?_
    refine At.a 1 ?_
    refine Exists.elim (show ∃ e, l[((l.length : Int) - 1).toNat]? = some e from ⟨_, List.getElem?_eq_getElem (by omega)⟩) fun e1 he1 => ?_
    refine At.lVp 3 12 (.tmp 11) false 6 (l.map encEnt) (((l.length : Int) - 1).toNat) 0 false 1 (encEnt e1) (.int .i64 e1.term) (mapGet he1) ?_
    refine At.a 1 ?_
    refine At.done rfl ?_
    refine AW.ret ?_
    refine ⟨_, Sub.refl _ _, ?_⟩
    refine KF.conv (fun w => .int .i64 w) (fun w => []) (show (e1.term) = (lastT l) from by rw [show ((l.length : Int) - 1).toNat = l.length - 1 from by omega] at he1; simp [lastT, he1]) ?_
    exact KF.m [] [.int .i64 e1.term]
set_option maxRecDepth 100000 in
set_option maxHeartbeats 4000000 in
theorem impl_isWhole_spec  (n : Int) : FnSpec Try.prog 108 [.int .i64 n] [] (.bool (inR n 0 1000000000)) [] := by
  refine FnSpec.of 5 Try.func108 rfl Try.ntmps108 (by simp) (AW.weakK ?_)
  refine AW.r ?_
  refine At.a 1 ?_
  refine At.done rfl ?_
  refine AW.r ?_
  refine At.a 1 ?_
  refine At.c (impl_within_spec  n 0 1000000000 ) Try.call85 true [] [] [] trivial ?_
  refine At.a 1 ?_
  refine At.done rfl ?_
  refine AW.ret ?_
  refine ⟨_, Sub.refl _ _, ?_⟩
  exact KF.m [] [.bool (inR n 0 1000000000)]
set_option maxRecDepth 100000 in
set_option maxHeartbeats 4000000 in
theorem impl_HardOk_spec  (h : Hard) (hl : h.log.length ≤ 1048576) : FnSpec Try.prog 86 [.agg [.int .i64 h.term, .int .i64 h.vote, .sl false 6 (h.log.map encEnt)]] [] (.bool (hardOk h)) [] := by
  refine FnSpec.of 46 Try.func86 rfl Try.ntmps86 (by simp) (AW.weakK ?_)
  refine AW.r ?_
  refine At.a 2 ?_
  refine At.done rfl ?_
  refine AW.seq ?_
  refine AW.r ?_
  refine At.a 3 ?_
  refine At.sL 7 encEnt h.log ?_
  refine At.a 1 ?_
  refine At.done rfl ?_
  refine AW.block ?_
  refine AW.loopW (fun (k : Nat) => Go.Sy.mk [.un, .ptr 101 0 0, .un, .un, .un, .un, .sl false 6 (h.log.map encEnt), .int .i64 (h.log.length : Int), .int .i64 (k : Int)] [(101, .box 33 [.int .i64 h.term, .int .i64 h.vote, .sl false 6 (h.log.map encEnt)])]) (fun (k : Nat) => k ≤ h.log.length ∧ logOk h.term 0 h.log = logOk h.term (lastT (h.log.take k)) (h.log.drop k)) (fun (k : Nat) => h.log.length - k) 0 ⟨by omega, by simp [lastT]⟩ (Sub.o [(101, 101)] [false, true, false, false, false, false, true, true, true]) ?_
  rintro k ⟨hk, hR⟩
  refine AW.r ?_
  refine At.a 1 ?_
  refine At.done rfl ?_
  refine AW.seq ?_
  refine AW.cD ((k : Int) < (h.log.length : Int)) (fun h1 => ?_) (fun h1 => ?_)
  · skip
    refine AW.skip ?_
    refine AW.seq ?_
    refine AW.block ?_
    refine AW.r ?_
    refine At.a 1 ?_
    refine At.iSl 31 11 (.tmp 6) (.tmp 8) false 6 (h.log.map encEnt) .i64 (k : Int) 88 (by omega) (by simp only [List.length_map, List.length_append, List.length_take, List.length_drop, List.length_replicate, List.length_set, List.length_cons, List.length_nil]; omega) ?_
    refine Exists.elim (show ∃ e, h.log[k]? = some e from ⟨_, List.getElem?_eq_getElem (by omega)⟩) fun e1 he1 => ?_
    refine At.lVp 88 12 (.tmp 11) false 6 (h.log.map encEnt) k 0 true 6 (encEnt e1) (.agg [.int .i64 e1.term, .int .i64 e1.cmd.kind, .int .i64 e1.cmd.release, .int .i64 e1.cmd.node, .int .i64 e1.cmd.size, .str e1.cmd.digest]) (mapGet he1) ?_
    refine At.a 3 ?_
    refine At.done rfl ?_
    refine AW.seq ?_
    refine AW.regionD Try_mix (At.start ?_)
    refine At.a 2 ?_
    refine At.c (impl_CmdOk_spec  e1.cmd ) Try.call55 true [] [] [] trivial ?_
    refine At.a 2 ?_
    by_cases h2 : (cmdOk e1.cmd) = true
    · refine At.sB 17 (!(cmdOk e1.cmd)) false (sayNF (sayB h2)) ?_
      refine At.a 5 ?_
      refine At.sliceSl (t := 31) (d := 23) (e := 88) (es := 6) (x := .tmp 21) (lx := none) (hx := some (.tmp 22)) (p := false) (xs := (h.log.map encEnt)) (vl := .un) (vh := .int .i64 (k : Int)) 0 k ((h.log.take k).map encEnt) (by kernel_rfl) (by kernel_rfl) (by kernel_rfl) (by kernel_rfl) (.inl ⟨rfl, rfl⟩) (.inr ⟨_, _, rfl, rfl⟩) (by omega) (by simp only [List.length_map, List.length_append, List.length_take, List.length_drop, List.length_replicate, List.length_set, List.length_cons, List.length_nil]; omega) (by simp [List.map_take, List.map_drop]) ?_
      refine At.c (impl_lastTerm_spec  (h.log.take k) (by simp only [List.length_map, List.length_append, List.length_take, List.length_drop, List.length_replicate, List.length_set, List.length_cons, List.length_nil]; omega)) Try.call73 true [] [] [] trivial ?_
      refine At.mm (d := 25) (b := .max) (x := .const (.int .i64 1)) (y := .tmp 24) (ats := #[3, 3]) (q := .i64) (m := 1) (n := lastT (h.log.take k)) (if (lastT (h.log.take k)) > 1 then lastT (h.log.take k) else 1) (by kernel_rfl) (by kernel_rfl) (by kernel_rfl) (by kernel_rfl) (.inr ⟨rfl, rfl⟩) ?_
      refine At.say 25 (.int .i64 (if (lastT (h.log.take k)) > 1 then lastT (h.log.take k) else 1)) (.int .i64 (max 1 (lastT (h.log.take k)))) (by kernel_rfl) (congrArg (V.int .i64) (by omega)) ?_
      refine At.a 2 ?_
      refine At.c (impl_within_spec  e1.term (max 1 (lastT (h.log.take k))) h.term ) Try.call85 true [] [] [] trivial ?_
      refine At.a 2 ?_
      refine At.done rfl ⟨by kernel_rfl, ?_⟩
      refine AW.cNB (inR e1.term (max 1 (lastT (h.log.take k))) h.term) (fun h3 => ?_) (fun h3 => ?_)
      · skip
        refine AW.r ?_
        refine At.a 1 ?_
        refine At.done rfl ?_
        refine AW.ret ?_
        refine ⟨_, Sub.refl _ _, ?_⟩
        refine KF.conv (fun w => .bool w) (fun w => []) (show (false) = (hardOk h) from by refine hardBad (hR.trans ?_); rw [dropCons he1]; first | exact logOk_bad0 (by assumption) | exact logOk_bad2 (by have := inR_not.1 (by assumption); omega)) ?_
        exact KF.m [] [.bool false]
      · skip
        have h3i := inR_iff.1 h3
        refine AW.skip ?_
        refine AW.region (At.start ?_)
        refine At.a 1 ?_
        refine At.sI 31 ((k : Int) + 1) (by omega) ?_
        refine At.a 1 ?_
        refine At.done rfl ?_
        exact ⟨k + 1, ⟨by omega, by rw [hR, dropCons he1, lastT_next he1]; exact logOk_step (by omega) (by omega) (by simp only [*]) (by omega)⟩, (by omega), Sub.o [(101, 101)] [false, true, false, false, false, false, true, true, true]⟩
    · refine At.sB 17 (!(cmdOk e1.cmd)) true (sayNT (sayB (Bool.eq_false_iff.2 h2))) ?_
      replace h2 := Bool.eq_false_iff.2 h2
      refine At.a 13 ?_
      refine At.done rfl ⟨by kernel_rfl, ?_⟩
      refine AW.cond true (by kernel_rfl) (fun _ => ?_) (fun h => by cases h)
      refine AW.r ?_
      refine At.a 1 ?_
      refine At.done rfl ?_
      refine AW.ret ?_
      refine ⟨_, Sub.refl _ _, ?_⟩
      refine KF.conv (fun w => .bool w) (fun w => []) (show (false) = (hardOk h) from by refine hardBad (hR.trans ?_); rw [dropCons he1]; first | exact logOk_bad0 (by assumption) | exact logOk_bad2 (by have := inR_not.1 (by assumption); omega)) ?_
      exact KF.m [] [.bool false]
  · skip
    refine AW.exit ?_
    refine AW.r ?_
    refine At.a 2 ?_
    refine At.c (impl_isWhole_spec  h.term ) Try.call108 true [] [] [] trivial ?_
    refine At.a 1 ?_
    by_cases h4 : (inR h.term 0 1000000000) = true
    · refine At.sB 35 (inR h.term 0 1000000000) true (sayB h4) ?_
      have h4i := inR_iff.1 h4
      refine At.a 2 ?_
      refine At.c (impl_within_spec  h.vote 0 5 ) Try.call85 true [] [] [] trivial ?_
      refine At.a 2 ?_
      by_cases h5 : (inR h.vote 0 5) = true
      · refine At.sB 40 (inR h.vote 0 5) true (sayB h5) ?_
        have h5i := inR_iff.1 h5
        refine At.a 3 ?_
        refine At.sL 43 encEnt h.log ?_
        refine At.a 3 ?_
        refine At.done rfl ?_
        refine AW.ret ?_
        refine ⟨_, Sub.refl _ _, ?_⟩
        refine KF.conv (fun w => .bool w) (fun w => []) (show (decide ((h.log.length : Int) ≤ 80)) = (hardOk h) from by have q : logOk h.term 0 h.log = true := (by rw [hR, List.drop_of_length_le (by omega)]; rfl); grind [hardOk]) ?_
        exact KF.m [] [.bool (decide ((h.log.length : Int) ≤ 80))]
      · refine At.sB 40 (inR h.vote 0 5) false (sayB (Bool.eq_false_iff.2 h5)) ?_
        replace h5 := Bool.eq_false_iff.2 h5
        refine At.a 6 ?_
        refine At.done rfl ?_
        refine AW.ret ?_
        refine ⟨_, Sub.refl _ _, ?_⟩
        refine KF.conv (fun w => .bool w) (fun w => []) (show (false) = (hardOk h) from by have q : logOk h.term 0 h.log = true := (by rw [hR, List.drop_of_length_le (by omega)]; rfl); grind [hardOk]) ?_
        exact KF.m [] [.bool false]
    · refine At.sB 35 (inR h.term 0 1000000000) false (sayB (Bool.eq_false_iff.2 h4)) ?_
      replace h4 := Bool.eq_false_iff.2 h4
      refine At.a 11 ?_
      refine At.done rfl ?_
      refine AW.ret ?_
      refine ⟨_, Sub.refl _ _, ?_⟩
      refine KF.conv (fun w => .bool w) (fun w => []) (show (false) = (hardOk h) from by have q : logOk h.term 0 h.log = true := (by rw [hR, List.drop_of_length_le (by omega)]; rfl); grind [hardOk]) ?_
      exact KF.m [] [.bool false]
set_option maxRecDepth 100000 in
set_option maxHeartbeats 4000000 in
theorem impl_nodesAscend_spec  (list : List Int) (of_ : Int) (hl : list.length ≤ 1048576) (ho : 0 ≤ of_ ∧ of_ ≤ 1000) : FnSpec Try.prog 87 [.sl false 1 (list.map encI), .int .i64 of_] [] (.bool (asc (of_ - 1) (-1) list)) [] := by
  refine FnSpec.of 33 Try.func87 rfl Try.ntmps87 (by simp) (AW.weakK ?_)
  refine AW.r ?_
  refine At.a 1 ?_
  refine At.done rfl ?_
  refine AW.seq ?_
  refine AW.r ?_
  refine At.a 2 ?_
  refine At.sL 8 encI list ?_
  refine At.a 1 ?_
  refine At.done rfl ?_
  refine AW.block ?_
  refine AW.loopW (fun (k : Nat) => Go.Sy.mk [.sl false 1 (list.map encI), .int .i64 of_, .un, .un, .un, .un, .un, .sl false 1 (list.map encI), .int .i64 (list.length : Int), .int .i64 (k : Int)] []) (fun (k : Nat) => k ≤ list.length ∧ ∃ p : Int, (k = 0 → p = -1) ∧ (∀ e, 0 < k → list[k - 1]? = some e → e = p) ∧ asc (of_ - 1) (-1) list = asc (of_ - 1) p (list.drop k)) (fun (k : Nat) => list.length - k) 0 ⟨by omega, -1, by omega, by omega, by rw [List.drop_zero]⟩ (Sub.o [] [true, true, false, false, false, false, false, true, true, true]) ?_
  rintro k ⟨hk, p, hp0, hp1, hR⟩
  refine AW.r ?_
  refine At.a 1 ?_
  refine At.done rfl ?_
  refine AW.seq ?_
  refine AW.cD ((k : Int) < (list.length : Int)) (fun h1 => ?_) (fun h1 => ?_)
  · skip
    refine AW.skip ?_
    refine AW.seq ?_
    refine AW.block ?_
    refine AW.r ?_
    refine At.a 1 ?_
    refine At.iSl 25 12 (.tmp 7) (.tmp 9) false 1 (list.map encI) .i64 (k : Int) 3 (by omega) (by simp only [List.length_map, List.length_append, List.length_take, List.length_drop, List.length_replicate, List.length_set, List.length_cons, List.length_nil]; omega) ?_
    refine Exists.elim (show ∃ e, list[k]? = some e from ⟨_, List.getElem?_eq_getElem (by omega)⟩) fun e1 he1 => ?_
    refine At.lVp 3 13 (.tmp 12) false 1 (list.map encI) k 0 false 1 (encI e1) (.int .i64 e1) (mapGet he1) ?_
    refine At.a 2 ?_
    refine At.done rfl ?_
    refine AW.r ?_
    refine At.a 3 ?_
    refine At.sI 16 (of_ - 1) (by omega) ?_
    refine At.c (impl_within_spec  e1 0 (of_ - 1) ) Try.call85 true [] [] [] trivial ?_
    refine At.a 2 ?_
    by_cases h2 : (inR e1 0 (of_ - 1)) = true
    · refine At.sB 19 (!(inR e1 0 (of_ - 1))) false (sayNF (sayB h2)) ?_
      have h2i := inR_iff.1 h2
      refine At.a 3 ?_
      by_cases h3 : (k : Int) > 0
      · refine At.sB 22 (decide ((k : Int) > 0)) true (sayT h3) ?_
        refine At.a 3 ?_
        refine At.sI 25 ((k : Int) - 1) (by omega) ?_
        refine At.iSl 25 26 (.tmp 23) (.tmp 25) false 1 (list.map encI) .i64 ((k : Int) - 1) 3 (by omega) (by simp only [List.length_map, List.length_append, List.length_take, List.length_drop, List.length_replicate, List.length_set, List.length_cons, List.length_nil]; omega) ?_
        refine Exists.elim (show ∃ e, list[((k : Int) - 1).toNat]? = some e from ⟨_, List.getElem?_eq_getElem (by omega)⟩) fun e2 he2 => ?_
        have qe2 := hp1 e2 (by omega) (by rw [show k - 1 = ((k : Int) - 1).toNat from by omega]; exact he2)
        refine At.lVp 3 27 (.tmp 26) false 1 (list.map encI) (((k : Int) - 1).toNat) 0 false 1 (encI e2) (.int .i64 e2) (mapGet he2) ?_
        refine At.a 4 ?_
        refine At.done rfl ?_
        refine AW.cD (e2 ≥ e1) (fun h4 => ?_) (fun h4 => ?_)
        · skip
          refine AW.r ?_
          refine At.a 1 ?_
          refine At.done rfl ?_
          refine AW.ret ?_
          refine ⟨_, Sub.refl _ _, ?_⟩
          refine KF.conv (fun w => .bool w) (fun w => []) (show (false) = (asc (of_ - 1) (-1) list) from by rw [hR, dropCons he1]; first | exact asc_bad1 (by assumption) | exact asc_bad2 (by omega)) ?_
          exact KF.m [] [.bool false]
        · skip
          refine AW.skip ?_
          refine AW.region (At.start ?_)
          refine At.a 1 ?_
          refine At.sI 32 ((k : Int) + 1) (by omega) ?_
          refine At.a 1 ?_
          refine At.done rfl ?_
          exact ⟨k + 1, ⟨by omega, e1, by omega, at_k he1, by have i1 := inR_iff.1 (show inR e1 0 (of_ - 1) = true by simpa using h2); rw [hR, dropCons he1]; exact asc_step (by simpa using h2) (by omega)⟩, (by omega), Sub.o [] [true, true, false, false, false, false, false, true, true, true]⟩
      · refine At.sB 22 (decide ((k : Int) > 0)) false (sayF h3) ?_
        refine At.a 9 ?_
        refine At.done rfl ?_
        refine AW.cond false (by kernel_rfl) (fun h => by cases h) (fun _ => ?_)
        refine AW.skip ?_
        refine AW.region (At.start ?_)
        refine At.a 1 ?_
        refine At.sI 32 ((k : Int) + 1) (by omega) ?_
        refine At.a 1 ?_
        refine At.done rfl ?_
        exact ⟨k + 1, ⟨by omega, e1, by omega, at_k he1, by have i1 := inR_iff.1 (show inR e1 0 (of_ - 1) = true by simpa using h2); rw [hR, dropCons he1]; exact asc_step (by simpa using h2) (by omega)⟩, (by omega), Sub.o [] [true, true, false, false, false, false, false, true, true, true]⟩
    · refine At.sB 19 (!(inR e1 0 (of_ - 1))) true (sayNT (sayB (Bool.eq_false_iff.2 h2))) ?_
      replace h2 := Bool.eq_false_iff.2 h2
      refine At.a 12 ?_
      refine At.done rfl ?_
      refine AW.cond true (by kernel_rfl) (fun _ => ?_) (fun h => by cases h)
      refine AW.r ?_
      refine At.a 1 ?_
      refine At.done rfl ?_
      refine AW.ret ?_
      refine ⟨_, Sub.refl _ _, ?_⟩
      refine KF.conv (fun w => .bool w) (fun w => []) (show (false) = (asc (of_ - 1) (-1) list) from by rw [hR, dropCons he1]; first | exact asc_bad1 (by assumption) | exact asc_bad2 (by omega)) ?_
      exact KF.m [] [.bool false]
  · skip
    refine AW.exit ?_
    refine AW.r ?_
    refine At.a 1 ?_
    refine At.done rfl ?_
    refine AW.ret ?_
    refine ⟨_, Sub.refl _ _, ?_⟩
    refine KF.conv (fun w => .bool w) (fun w => []) (show (true) = (asc (of_ - 1) (-1) list) from by rw [hR, List.drop_of_length_le (by omega)]; rfl) ?_
    exact KF.m [] [.bool true]
set_option maxRecDepth 100000 in
set_option maxHeartbeats 4000000 in
theorem slices_Index_spec  (s : List Int) (v : Int) (hl : s.length ≤ 1048576) : FnSpec Try.prog 109 [.sl false 1 (s.map encI), .int .i64 v] [] (.int .i64 (idxI v 0 s)) [] := by
  refine FnSpec.of 19 Try.func109 rfl Try.ntmps109 (by simp) (AW.weakK ?_)
  refine AW.r ?_
  refine At.a 1 ?_
  refine At.done rfl ?_
  refine AW.seq ?_
  refine AW.r ?_
  refine At.a 2 ?_
  refine At.sL 7 encI s ?_
  refine At.a 1 ?_
  refine At.done rfl ?_
  refine AW.block ?_
  refine AW.loopW (fun (k : Nat) => Go.Sy.mk [.sl false 1 (s.map encI), .int .i64 v, .un, .un, .un, .un, .un, .int .i64 (s.length : Int), .int .i64 (k : Int)] []) (fun (k : Nat) => k ≤ s.length ∧ idxI v 0 s = idxI v k (s.drop k)) (fun (k : Nat) => s.length - k) 0 ⟨by omega, by rw [List.drop_zero]⟩ (Sub.o [] [true, true, false, false, false, false, false, true, true]) ?_
  rintro k ⟨hk, hR⟩
  refine AW.r ?_
  refine At.a 1 ?_
  refine At.done rfl ?_
  refine AW.seq ?_
  refine AW.cD ((k : Int) < (s.length : Int)) (fun h1 => ?_) (fun h1 => ?_)
  · skip
    refine AW.skip ?_
    refine AW.seq ?_
    refine AW.block ?_
    refine AW.r ?_
    refine At.a 2 ?_
    refine At.done rfl ?_
    refine AW.r ?_
    refine At.a 3 ?_
    refine At.iSl 25 14 (.tmp 12) (.tmp 13) false 1 (s.map encI) .i64 (k : Int) 3 (by omega) (by simp only [List.length_map, List.length_append, List.length_take, List.length_drop, List.length_replicate, List.length_set, List.length_cons, List.length_nil]; omega) ?_
    refine Exists.elim (show ∃ e, s[k]? = some e from ⟨_, List.getElem?_eq_getElem (by omega)⟩) fun e1 he1 => ?_
    refine At.lVp 3 15 (.tmp 14) false 1 (s.map encI) k 0 false 1 (encI e1) (.int .i64 e1) (mapGet he1) ?_
    refine At.a 1 ?_
    refine At.done rfl ?_
    refine AW.cE v e1 (fun h2 => ?_) (fun h2 => ?_)
    · skip
      refine AW.r ?_
      refine At.a 2 ?_
      refine At.done rfl ?_
      refine AW.ret ?_
      refine ⟨_, Sub.refl _ _, ?_⟩
      refine KF.conv (fun w => .int .i64 w) (fun w => []) (show ((k : Int)) = (idxI v 0 s) from by rw [hR, dropCons he1, idxI, if_pos (by assumption)]) ?_
      exact KF.m [] [.int .i64 (k : Int)]
    · skip
      refine AW.skip ?_
      refine AW.region (At.start ?_)
      refine At.a 1 ?_
      refine At.sI 18 ((k : Int) + 1) (by omega) ?_
      refine At.a 1 ?_
      refine At.done rfl ?_
      exact ⟨k + 1, ⟨by omega, by rw [hR, dropCons he1, idxI, if_neg (by assumption)]⟩, (by omega), Sub.o [] [true, true, false, false, false, false, false, true, true]⟩
  · skip
    refine AW.exit ?_
    refine AW.r ?_
    refine At.a 1 ?_
    refine At.done rfl ?_
    refine AW.ret ?_
    refine ⟨_, Sub.refl _ _, ?_⟩
    refine KF.conv (fun w => .int .i64 w) (fun w => []) (show (-1) = (idxI v 0 s) from by rw [hR, List.drop_of_length_le (by omega)]; rfl) ?_
    exact KF.m [] [.int .i64 (-1)]
set_option maxRecDepth 100000 in
set_option maxHeartbeats 4000000 in
theorem slices_Contains_spec  (s : List Int) (v : Int) (hl : s.length ≤ 1048576) : FnSpec Try.prog 88 [.sl false 1 (s.map encI), .int .i64 v] [] (.bool (hasI v s)) [] := by
  refine FnSpec.of 9 Try.func88 rfl Try.ntmps88 (by simp) (AW.weakK ?_)
  refine AW.r ?_
  refine At.a 1 ?_
  refine At.done rfl ?_
  refine AW.r ?_
  refine At.a 2 ?_
  refine At.c (slices_Index_spec  s v (by omega)) Try.call109 true [] [] [] trivial ?_
  refine At.a 2 ?_
  refine At.done rfl ?_
  refine AW.ret ?_
  refine ⟨_, Sub.refl _ _, ?_⟩
  refine KF.conv (fun w => .bool w) (fun w => []) (show (decide ((idxI v 0 s) ≥ 0)) = (hasI v s) from idxI_has v s 0) ?_
  exact KF.m [] [.bool (decide ((idxI v 0 s) ≥ 0))]
set_option maxRecDepth 100000 in
set_option maxHeartbeats 4000000 in
theorem impl_numbersIn_spec  (list : List Int) (count : Int) (low : Int) (high : Int) (hl : list.length ≤ 1048576) : FnSpec Try.prog 89 [.sl false 1 (list.map encI), .int .i64 count, .int .i64 low, .int .i64 high] [] (.bool (allIn low high list && ((list.length : Int) == count))) [] := by
  refine FnSpec.of 27 Try.func89 rfl Try.ntmps89 (by simp) (AW.weakK ?_)
  refine AW.r ?_
  refine At.a 1 ?_
  refine At.done rfl ?_
  refine AW.seq ?_
  refine AW.r ?_
  refine At.a 2 ?_
  refine At.sL 12 encI list ?_
  refine At.a 1 ?_
  refine At.done rfl ?_
  refine AW.block ?_
  refine AW.loopW (fun (k : Nat) => Go.Sy.mk [.sl false 1 (list.map encI), .int .i64 count, .int .i64 low, .int .i64 high, .un, .un, .un, .un, .un, .un, .un, .sl false 1 (list.map encI), .int .i64 (list.length : Int), .int .i64 (k : Int)] []) (fun (k : Nat) => k ≤ list.length ∧ allIn low high list = allIn low high (list.drop k)) (fun (k : Nat) => list.length - k) 0 ⟨by omega, by rw [List.drop_zero]⟩ (Sub.o [] [true, true, true, true, false, false, false, false, false, false, false, true, true, true]) ?_
  rintro k ⟨hk, hR⟩
  refine AW.r ?_
  refine At.a 1 ?_
  refine At.done rfl ?_
  refine AW.seq ?_
  refine AW.cD ((k : Int) < (list.length : Int)) (fun h1 => ?_) (fun h1 => ?_)
  · skip
    refine AW.skip ?_
    refine AW.seq ?_
    refine AW.block ?_
    refine AW.r ?_
    refine At.iSl 25 15 (.tmp 11) (.tmp 13) false 1 (list.map encI) .i64 (k : Int) 3 (by omega) (by simp only [List.length_map, List.length_append, List.length_take, List.length_drop, List.length_replicate, List.length_set, List.length_cons, List.length_nil]; omega) ?_
    refine Exists.elim (show ∃ e, list[k]? = some e from ⟨_, List.getElem?_eq_getElem (by omega)⟩) fun e1 he1 => ?_
    refine At.lVp 3 16 (.tmp 15) false 1 (list.map encI) k 0 false 1 (encI e1) (.int .i64 e1) (mapGet he1) ?_
    refine At.a 1 ?_
    refine At.done rfl ?_
    refine AW.r ?_
    refine At.a 3 ?_
    refine At.c (impl_within_spec  e1 low high ) Try.call85 true [] [] [] trivial ?_
    refine At.a 1 ?_
    refine At.done rfl ?_
    refine AW.cNB (inR e1 low high) (fun h2 => ?_) (fun h2 => ?_)
    · skip
      refine AW.r ?_
      refine At.a 1 ?_
      refine At.done rfl ?_
      refine AW.ret ?_
      refine ⟨_, Sub.refl _ _, ?_⟩
      refine KF.conv (fun w => .bool w) (fun w => []) (show (false) = (allIn low high list && ((list.length : Int) == count)) from by rw [hR, dropCons he1, allIn]; simp only [*, Bool.false_and]) ?_
      exact KF.m [] [.bool false]
    · skip
      have h2i := inR_iff.1 h2
      refine AW.skip ?_
      refine AW.region (At.start ?_)
      refine At.a 1 ?_
      refine At.sI 22 ((k : Int) + 1) (by omega) ?_
      refine At.a 1 ?_
      refine At.done rfl ?_
      exact ⟨k + 1, ⟨by omega, by rw [hR, dropCons he1, allIn]; simp only [*, Bool.true_and]⟩, (by omega), Sub.o [] [true, true, true, true, false, false, false, false, false, false, false, true, true, true]⟩
  · skip
    refine AW.exit ?_
    refine AW.r ?_
    refine At.a 2 ?_
    refine At.sL 24 encI list ?_
    refine At.a 3 ?_
    refine At.done rfl ?_
    refine AW.ret ?_
    refine ⟨_, Sub.refl _ _, ?_⟩
    refine KF.conv (fun w => .bool w) (fun w => []) (show ((list.length : Int) == count) = (allIn low high list && ((list.length : Int) == count)) from by rw [hR, List.drop_of_length_le (by omega)]; rfl) ?_
    exact KF.m [] [.bool ((list.length : Int) == count)]
end Go.Proofs.Ytlmadhahghiedaa
