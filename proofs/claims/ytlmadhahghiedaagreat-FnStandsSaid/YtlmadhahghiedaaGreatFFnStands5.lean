/- The contracts of the functions that FnStands reaches (each: what it answers, said over values), printed by a program of this session (wip/sy/g/gen.py). -/
import Derived.Test.YtlmadhahghiedaaGreatFFnStands4
set_option linter.unusedVariables false
set_option linter.unusedSimpArgs false
set_option maxRecDepth 100000
set_option maxHeartbeats 4000000
namespace Go.Proofs.YtlmadhahghiedaaGreat
open Go Go.Sy Go.Proofs
theorem spec_l10DrawNet_spec  (c : Cur) (steps : Int) (hp : 0 ≤ c.pos ∧ c.pos ≤ c.data.length ∧ c.data.length ≤ 1048576) (hs : 0 ≤ steps ∧ steps ≤ 1000) : ∃ rho_ : Int × Int × List Raft × List Out, (0 ≤ rho_.1 ∧ rho_.1 ≤ c.data.length ∧ NetOk rho_.2.2.1 rho_.2.2.2) ∧ FnSpec Tryz.prog 141 [.ptr 0 0 0, .int .i64 steps] [.box 141 [.sl false 1 (c.data.map encU8), .int .i64 c.pos, .int .i64 c.seed]] (.tup [.ref 1, .ref 2]) [.box 141 [.sl false 1 (c.data.map encU8), .int .i64 rho_.1, .int .i64 rho_.2.1], .arr 29 10 (rho_.2.2.1.map encRaft), .arr 51 17 (rho_.2.2.2.map encOutT)] := by
 refine dv (fun h_ => FnSpec.of 154 Tryz.func141 rfl Tryz.ntmps141 (by simp) (AW.weakK h_)) ?_
 refine dv (AW.q 2 ·) ?_
 refine dv (AW.r ·) ?_
 refine dv (At.a 1 ·) ?_
 refine dv (At.ll 20 3 1 120 (45, 6) (([3, 3, 3, 5, 1]).map encI) ·) ?_
 refine Exists.elim (spec_l1PickInt_spec  c ([3, 3, 3, 5, 1]) (by omega) (by decide)) fun r1_ hr1_ => ?_
 have qr1_ := hr1_.1
 try dsimp only at qr1_
 refine dv (At.c (hr1_.2) Tryz.call161 true [(0, 0), (120, 1)] [] [] trivial ·) ?_
 have hof : r1_.2.2 = 1 ∨ r1_.2.2 = 3 ∨ r1_.2.2 = 5 := by have q := qr1_.2.2; simp only [List.mem_cons, List.not_mem_nil, or_false] at q; omega
 refine dv (At.z 1 ·) ?_
 refine dv (AW.r ·) ?_
 refine dv (At.lit0 (t := 142) (d := 22) (e := 29) (es := 10) (bytes := 144) 122 (by kernel_rfl) (by kernel_rfl) (by kernel_rfl) (by kernel_rfl) ·) ?_
 refine dv (At.z 1 ·) ?_
 refine dv (AW.seq ·) ?_
 refine dv (AW.q 1 ·) ?_
 refine dv (AW.block ·) ?_
 refine DW.loopQ (fun (x : Nat × List Raft) => match x with | (i, ns) => Go.Sy.mk [.ptr 0 0 0, .int .i64 steps, .un, .un, .un, .un, .int .i64 r1_.2.2, .ref 122, .int .i64 (i : Int)] [(0, .box 141 [.sl false 1 (c.data.map encU8), .int .i64 r1_.1, .int .i64 r1_.2.1]), (122, .arr 29 10 (ns.map encRaft))]) (fun (x : Nat × List Raft) => match x with | (i, ns) => (i : Int) ≤ r1_.2.2 ∧ ns.length = i ∧ ∀ r ∈ ns, NodeIn r1_.2.2 r) (fun (x : Nat × List Raft) => match x with | (i, ns) => (r1_.2.2).toNat - i) (0, []) ⟨by omega, rfl, fun r hr => by cases hr⟩ (Sub.o [(0, 0), (122, 122)] [true, true, false, false, false, false, true, true, true]) ?_
 rintro ⟨i, ns⟩ ⟨hi, hl, hns⟩ ih1
 refine dv (AW.seq ·) ?_
 refine dv (AW.q 3 ·) ?_
 by_cases h1 : (i : Int) < r1_.2.2
 · refine dv (AW.condT (decide ((i : Int) < r1_.2.2)) (by kernel_rfl) (decide_eq_true h1) ·) ?_
   refine dv (AW.skip ·) ?_
   refine dv (AW.seq ·) ?_
   refine dv (AW.block ·) ?_
   refine dv (AW.r ·) ?_
   refine dv (At.a 3 ·) ?_
   refine dv (At.c (FnSpec.nz (As := [.int .i64 (i : Int), .int .i64 r1_.2.2, .agg [.int .i64 0, .int .i64 0, .nil]]) 6 (spec_RaftNew_spec  (i : Int) r1_.2.2 (⟨0, 0, []⟩ : Hard) (by simp))) Tryz.call26 true [] [(1640, 0), (1641, 1), (1642, 2), (1643, 3)] [] trivial ·) ?_
   refine dv (At.z 6 ·) ?_
   refine dv (AW.g ·) ?_
   refine dv (At.a 2 ·) ?_
   refine dv (At.lk 37 29 10 137 (45, 6) [1640, 1641, 1642, 1643] (([((newR (i : Int) r1_.2.2 (⟨0, 0, []⟩ : Hard)).1)]).map encRaft) [(45, 6, ((((newR (i : Int) r1_.2.2 (⟨0, 0, []⟩ : Hard)).1).hard.log).map encEnt)), (3, 1, ((((newR (i : Int) r1_.2.2 (⟨0, 0, []⟩ : Hard)).1).yes).map encI)), (3, 1, ((((newR (i : Int) r1_.2.2 (⟨0, 0, []⟩ : Hard)).1).next).map encI)), (3, 1, ((((newR (i : Int) r1_.2.2 (⟨0, 0, []⟩ : Hard)).1).match_).map encI))] (by intro p hp; simp only [List.mem_cons, List.not_mem_nil, or_false] at hp; rcases hp with rfl | rfl | rfl | rfl; all_goals first | exact flatEnts | exact flatInts | (intro x hx; cases hx)) ·) ?_
   refine dv (At.apK 38 29 10 144 138 122 137 encRaft ns ([((newR (i : Int) r1_.2.2 (⟨0, 0, []⟩ : Hard)).1)]) (by simp only [List.length_map, List.length_append, List.length_take, List.length_drop, List.length_replicate, List.length_set, List.length_cons, List.length_nil]; omega) ·) ?_
   refine dv (At.z 1 ·) ?_
   refine dv (AW.g ·) ?_
   refine dv (At.a 2 ·) ?_
   refine dv (At.sI 27 ((i : Int) + 1) (by omega) ·) ?_
   refine dv (At.z 1 ·) ?_
   exact dw (fun _ h_ => AWL.weak (Sub.o [(0, 0), (138, 122)] [true, true, false, false, false, false, true, true, true]) h_) (ih1 (i + 1, (ns ++ ([((newR (i : Int) r1_.2.2 (⟨0, 0, []⟩ : Hard)).1)]))) (⟨by omega, by simp only [List.length_append, List.length_cons, List.length_nil]; omega, nodes_app hns (newR_in hof (by omega) (by omega))⟩) (by simp only; omega))
 refine dv (AW.condF (decide ((i : Int) < r1_.2.2)) (by kernel_rfl) (decide_eq_false h1) ·) ?_
 refine dv (AW.exit ·) ?_
 refine dv (AW.r ·) ?_
 refine dv (At.lit0 (t := 38) (d := 39) (e := 51) (es := 17) (bytes := 168) 139 (by kernel_rfl) (by kernel_rfl) (by kernel_rfl) (by kernel_rfl) ·) ?_
 refine dv (At.z 1 ·) ?_
 refine dv (AW.seq ·) ?_
 refine dv (AW.weak (Sub.frzIn 139 51 17 [] [] (by kernel_rfl) (frzNil)) ·) ?_
 refine dv (AW.g ·) ?_
 refine dv (At.a 3 ·) ?_
 refine dv (At.sI 42 (steps + 1) (by omega) ·) ?_
 refine Exists.elim (spec_l1Below_spec  (⟨c.data, r1_.1, r1_.2.1⟩ : Cur) (steps + 1) (by dsimp only; omega)) fun r2_ hr2_ => ?_
 have qr2_ := hr2_.1
 try dsimp only at qr2_
 refine dv (At.c (hr2_.2) Tryz.call143 true [(0, 0)] [] [] trivial ·) ?_
 refine dv (At.z 1 ·) ?_
 refine dv (AW.seq ·) ?_
 refine dv (AW.q 1 ·) ?_
 refine dv (AW.block ·) ?_
 refine DW.loopQ (fun (x : Nat × List Raft × List Out × Int × Int) => match x with | (k, ns, ml, p, s) => Go.Sy.mk [.ptr 0 0 0, .un, .un, .un, .un, .un, .int .i64 r1_.2.2, .ref 122, .un, .un, .un, .ref 139, .int .i64 r2_.2.2, .int .i64 (k : Int)] [(0, .box 141 [.sl false 1 (c.data.map encU8), .int .i64 p, .int .i64 s]), (122, .arr 29 10 (ns.map encRaft)), (139, .arr 51 17 (ml.map encOutT))]) (fun (x : Nat × List Raft × List Out × Int × Int) => match x with | (k, ns, ml, p, s) => (k : Int) ≤ r2_.2.2 ∧ (ns.length : Int) = r1_.2.2 ∧ (∀ r ∈ ns, NodeIn r1_.2.2 r) ∧ (ml.length ≤ 30 ∧ MailIn r1_.2.2 ml) ∧ (0 ≤ p ∧ p ≤ c.data.length)) (fun (x : Nat × List Raft × List Out × Int × Int) => match x with | (k, ns, ml, p, s) => (r2_.2.2 : Int).toNat - k) (0, ns, [], r2_.1, r2_.2.1) ⟨by omega, by omega, hns, ⟨by simp, fun o ho => by cases ho⟩, by omega⟩ (Sub.o [(0, 0), (122, 122), (139, 139)] [true, false, false, false, false, false, true, true, false, false, false, true, true, true]) ?_
 rintro ⟨k, ns, ml, p, s⟩ ⟨hk, hl, hns, ⟨hm, hml⟩, hpp⟩ ih2
 refine dv (AW.seq ·) ?_
 refine dv (AW.q 3 ·) ?_
 by_cases h2 : (k : Int) < r2_.2.2
 · refine dv (AW.condT (decide ((k : Int) < r2_.2.2)) (by kernel_rfl) (decide_eq_true h2) ·) ?_
   refine dv (AW.skip ·) ?_
   refine dv (AW.seq ·) ?_
   refine dv (AW.block ·) ?_
   refine dv (AW.r ·) ?_
   refine dv (At.a 2 ·) ?_
   refine Exists.elim (spec_l1Below_spec  (⟨c.data, p, s⟩ : Cur) r1_.2.2 (by dsimp only; omega)) fun r3_ hr3_ => ?_
   have qr3_ := hr3_.1
   try dsimp only at qr3_
   refine dv (At.c (hr3_.2) Tryz.call143 true [(0, 0)] [] [] trivial ·) ?_
   refine dv (At.z 1 ·) ?_
   refine dv (AW.r ·) ?_
   refine dv (At.lit0 (t := 38) (d := 52) (e := 51) (es := 17) (bytes := 168) 152 (by kernel_rfl) (by kernel_rfl) (by kernel_rfl) (by kernel_rfl) ·) ?_
   refine dv (At.z 1 ·) ?_
   refine dv (AW.seq ·) ?_
   refine dv (AW.seq ·) ?_
   refine dv (AW.weak (Sub.frzIn 152 51 17 [] [] (by kernel_rfl) (frzNil)) ·) ?_
   refine dv (AW.g ·) ?_
   refine dv (At.a 1 ·) ?_
   refine Exists.elim (spec_l1Below_spec  (⟨c.data, r3_.1, r3_.2.1⟩ : Cur) 12 (by dsimp only; omega)) fun r4_ hr4_ => ?_
   have qr4_ := hr4_.1
   try dsimp only at qr4_
   refine dv (At.c (hr4_.2) Tryz.call143 true [(0, 0)] [] [] trivial ·) ?_
   refine dv (At.done rfl ·) ?_
   refine dv (AW.block ·) ?_
   refine dv (AW.q 2 ·) ?_
   by_cases h3 : r4_.2.2 = 0
   · refine dv (AW.condT (r4_.2.2 == 0) (by kernel_rfl) (beq_iff_eq.2 h3) ·) ?_
     refine Exists.elim (gE ns ((r3_.2.2).toNat) (by omega)) fun e1 he1 => ?_
     have hye1 := hns _ (List.mem_of_getElem? he1)
     have hnne1 := hye1.nums
     have hsme1 := hnne1.2.2.2.2.2
     have hoke1 := hye1.1
     refine dv (AW.weak (Sub.openL 122 ((r3_.2.2).toNat) 29 10 (ns.map encRaft) (encRaft e1) [(6, 5001), (7, 5002), (8, 5003), (9, 5004)] (by kernel_rfl) (mapGet he1) (by kernel_rfl)) ·) ?_
     refine dv (AW.g ·) ?_
     refine dv (At.a 4 ·) ?_
     refine dv (At.idxH 142 100 (.tmp 98) (.tmp 99) 122 ((ns.map encRaft).set ((r3_.2.2).toNat) (.agg [.int .i64 e1.id, .int .i64 e1.of_, .int .i64 e1.role, .int .i64 e1.commit, .int .i64 e1.hard.term, .int .i64 e1.hard.vote, .un, .un, .un, .un])) ((r3_.2.2).toNat) [(9, 5004), (8, 5003), (7, 5002), (6, 5001)] .i64 (r3_.2.2) 29 10 (by omega) (by rw [List.length_set, List.length_map]; omega) ·) ?_
     refine dv (At.ldH 29 101 (.tmp 100) 122 29 10 ((ns.map encRaft).set ((r3_.2.2).toNat) (.agg [.int .i64 e1.id, .int .i64 e1.of_, .int .i64 e1.role, .int .i64 e1.commit, .int .i64 e1.hard.term, .int .i64 e1.hard.vote, .un, .un, .un, .un])) ((r3_.2.2).toNat) [(9, 5004), (8, 5003), (7, 5002), (6, 5001)] 0 true 10 (.agg [.int .i64 e1.id, .int .i64 e1.of_, .int .i64 e1.role, .int .i64 e1.commit, .int .i64 e1.hard.term, .int .i64 e1.hard.vote, .un, .un, .un, .un]) (.agg [.int .i64 e1.id, .int .i64 e1.of_, .int .i64 e1.role, .int .i64 e1.commit, .int .i64 e1.hard.term, .int .i64 e1.hard.vote, .ref 5001, .ref 5002, .ref 5003, .ref 5004]) (setGet (mapGet he1)) ·) ?_
     refine dv (At.c (spec_RaftStand_spec  e1 (by assumption)) Tryz.call30 false [] [(3040, 0), (3041, 1), (3042, 2), (3043, 3), (3044, 4), (3045, 5)] [(5001, 6, (e1.hard.log.map encEnt)), (5002, 1, (e1.yes.map encI)), (5003, 1, (e1.next.map encI)), (5004, 1, (e1.match_.map encI))] ⟨rfl, ⟨45, (e1.hard.log.map encEnt), by kernel_rfl, FrzIs.same (allP_encEnt _)⟩, rfl, ⟨3, (e1.yes.map encI), by kernel_rfl, FrzIs.same (allP_encI _)⟩, rfl, ⟨3, (e1.next.map encI), by kernel_rfl, FrzIs.same (allP_encI _)⟩, rfl, ⟨3, (e1.match_.map encI), by kernel_rfl, FrzIs.same (allP_encI _)⟩, trivial⟩ ·) ?_
     have hou := stands_in hye1
     have hnd := hou.1
     have hle := hou.2.1
     have hmo : MailIn r1_.2.2 _ := hou.2.2
     refine dv (At.a 4 ·) ?_
     refine dv (At.idxH 142 106 (.tmp 96) (.tmp 97) 122 ((ns.map encRaft).set ((r3_.2.2).toNat) (.agg [.int .i64 e1.id, .int .i64 e1.of_, .int .i64 e1.role, .int .i64 e1.commit, .int .i64 e1.hard.term, .int .i64 e1.hard.vote, .un, .un, .un, .un])) ((r3_.2.2).toNat) [(9, 5004), (8, 5003), (7, 5002), (6, 5001)] .i64 (r3_.2.2) 29 10 (by omega) (by rw [List.length_set, List.length_map]; omega) ·) ?_
     refine dv (At.stH 29 122 29 10 ((r3_.2.2).toNat) (.tmp 106) (.tmp 103) ((ns.map encRaft).set ((r3_.2.2).toNat) (.agg [.int .i64 e1.id, .int .i64 e1.of_, .int .i64 e1.role, .int .i64 e1.commit, .int .i64 e1.hard.term, .int .i64 e1.hard.vote, .un, .un, .un, .un])) [.int .i64 (((stands e1).1).id), .int .i64 (((stands e1).1).of_), .int .i64 (((stands e1).1).role), .int .i64 (((stands e1).1).commit), .int .i64 (((stands e1).1).hard.term), .int .i64 (((stands e1).1).hard.vote), .ref 3040, .ref 3041, .ref 3042, .ref 3043] [.int .i64 e1.id, .int .i64 e1.of_, .int .i64 e1.role, .int .i64 e1.commit, .int .i64 e1.hard.term, .int .i64 e1.hard.vote, .un, .un, .un, .un] [(9, 5004), (8, 5003), (7, 5002), (6, 5001)] (setGet (mapGet he1)) ·) ?_
     refine dv (At.z 1 ·) ?_
     refine dv (AW.seq ·) ?_
     refine dv (AW.weak (Sub.closeL 122 ((r3_.2.2).toNat) 29 10 (((ns.map encRaft).set ((r3_.2.2).toNat) (.agg [.int .i64 e1.id, .int .i64 e1.of_, .int .i64 e1.role, .int .i64 e1.commit, .int .i64 e1.hard.term, .int .i64 e1.hard.vote, .un, .un, .un, .un])).set ((r3_.2.2).toNat) (.agg [.int .i64 (((stands e1).1).id), .int .i64 (((stands e1).1).of_), .int .i64 (((stands e1).1).role), .int .i64 (((stands e1).1).commit), .int .i64 (((stands e1).1).hard.term), .int .i64 (((stands e1).1).hard.vote), .un, .un, .un, .un])) ((ns.set ((r3_.2.2).toNat) ((stands e1).1)).map encRaft) [(6, 3040), (7, 3041), (8, 3042), (9, 3043)] (.agg [.int .i64 (((stands e1).1).id), .int .i64 (((stands e1).1).of_), .int .i64 (((stands e1).1).role), .int .i64 (((stands e1).1).commit), .int .i64 (((stands e1).1).hard.term), .int .i64 (((stands e1).1).hard.vote), .un, .un, .un, .un]) (encRaft ((stands e1).1)) [(45, 6, ((((stands e1).1).hard.log).map encEnt)), (3, 1, ((((stands e1).1).yes).map encI)), (3, 1, ((((stands e1).1).next).map encI)), (3, 1, ((((stands e1).1).match_).map encI))] (by kernel_rfl) (setGet (setGet (mapGet he1))) (by kernel_rfl) (by kernel_rfl) (by intro p hp; simp only [List.mem_cons, List.not_mem_nil, or_false] at hp; rcases hp with rfl | rfl | rfl | rfl; all_goals first | exact flatEnts | exact flatInts | (intro x hx; cases hx)) (by kernel_rfl) (by kernel_rfl) (by rw [List.set_set, List.set_set]; exact setV.symm)) ·) ?_
     refine dv (AW.weak (Sub.frzIn 3045 51 17 (((stands e1).2.2).map encOut) (((stands e1).2.2).map encOutT) (by kernel_rfl) (frzOutT _)) ·) ?_
     refine dv (AW.g ·) ?_
     refine dv (At.a 2 ·) ?_
     refine dv (At.apC 146 51 17 168 246 139 3045 encOutT ml ((stands e1).2.2) (by omega) (allP_encOutT _) ·) ?_
     refine dv (At.z 1 ·) ?_
     refine dv (AW.r ·) ?_
     refine dv (At.a 2 ·) ?_
     refine dv (At.sL 148 encOutT (ml ++ ((stands e1).2.2)) ·) ?_
     refine dv (At.z 1 ·) ?_
     by_cases h4 : ((ml ++ ((stands e1).2.2)).length : Int) > 30
     · refine dv (AW.condT (decide (((ml ++ ((stands e1).2.2)).length : Int) > 30)) (by kernel_rfl) (decide_eq_true h4) ·) ?_
       refine dv (AW.g ·) ?_
       refine dv (At.a 1 ·) ?_
       refine dv (At.cutRef (t := 38) (d := 151) (e := 51) (es := 17) (i := 246) (x := .tmp 150) (lx := none) (hx := some (.const (.int .i64 30))) (xs := ((ml ++ ((stands e1).2.2)).map encOutT)) (vl := .un) (vh := .int .i64 30) 251 30 (((ml ++ ((stands e1).2.2)).take 30).map encOutT) (by kernel_rfl) (by kernel_rfl) (by kernel_rfl) (by kernel_rfl) (by kernel_rfl) (by kernel_rfl) (by decide) (.inl ⟨rfl, rfl⟩) (.inr ⟨_, _, rfl, rfl⟩) (by simp only [List.length_map]; omega) (by rw [List.map_take]) ·) ?_
       refine dv (At.z 1 ·) ?_
       refine dv (AW.g ·) ?_
       refine dv (At.a 2 ·) ?_
       refine dv (At.sI 48 ((k : Int) + 1) (by omega) ·) ?_
       refine dv (At.z 1 ·) ?_
       exact dw (fun _ h_ => AWL.weak (Sub.o [(0, 0), (122, 122), (251, 139)] [true, false, false, false, false, false, true, true, false, false, false, true, true, true]) h_) (ih2 (k + 1, (ns.set ((r3_.2.2).toNat) ((stands e1).1)), ((ml ++ ((stands e1).2.2)).take 30), r4_.1, r4_.2.1) (⟨by omega, by (try simp only [List.length_set]); omega, by exact NodesIn.set hns _ hnd, ⟨by (try simp only [List.length_append, List.length_take, List.length_drop, List.length_nil] at *); omega, by exact mail_take (mail_app hml hmo) _⟩, by omega⟩) (by simp only; omega))
     refine dv (AW.condF (decide (((ml ++ ((stands e1).2.2)).length : Int) > 30)) (by kernel_rfl) (decide_eq_false h4) ·) ?_
     refine dv (AW.skip ·) ?_
     refine dv (AW.g ·) ?_
     refine dv (At.a 2 ·) ?_
     refine dv (At.sI 48 ((k : Int) + 1) (by omega) ·) ?_
     refine dv (At.z 1 ·) ?_
     exact dw (fun _ h_ => AWL.weak (Sub.o [(0, 0), (122, 122), (246, 139)] [true, false, false, false, false, false, true, true, false, false, false, true, true, true]) h_) (ih2 (k + 1, (ns.set ((r3_.2.2).toNat) ((stands e1).1)), (ml ++ ((stands e1).2.2)), r4_.1, r4_.2.1) (⟨by omega, by (try simp only [List.length_set]); omega, by exact NodesIn.set hns _ hnd, ⟨by (try simp only [List.length_append, List.length_take, List.length_drop, List.length_nil] at *); omega, by exact mail_app hml hmo⟩, by omega⟩) (by simp only; omega))
   refine dv (AW.condF (r4_.2.2 == 0) (by kernel_rfl) (beq_eq_false_iff_ne.2 h3) ·) ?_
   refine dv (AW.seq ·) ?_
   refine dv (AW.q 2 ·) ?_
   by_cases h5 : r4_.2.2 = 1
   · refine dv (AW.condT (r4_.2.2 == 1) (by kernel_rfl) (beq_iff_eq.2 h5) ·) ?_
     refine dv (AW.skip ·) ?_
     by_cases h6 : r4_.2.2 = 1
     · refine dv (AW.condT (r4_.2.2 == 1) (by kernel_rfl) (beq_iff_eq.2 h6) ·) ?_
       refine dv (AW.seq ·) ?_
       refine dv (AW.q 1 ·) ?_
       refine dv (AW.block ·) ?_
       refine DW.loopQ (fun (x : Nat × Int) => match x with | (j, i) => Go.Sy.mk [.ptr 0 0 0, .un, .un, .un, .un, .un, .int .i64 r1_.2.2, .ref 122, .un, .un, .un, .ref 139, .int .i64 r2_.2.2, .int .i64 (k : Int), .int .i64 i, .un, .int .i64 (j : Int)] [(0, .box 141 [.sl false 1 (c.data.map encU8), .int .i64 r4_.1, .int .i64 r4_.2.1]), (122, .arr 29 10 (ns.map encRaft)), (139, .arr 51 17 (ml.map encOutT))]) (fun (x : Nat × Int) => match x with | (j, i) => (j : Int) ≤ r1_.2.2 ∧ 0 ≤ i ∧ i < r1_.2.2) (fun (x : Nat × Int) => match x with | (j, i) => (r1_.2.2).toNat - j) (0, r3_.2.2) (by simp only; omega) (Sub.o [(0, 0), (122, 122), (139, 139)] [true, false, false, false, false, false, true, true, false, false, false, true, true, true, true, false, true]) ?_
       rintro ⟨j, i⟩ hj ih3
       refine dv (AW.seq ·) ?_
       refine dv (AW.q 3 ·) ?_
       by_cases h7 : (j : Int) < r1_.2.2
       · refine dv (AW.condT (decide ((j : Int) < r1_.2.2)) (by kernel_rfl) (decide_eq_true h7) ·) ?_
         refine dv (AW.skip ·) ?_
         refine dv (AW.seq ·) ?_
         refine dv (AW.block ·) ?_
         refine dv (AW.r ·) ?_
         refine dv (At.a 2 ·) ?_
         refine dv (At.iRf 142 117 (.tmp 115) (.tmp 116) 122 (ns.map encRaft) .i64 (j : Int) 29 10 (by omega) (by simp only [List.length_map]; omega) ·) ?_
         refine dv (At.a 1 ·) ?_
         refine Exists.elim (gE ns j (by omega)) fun e2 he2 => ?_
         have hye2 := hns _ (List.mem_of_getElem? he2)
         have hnne2 := hye2.nums
         have hsme2 := hnne2.2.2.2.2.2
         have hoke2 := hye2.1
         refine dv (At.ldP 3 119 (.tmp 118) 122 29 10 (ns.map encRaft) j 2 false 1 (encRaft e2) (.int .i64 e2.role) (mapGet he2) ·) ?_
         refine dv (At.z 1 ·) ?_
         by_cases h8 : e2.role = 3
         · refine dv (AW.condT (e2.role == 3) (by kernel_rfl) (beq_iff_eq.2 h8) ·) ?_
           refine dv (AW.gq 2 ·) ?_
           refine dv (AW.g ·) ?_
           refine dv (At.a 2 ·) ?_
           refine dv (At.sI 114 ((j : Int) + 1) (by omega) ·) ?_
           refine dv (At.z 1 ·) ?_
           exact dw (fun _ h_ => AWL.weak (Sub.o [(0, 0), (122, 122), (139, 139)] [true, false, false, false, false, false, true, true, false, false, false, true, true, true, true, false, true]) h_) (ih3 (j + 1, (j : Int)) (by simp only; omega) (by simp only; omega))
         refine dv (AW.condF (e2.role == 3) (by kernel_rfl) (beq_eq_false_iff_ne.2 h8) ·) ?_
         refine dv (AW.skip ·) ?_
         refine dv (AW.g ·) ?_
         refine dv (At.a 2 ·) ?_
         refine dv (At.sI 114 ((j : Int) + 1) (by omega) ·) ?_
         refine dv (At.z 1 ·) ?_
         exact dw (fun _ h_ => AWL.weak (Sub.o [(0, 0), (122, 122), (139, 139)] [true, false, false, false, false, false, true, true, false, false, false, true, true, true, true, false, true]) h_) (ih3 (j + 1, i) (by simp only; omega) (by simp only; omega))
       refine dv (AW.condF (decide ((j : Int) < r1_.2.2)) (by kernel_rfl) (decide_eq_false h7) ·) ?_
       refine dv (AW.exit ·) ?_
       refine Exists.elim (gE ns ((i).toNat) (by omega)) fun e3 he3 => ?_
       have hye3 := hns _ (List.mem_of_getElem? he3)
       have hnne3 := hye3.nums
       have hsme3 := hnne3.2.2.2.2.2
       have hoke3 := hye3.1
       refine dv (AW.weak (Sub.openL 122 ((i).toNat) 29 10 (ns.map encRaft) (encRaft e3) [(6, 5005), (7, 5006), (8, 5007), (9, 5008)] (by kernel_rfl) (mapGet he3) (by kernel_rfl)) ·) ?_
       refine dv (AW.gD Tryz_mix ·) ?_
       refine dv (At.a 4 ·) ?_
       refine dv (At.idxH 142 127 (.tmp 125) (.tmp 126) 122 ((ns.map encRaft).set ((i).toNat) (.agg [.int .i64 e3.id, .int .i64 e3.of_, .int .i64 e3.role, .int .i64 e3.commit, .int .i64 e3.hard.term, .int .i64 e3.hard.vote, .un, .un, .un, .un])) ((i).toNat) [(9, 5008), (8, 5007), (7, 5006), (6, 5005)] .i64 (i) 29 10 (by omega) (by rw [List.length_set, List.length_map]; omega) ·) ?_
       refine dv (At.ldH 29 128 (.tmp 127) 122 29 10 ((ns.map encRaft).set ((i).toNat) (.agg [.int .i64 e3.id, .int .i64 e3.of_, .int .i64 e3.role, .int .i64 e3.commit, .int .i64 e3.hard.term, .int .i64 e3.hard.vote, .un, .un, .un, .un])) ((i).toNat) [(9, 5008), (8, 5007), (7, 5006), (6, 5005)] 0 true 10 (.agg [.int .i64 e3.id, .int .i64 e3.of_, .int .i64 e3.role, .int .i64 e3.commit, .int .i64 e3.hard.term, .int .i64 e3.hard.vote, .un, .un, .un, .un]) (.agg [.int .i64 e3.id, .int .i64 e3.of_, .int .i64 e3.role, .int .i64 e3.commit, .int .i64 e3.hard.term, .int .i64 e3.hard.vote, .ref 5005, .ref 5006, .ref 5007, .ref 5008]) (setGet (mapGet he3)) ·) ?_
       refine dv (At.a 1 ·) ?_
       refine Exists.elim (spec_l5DrawRight_spec  (⟨c.data, r4_.1, r4_.2.1⟩ : Cur) (by dsimp only; omega)) fun r5_ hr5_ => ?_
       have qr5_ := hr5_.1
       try dsimp only at qr5_
       refine dv (At.c (hr5_.2) Tryz.call61 true [(0, 0)] [] [] trivial ·) ?_
       refine dv (At.c (spec_RaftPropose_spec  e3 r5_.2.2 (by assumption)) Tryz.call33 false [] [(3620, 0), (3621, 1), (3622, 2), (3623, 3), (3624, 4), (3625, 5)] [(5005, 6, (e3.hard.log.map encEnt)), (5006, 1, (e3.yes.map encI)), (5007, 1, (e3.next.map encI)), (5008, 1, (e3.match_.map encI))] ⟨rfl, ⟨45, (e3.hard.log.map encEnt), by kernel_rfl, FrzIs.same (allP_encEnt _)⟩, rfl, ⟨3, (e3.yes.map encI), by kernel_rfl, FrzIs.same (allP_encI _)⟩, rfl, ⟨3, (e3.next.map encI), by kernel_rfl, FrzIs.same (allP_encI _)⟩, rfl, ⟨3, (e3.match_.map encI), by kernel_rfl, FrzIs.same (allP_encI _)⟩, trivial⟩ ·) ?_
       have hou := prop_in r5_.2.2 hye3
       have hnd := hou.1
       have hle := hou.2.1
       have hmo : MailIn r1_.2.2 _ := hou.2.2
       refine dv (At.a 5 ·) ?_
       refine dv (At.idxH 142 136 (.tmp 123) (.tmp 124) 122 ((ns.map encRaft).set ((i).toNat) (.agg [.int .i64 e3.id, .int .i64 e3.of_, .int .i64 e3.role, .int .i64 e3.commit, .int .i64 e3.hard.term, .int .i64 e3.hard.vote, .un, .un, .un, .un])) ((i).toNat) [(9, 5008), (8, 5007), (7, 5006), (6, 5005)] .i64 (i) 29 10 (by omega) (by rw [List.length_set, List.length_map]; omega) ·) ?_
       refine dv (At.stH 29 122 29 10 ((i).toNat) (.tmp 136) (.tmp 132) ((ns.map encRaft).set ((i).toNat) (.agg [.int .i64 e3.id, .int .i64 e3.of_, .int .i64 e3.role, .int .i64 e3.commit, .int .i64 e3.hard.term, .int .i64 e3.hard.vote, .un, .un, .un, .un])) [.int .i64 ((propR e3 r5_.2.2).id), .int .i64 ((propR e3 r5_.2.2).of_), .int .i64 ((propR e3 r5_.2.2).role), .int .i64 ((propR e3 r5_.2.2).commit), .int .i64 ((propR e3 r5_.2.2).hard.term), .int .i64 ((propR e3 r5_.2.2).hard.vote), .ref 3620, .ref 3621, .ref 3622, .ref 3623] [.int .i64 e3.id, .int .i64 e3.of_, .int .i64 e3.role, .int .i64 e3.commit, .int .i64 e3.hard.term, .int .i64 e3.hard.vote, .un, .un, .un, .un] [(9, 5008), (8, 5007), (7, 5006), (6, 5005)] (setGet (mapGet he3)) ·) ?_
       refine dv (At.zD 1 ·) ?_
       refine dv (AW.seq ·) ?_
       refine dv (AW.weak (Sub.closeL 122 ((i).toNat) 29 10 (((ns.map encRaft).set ((i).toNat) (.agg [.int .i64 e3.id, .int .i64 e3.of_, .int .i64 e3.role, .int .i64 e3.commit, .int .i64 e3.hard.term, .int .i64 e3.hard.vote, .un, .un, .un, .un])).set ((i).toNat) (.agg [.int .i64 ((propR e3 r5_.2.2).id), .int .i64 ((propR e3 r5_.2.2).of_), .int .i64 ((propR e3 r5_.2.2).role), .int .i64 ((propR e3 r5_.2.2).commit), .int .i64 ((propR e3 r5_.2.2).hard.term), .int .i64 ((propR e3 r5_.2.2).hard.vote), .un, .un, .un, .un])) ((ns.set ((i).toNat) (propR e3 r5_.2.2)).map encRaft) [(6, 3620), (7, 3621), (8, 3622), (9, 3623)] (.agg [.int .i64 ((propR e3 r5_.2.2).id), .int .i64 ((propR e3 r5_.2.2).of_), .int .i64 ((propR e3 r5_.2.2).role), .int .i64 ((propR e3 r5_.2.2).commit), .int .i64 ((propR e3 r5_.2.2).hard.term), .int .i64 ((propR e3 r5_.2.2).hard.vote), .un, .un, .un, .un]) (encRaft (propR e3 r5_.2.2)) [(45, 6, (((propR e3 r5_.2.2).hard.log).map encEnt)), (3, 1, (((propR e3 r5_.2.2).yes).map encI)), (3, 1, (((propR e3 r5_.2.2).next).map encI)), (3, 1, (((propR e3 r5_.2.2).match_).map encI))] (by kernel_rfl) (setGet (setGet (mapGet he3))) (by kernel_rfl) (by kernel_rfl) (by intro p hp; simp only [List.mem_cons, List.not_mem_nil, or_false] at hp; rcases hp with rfl | rfl | rfl | rfl; all_goals first | exact flatEnts | exact flatInts | (intro x hx; cases hx)) (by kernel_rfl) (by kernel_rfl) (by rw [List.set_set, List.set_set]; exact setV.symm)) ·) ?_
       refine dv (AW.weak (Sub.frzIn 3625 51 17 ((propOuts e3 r5_.2.2).map encOut) ((propOuts e3 r5_.2.2).map encOutT) (by kernel_rfl) (frzOutT _)) ·) ?_
       refine dv (AW.g ·) ?_
       refine dv (At.a 2 ·) ?_
       refine dv (At.apC 146 51 17 168 246 139 3625 encOutT ml (propOuts e3 r5_.2.2) (by omega) (allP_encOutT _) ·) ?_
       refine dv (At.z 1 ·) ?_
       refine dv (AW.r ·) ?_
       refine dv (At.a 2 ·) ?_
       refine dv (At.sL 148 encOutT (ml ++ (propOuts e3 r5_.2.2)) ·) ?_
       refine dv (At.z 1 ·) ?_
       by_cases h9 : ((ml ++ (propOuts e3 r5_.2.2)).length : Int) > 30
       · refine dv (AW.condT (decide (((ml ++ (propOuts e3 r5_.2.2)).length : Int) > 30)) (by kernel_rfl) (decide_eq_true h9) ·) ?_
         refine dv (AW.g ·) ?_
         refine dv (At.a 1 ·) ?_
         refine dv (At.cutRef (t := 38) (d := 151) (e := 51) (es := 17) (i := 246) (x := .tmp 150) (lx := none) (hx := some (.const (.int .i64 30))) (xs := ((ml ++ (propOuts e3 r5_.2.2)).map encOutT)) (vl := .un) (vh := .int .i64 30) 251 30 (((ml ++ (propOuts e3 r5_.2.2)).take 30).map encOutT) (by kernel_rfl) (by kernel_rfl) (by kernel_rfl) (by kernel_rfl) (by kernel_rfl) (by kernel_rfl) (by decide) (.inl ⟨rfl, rfl⟩) (.inr ⟨_, _, rfl, rfl⟩) (by simp only [List.length_map]; omega) (by rw [List.map_take]) ·) ?_
         refine dv (At.z 1 ·) ?_
         refine dv (AW.g ·) ?_
         refine dv (At.a 2 ·) ?_
         refine dv (At.sI 48 ((k : Int) + 1) (by omega) ·) ?_
         refine dv (At.z 1 ·) ?_
         exact dw (fun _ h_ => AWL.weak (Sub.o [(0, 0), (122, 122), (251, 139)] [true, false, false, false, false, false, true, true, false, false, false, true, true, true]) h_) (ih2 (k + 1, (ns.set ((i).toNat) (propR e3 r5_.2.2)), ((ml ++ (propOuts e3 r5_.2.2)).take 30), r5_.1, r5_.2.1) (⟨by omega, by (try simp only [List.length_set]); omega, by exact NodesIn.set hns _ hnd, ⟨by (try simp only [List.length_append, List.length_take, List.length_drop, List.length_nil] at *); omega, by exact mail_take (mail_app hml hmo) _⟩, by omega⟩) (by simp only; omega))
       refine dv (AW.condF (decide (((ml ++ (propOuts e3 r5_.2.2)).length : Int) > 30)) (by kernel_rfl) (decide_eq_false h9) ·) ?_
       refine dv (AW.skip ·) ?_
       refine dv (AW.g ·) ?_
       refine dv (At.a 2 ·) ?_
       refine dv (At.sI 48 ((k : Int) + 1) (by omega) ·) ?_
       refine dv (At.z 1 ·) ?_
       exact dw (fun _ h_ => AWL.weak (Sub.o [(0, 0), (122, 122), (246, 139)] [true, false, false, false, false, false, true, true, false, false, false, true, true, true]) h_) (ih2 (k + 1, (ns.set ((i).toNat) (propR e3 r5_.2.2)), (ml ++ (propOuts e3 r5_.2.2)), r5_.1, r5_.2.1) (⟨by omega, by (try simp only [List.length_set]); omega, by exact NodesIn.set hns _ hnd, ⟨by (try simp only [List.length_append, List.length_take, List.length_drop, List.length_nil] at *); omega, by exact mail_app hml hmo⟩, by omega⟩) (by simp only; omega))
     refine dv (AW.condF (r4_.2.2 == 1) (by kernel_rfl) (beq_eq_false_iff_ne.2 h6) ·) ?_
     refine dv (AW.q 2 ·) ?_
     by_cases h10 : r4_.2.2 = 3
     · refine dv (AW.condT (r4_.2.2 == 3) (by kernel_rfl) (beq_iff_eq.2 h10) ·) ?_
       refine Exists.elim (gE ns ((r3_.2.2).toNat) (by omega)) fun e4 he4 => ?_
       have hye4 := hns _ (List.mem_of_getElem? he4)
       have hnne4 := hye4.nums
       have hsme4 := hnne4.2.2.2.2.2
       have hoke4 := hye4.1
       refine dv (AW.weak (Sub.openL 122 ((r3_.2.2).toNat) 29 10 (ns.map encRaft) (encRaft e4) [(6, 5009), (7, 5010), (8, 5011), (9, 5012)] (by kernel_rfl) (mapGet he4) (by kernel_rfl)) ·) ?_
       refine dv (AW.g ·) ?_
       refine dv (At.a 2 ·) ?_
       refine dv (At.idxH 142 141 (.tmp 139) (.tmp 140) 122 ((ns.map encRaft).set ((r3_.2.2).toNat) (.agg [.int .i64 e4.id, .int .i64 e4.of_, .int .i64 e4.role, .int .i64 e4.commit, .int .i64 e4.hard.term, .int .i64 e4.hard.vote, .un, .un, .un, .un])) ((r3_.2.2).toNat) [(9, 5012), (8, 5011), (7, 5010), (6, 5009)] .i64 (r3_.2.2) 29 10 (by omega) (by rw [List.length_set, List.length_map]; omega) ·) ?_
       refine dv (At.ldH 29 142 (.tmp 141) 122 29 10 ((ns.map encRaft).set ((r3_.2.2).toNat) (.agg [.int .i64 e4.id, .int .i64 e4.of_, .int .i64 e4.role, .int .i64 e4.commit, .int .i64 e4.hard.term, .int .i64 e4.hard.vote, .un, .un, .un, .un])) ((r3_.2.2).toNat) [(9, 5012), (8, 5011), (7, 5010), (6, 5009)] 0 true 10 (.agg [.int .i64 e4.id, .int .i64 e4.of_, .int .i64 e4.role, .int .i64 e4.commit, .int .i64 e4.hard.term, .int .i64 e4.hard.vote, .un, .un, .un, .un]) (.agg [.int .i64 e4.id, .int .i64 e4.of_, .int .i64 e4.role, .int .i64 e4.commit, .int .i64 e4.hard.term, .int .i64 e4.hard.vote, .ref 5009, .ref 5010, .ref 5011, .ref 5012]) (setGet (mapGet he4)) ·) ?_
       refine dv (At.c (spec_RaftBeat_spec  e4 (by assumption)) Tryz.call25 false [] [(3860, 0)] [(5009, 6, (e4.hard.log.map encEnt)), (5010, 1, (e4.yes.map encI)), (5011, 1, (e4.next.map encI)), (5012, 1, (e4.match_.map encI))] ⟨rfl, ⟨45, (e4.hard.log.map encEnt), by kernel_rfl, FrzIs.same (allP_encEnt _)⟩, rfl, ⟨3, (e4.yes.map encI), by kernel_rfl, FrzIs.same (allP_encI _)⟩, rfl, ⟨3, (e4.next.map encI), by kernel_rfl, FrzIs.same (allP_encI _)⟩, rfl, ⟨3, (e4.match_.map encI), by kernel_rfl, FrzIs.same (allP_encI _)⟩, trivial⟩ ·) ?_
       have hou := beat_in hye4
       have hle := hou.1
       have hmo : MailIn r1_.2.2 _ := hou.2
       refine dv (At.z 1 ·) ?_
       refine dv (AW.seq ·) ?_
       refine dv (AW.weak (Sub.closeL 122 ((r3_.2.2).toNat) 29 10 ((ns.map encRaft).set ((r3_.2.2).toNat) (.agg [.int .i64 e4.id, .int .i64 e4.of_, .int .i64 e4.role, .int .i64 e4.commit, .int .i64 e4.hard.term, .int .i64 e4.hard.vote, .un, .un, .un, .un])) (ns.map encRaft) [(9, 5012), (8, 5011), (7, 5010), (6, 5009)] (.agg [.int .i64 e4.id, .int .i64 e4.of_, .int .i64 e4.role, .int .i64 e4.commit, .int .i64 e4.hard.term, .int .i64 e4.hard.vote, .un, .un, .un, .un]) (encRaft e4) [(3, 1, (e4.match_.map encI)), (3, 1, (e4.next.map encI)), (3, 1, (e4.yes.map encI)), (45, 6, (e4.hard.log.map encEnt))] (by kernel_rfl) (setGet (mapGet he4)) (by kernel_rfl) (by kernel_rfl) (by intro p hp; simp only [List.mem_cons, List.not_mem_nil, or_false] at hp; rcases hp with rfl | rfl | rfl | rfl; all_goals first | exact flatEnts | exact flatInts | (intro x hx; cases hx)) (by kernel_rfl) (by kernel_rfl) (by rw [List.set_set]; exact set_self (mapGet he4))) ·) ?_
       refine dv (AW.weak (Sub.frzIn 3860 51 17 ((beat e4).map encOut) ((beat e4).map encOutT) (by kernel_rfl) (frzOutT _)) ·) ?_
       refine dv (AW.g ·) ?_
       refine dv (At.a 2 ·) ?_
       refine dv (At.apC 146 51 17 168 246 139 3860 encOutT ml (beat e4) (by omega) (allP_encOutT _) ·) ?_
       refine dv (At.z 1 ·) ?_
       refine dv (AW.r ·) ?_
       refine dv (At.a 2 ·) ?_
       refine dv (At.sL 148 encOutT (ml ++ (beat e4)) ·) ?_
       refine dv (At.z 1 ·) ?_
       by_cases h11 : ((ml ++ (beat e4)).length : Int) > 30
       · refine dv (AW.condT (decide (((ml ++ (beat e4)).length : Int) > 30)) (by kernel_rfl) (decide_eq_true h11) ·) ?_
         refine dv (AW.g ·) ?_
         refine dv (At.a 1 ·) ?_
         refine dv (At.cutRef (t := 38) (d := 151) (e := 51) (es := 17) (i := 246) (x := .tmp 150) (lx := none) (hx := some (.const (.int .i64 30))) (xs := ((ml ++ (beat e4)).map encOutT)) (vl := .un) (vh := .int .i64 30) 251 30 (((ml ++ (beat e4)).take 30).map encOutT) (by kernel_rfl) (by kernel_rfl) (by kernel_rfl) (by kernel_rfl) (by kernel_rfl) (by kernel_rfl) (by decide) (.inl ⟨rfl, rfl⟩) (.inr ⟨_, _, rfl, rfl⟩) (by omega) (by rw [List.map_take]) ·) ?_
         refine dv (At.z 1 ·) ?_
         refine dv (AW.g ·) ?_
         refine dv (At.a 2 ·) ?_
         refine dv (At.sI 48 ((k : Int) + 1) (by omega) ·) ?_
         refine dv (At.z 1 ·) ?_
         exact dw (fun _ h_ => AWL.weak (Sub.o [(0, 0), (122, 122), (251, 139)] [true, false, false, false, false, false, true, true, false, false, false, true, true, true]) h_) (ih2 (k + 1, ns, ((ml ++ (beat e4)).take 30), r4_.1, r4_.2.1) (⟨by omega, by (try simp only [List.length_set]); omega, by exact hns, ⟨by (try simp only [List.length_append, List.length_take, List.length_drop, List.length_nil] at *); omega, by exact mail_take (mail_app hml hmo) _⟩, by omega⟩) (by simp only; omega))
       refine dv (AW.condF (decide (((ml ++ (beat e4)).length : Int) > 30)) (by kernel_rfl) (decide_eq_false h11) ·) ?_
       refine dv (AW.skip ·) ?_
       refine dv (AW.g ·) ?_
       refine dv (At.a 2 ·) ?_
       refine dv (At.sI 48 ((k : Int) + 1) (by omega) ·) ?_
       refine dv (At.z 1 ·) ?_
       exact dw (fun _ h_ => AWL.weak (Sub.o [(0, 0), (122, 122), (246, 139)] [true, false, false, false, false, false, true, true, false, false, false, true, true, true]) h_) (ih2 (k + 1, ns, (ml ++ (beat e4)), r4_.1, r4_.2.1) (⟨by omega, by (try simp only [List.length_set]); omega, by exact hns, ⟨by (try simp only [List.length_append, List.length_take, List.length_drop, List.length_nil] at *); omega, by exact mail_app hml hmo⟩, by omega⟩) (by simp only; omega))
     refine dv (AW.condF (r4_.2.2 == 3) (by kernel_rfl) (beq_eq_false_iff_ne.2 h10) ·) ?_
     refine dv (AW.r ·) ?_
     refine dv (At.a 2 ·) ?_
     refine dv (At.sL 56 encOutT ml ·) ?_
     refine dv (At.z 1 ·) ?_
     by_cases h12 : (ml.length : Int) > 0
     · refine dv (AW.condT (decide ((ml.length : Int) > 0)) (by kernel_rfl) (decide_eq_true h12) ·) ?_
       refine dv (AW.r ·) ?_
       refine dv (At.a 3 ·) ?_
       refine dv (At.sL 60 encOutT ml ·) ?_
       refine dv (At.c (spec_l1Min_spec  (ml.length : Int) 4 ) Tryz.call111 true [] [] [] trivial ·) ?_
       refine Exists.elim (spec_l1Below_spec  (⟨c.data, r4_.1, r4_.2.1⟩ : Cur) (min (ml.length : Int) 4) (by omega)) fun r5_ hr5_ => ?_
       have qr5_ := hr5_.1
       try dsimp only at qr5_
       refine dv (At.c (hr5_.2) Tryz.call143 true [(0, 0)] [] [] trivial ·) ?_
       refine dv (At.z 1 ·) ?_
       refine dv (AW.r ·) ?_
       refine dv (At.a 2 ·) ?_
       refine dv (At.iRf 38 65 (.tmp 63) (.tmp 64) 139 (ml.map encOutT) .i64 r5_.2.2 51 17 (by omega) (by omega) ·) ?_
       refine Exists.elim (gE ml ((r5_.2.2).toNat) (by omega)) fun e5 he5 => ?_
       have hxe5 := hml _ (List.mem_of_getElem? he5)
       refine dv (At.lEl 51 66 (.tmp 65) 139 51 17 (ml.map encOutT) ((r5_.2.2).toNat) 0 true 17 (encOutT e5) (.agg [.int .i64 e5.to, .int .i64 e5.msg.kind, .int .i64 e5.msg.from_, .int .i64 e5.msg.term, .int .i64 e5.msg.at_, .int .i64 e5.msg.atTerm, .int .i64 e5.msg.commit, .bool e5.msg.yes, .int .i64 e5.msg.release, .int .i64 e5.msg.part, .str e5.msg.bytes, .int .i64 e5.msg.cmd.kind, .int .i64 e5.msg.cmd.release, .int .i64 e5.msg.cmd.node, .int .i64 e5.msg.cmd.size, .str e5.msg.cmd.digest, .sl true 6 (e5.msg.entries.map encEnt)]) (mapGet he5) ·) ?_
       refine dv (At.z 2 ·) ?_
       refine dv (AW.seq ·) ?_
       refine dv (AW.gD Tryz_mix ·) ?_
       refine dv (At.lit0 (t := 38) (d := 67) (e := 51) (es := 17) (bytes := 168) 167 (by kernel_rfl) (by kernel_rfl) (by kernel_rfl) (by kernel_rfl) ·) ?_
       refine dv (At.a 2 ·) ?_
       refine dv (At.sliceRef (t := 38) (d := 70) (e := 51) (es := 17) (i := 139) (x := .tmp 68) (lx := none) (hx := some (.tmp 69)) (xs := (ml.map encOutT)) (vl := .un) (vh := .int .i64 r5_.2.2) 0 ((r5_.2.2).toNat) (by kernel_rfl) (by kernel_rfl) (by kernel_rfl) (by kernel_rfl) (by kernel_rfl) (.inl ⟨rfl, rfl⟩) (.inr ⟨_, _, rfl, sayNat (by omega)⟩) (by omega) (by omega) ·) ?_
       refine dv (At.append (t := 38) (d := 71) (e := 51) (es := 17) (bytes := 168) (s := .tmp 67) (x := .tmp 70) (S := .ref 167) (T := .sub 139 0 (((r5_.2.2).toNat) - 0)) (xs := []) (ys := (((ml.drop 0).take (((r5_.2.2).toNat) - 0)).map encOutT)) 171 [167] [] (((ml.drop 0).take (((r5_.2.2).toNat) - 0)).map encOutT) (by kernel_rfl) (by kernel_rfl) (by kernel_rfl) (by kernel_rfl) ⟨by kernel_rfl, rfl⟩ ⟨(ml.map encOutT), by kernel_rfl, by rw [List.length_map]; omega, (by simp [List.map_take, List.map_drop]), (allP_encOutT _), rfl⟩ (by kernel_rfl) (by kernel_rfl) (by simp) (by omega) (by omega) ·) ?_
       refine dv (At.a 3 ·) ?_
       refine dv (At.sI 74 (r5_.2.2 + 1) (by omega) ·) ?_
       refine dv (At.sliceRef (t := 38) (d := 75) (e := 51) (es := 17) (i := 139) (x := .tmp 72) (lx := some (.tmp 74)) (hx := none) (xs := (ml.map encOutT)) (vl := .int .i64 (r5_.2.2 + 1)) (vh := .un) ((r5_.2.2 + 1).toNat) ml.length (by kernel_rfl) (by kernel_rfl) (by kernel_rfl) (by kernel_rfl) (by kernel_rfl) (.inr ⟨_, _, rfl, sayNat (by omega)⟩) (.inl ⟨rfl, (List.length_map _).symm⟩) (by omega) (by omega) ·) ?_
       refine dv (At.append (t := 38) (d := 76) (e := 51) (es := 17) (bytes := 168) (s := .tmp 71) (x := .tmp 75) (S := .ref 171) (T := .sub 139 ((r5_.2.2 + 1).toNat) (ml.length - ((r5_.2.2 + 1).toNat))) (xs := (((ml.drop 0).take (((r5_.2.2).toNat) - 0)).map encOutT)) (ys := (((ml.drop ((r5_.2.2 + 1).toNat)).take (ml.length - ((r5_.2.2 + 1).toNat))).map encOutT)) 176 [171] [] ((((ml.drop 0).take (((r5_.2.2).toNat) - 0)) ++ ((ml.drop ((r5_.2.2 + 1).toNat)).take (ml.length - ((r5_.2.2 + 1).toNat)))).map encOutT) (by kernel_rfl) (by kernel_rfl) (by kernel_rfl) (by kernel_rfl) ⟨by kernel_rfl, rfl⟩ ⟨(ml.map encOutT), by kernel_rfl, by rw [List.length_map]; omega, (by simp [List.map_take, List.map_drop]), (allP_encOutT _), rfl⟩ (by kernel_rfl) (by kernel_rfl) (by simp) (by omega) (by omega) ·) ?_
       refine dv (At.zD 1 ·) ?_
       refine Exists.elim (gE ns ((e5.to).toNat) (by omega)) fun e6 he6 => ?_
       have hye6 := hns _ (List.mem_of_getElem? he6)
       have hnne6 := hye6.nums
       have hsme6 := hnne6.2.2.2.2.2
       have hoke6 := hye6.1
       refine dv (AW.weak (Sub.openL 122 ((e5.to).toNat) 29 10 (ns.map encRaft) (encRaft e6) [(6, 5013), (7, 5014), (8, 5015), (9, 5016)] (by kernel_rfl) (mapGet he6) (by kernel_rfl)) ·) ?_
       refine dv (AW.gD Tryz_mix ·) ?_
       refine dv (At.a 6 ·) ?_
       refine dv (At.idxH 142 84 (.tmp 81) (.tmp 83) 122 ((ns.map encRaft).set ((e5.to).toNat) (.agg [.int .i64 e6.id, .int .i64 e6.of_, .int .i64 e6.role, .int .i64 e6.commit, .int .i64 e6.hard.term, .int .i64 e6.hard.vote, .un, .un, .un, .un])) ((e5.to).toNat) [(9, 5016), (8, 5015), (7, 5014), (6, 5013)] .i64 (e5.to) 29 10 (by omega) (by rw [List.length_set, List.length_map]; omega) ·) ?_
       refine dv (At.ldH 29 85 (.tmp 84) 122 29 10 ((ns.map encRaft).set ((e5.to).toNat) (.agg [.int .i64 e6.id, .int .i64 e6.of_, .int .i64 e6.role, .int .i64 e6.commit, .int .i64 e6.hard.term, .int .i64 e6.hard.vote, .un, .un, .un, .un])) ((e5.to).toNat) [(9, 5016), (8, 5015), (7, 5014), (6, 5013)] 0 true 10 (.agg [.int .i64 e6.id, .int .i64 e6.of_, .int .i64 e6.role, .int .i64 e6.commit, .int .i64 e6.hard.term, .int .i64 e6.hard.vote, .un, .un, .un, .un]) (.agg [.int .i64 e6.id, .int .i64 e6.of_, .int .i64 e6.role, .int .i64 e6.commit, .int .i64 e6.hard.term, .int .i64 e6.hard.vote, .ref 5013, .ref 5014, .ref 5015, .ref 5016]) (setGet (mapGet he6)) ·) ?_
       refine dv (At.a 2 ·) ?_
       refine dv (At.c (FnSpec.cv (As := [.agg [.int .i64 e6.id, .int .i64 e6.of_, .int .i64 e6.role, .int .i64 e6.commit, .int .i64 e6.hard.term, .int .i64 e6.hard.vote, .sl false 6 (e6.hard.log.map encEnt), .sl false 1 (e6.yes.map encI), .sl false 1 (e6.next.map encI), .sl false 1 (e6.match_.map encI)], .agg [.int .i64 e5.msg.kind, .int .i64 e5.msg.from_, .int .i64 e5.msg.term, .int .i64 e5.msg.at_, .int .i64 e5.msg.atTerm, .int .i64 e5.msg.commit, .bool e5.msg.yes, .int .i64 e5.msg.release, .int .i64 e5.msg.part, .str e5.msg.bytes, .int .i64 e5.msg.cmd.kind, .int .i64 e5.msg.cmd.release, .int .i64 e5.msg.cmd.node, .int .i64 e5.msg.cmd.size, .str e5.msg.cmd.digest, .sl true 6 (e5.msg.entries.map encEnt)]]) [0, 7] (spec_l10On_spec  e6 e5.msg (by assumption) (by omega) (by assumption))) Tryz.call169 false [] [(2760, 0), (2761, 1), (2762, 2), (2763, 3), (2764, 4), (2765, 5)] [(5013, 6, (e6.hard.log.map encEnt)), (5014, 1, (e6.yes.map encI)), (5015, 1, (e6.next.map encI)), (5016, 1, (e6.match_.map encI))] ⟨rfl, ⟨45, (e6.hard.log.map encEnt), by kernel_rfl, FrzIs.same (allP_encEnt _)⟩, rfl, ⟨3, (e6.yes.map encI), by kernel_rfl, FrzIs.same (allP_encI _)⟩, rfl, ⟨3, (e6.next.map encI), by kernel_rfl, FrzIs.same (allP_encI _)⟩, rfl, ⟨3, (e6.match_.map encI), by kernel_rfl, FrzIs.same (allP_encI _)⟩, trivial⟩ ·) ?_
       have hou := on_in e5.msg hye6
       have hnd := hou.1
       have hle := hou.2.1
       have hmo : MailIn r1_.2.2 _ := hou.2.2
       refine dv (At.a 4 ·) ?_
       refine dv (At.idxH 142 92 (.tmp 78) (.tmp 80) 122 ((ns.map encRaft).set ((e5.to).toNat) (.agg [.int .i64 e6.id, .int .i64 e6.of_, .int .i64 e6.role, .int .i64 e6.commit, .int .i64 e6.hard.term, .int .i64 e6.hard.vote, .un, .un, .un, .un])) ((e5.to).toNat) [(9, 5016), (8, 5015), (7, 5014), (6, 5013)] .i64 (e5.to) 29 10 (by omega) (by rw [List.length_set, List.length_map]; omega) ·) ?_
       refine dv (At.stH 29 122 29 10 ((e5.to).toNat) (.tmp 92) (.tmp 89) ((ns.map encRaft).set ((e5.to).toNat) (.agg [.int .i64 e6.id, .int .i64 e6.of_, .int .i64 e6.role, .int .i64 e6.commit, .int .i64 e6.hard.term, .int .i64 e6.hard.vote, .un, .un, .un, .un])) [.int .i64 (((onR e6 e5.msg).1).id), .int .i64 (((onR e6 e5.msg).1).of_), .int .i64 (((onR e6 e5.msg).1).role), .int .i64 (((onR e6 e5.msg).1).commit), .int .i64 (((onR e6 e5.msg).1).hard.term), .int .i64 (((onR e6 e5.msg).1).hard.vote), .ref 2760, .ref 2761, .ref 2762, .ref 2763] [.int .i64 e6.id, .int .i64 e6.of_, .int .i64 e6.role, .int .i64 e6.commit, .int .i64 e6.hard.term, .int .i64 e6.hard.vote, .un, .un, .un, .un] [(9, 5016), (8, 5015), (7, 5014), (6, 5013)] (setGet (mapGet he6)) ·) ?_
       refine dv (At.zD 1 ·) ?_
       refine dv (AW.seq ·) ?_
       refine dv (AW.weak (Sub.closeL 122 ((e5.to).toNat) 29 10 (((ns.map encRaft).set ((e5.to).toNat) (.agg [.int .i64 e6.id, .int .i64 e6.of_, .int .i64 e6.role, .int .i64 e6.commit, .int .i64 e6.hard.term, .int .i64 e6.hard.vote, .un, .un, .un, .un])).set ((e5.to).toNat) (.agg [.int .i64 (((onR e6 e5.msg).1).id), .int .i64 (((onR e6 e5.msg).1).of_), .int .i64 (((onR e6 e5.msg).1).role), .int .i64 (((onR e6 e5.msg).1).commit), .int .i64 (((onR e6 e5.msg).1).hard.term), .int .i64 (((onR e6 e5.msg).1).hard.vote), .un, .un, .un, .un])) ((ns.set ((e5.to).toNat) ((onR e6 e5.msg).1)).map encRaft) [(6, 2760), (7, 2761), (8, 2762), (9, 2763)] (.agg [.int .i64 (((onR e6 e5.msg).1).id), .int .i64 (((onR e6 e5.msg).1).of_), .int .i64 (((onR e6 e5.msg).1).role), .int .i64 (((onR e6 e5.msg).1).commit), .int .i64 (((onR e6 e5.msg).1).hard.term), .int .i64 (((onR e6 e5.msg).1).hard.vote), .un, .un, .un, .un]) (encRaft ((onR e6 e5.msg).1)) [(45, 6, ((((onR e6 e5.msg).1).hard.log).map encEnt)), (3, 1, ((((onR e6 e5.msg).1).yes).map encI)), (3, 1, ((((onR e6 e5.msg).1).next).map encI)), (3, 1, ((((onR e6 e5.msg).1).match_).map encI))] (by kernel_rfl) (setGet (setGet (mapGet he6))) (by kernel_rfl) (by kernel_rfl) (by intro p hp; simp only [List.mem_cons, List.not_mem_nil, or_false] at hp; rcases hp with rfl | rfl | rfl | rfl; all_goals first | exact flatEnts | exact flatInts | (intro x hx; cases hx)) (by kernel_rfl) (by kernel_rfl) (by rw [List.set_set, List.set_set]; exact setV.symm)) ·) ?_
       refine dv (AW.weak (Sub.frzIn 2765 51 17 (((onR e6 e5.msg).2.2).map encOut) (((onR e6 e5.msg).2.2).map encOutT) (by kernel_rfl) (frzOutT _)) ·) ?_
       refine dv (AW.g ·) ?_
       refine dv (At.a 2 ·) ?_
       refine dv (At.apC 146 51 17 168 246 176 2765 encOutT (((ml.drop 0).take (((r5_.2.2).toNat) - 0)) ++ ((ml.drop ((r5_.2.2 + 1).toNat)).take (ml.length - ((r5_.2.2 + 1).toNat)))) ((onR e6 e5.msg).2.2) (by omega) (allP_encOutT _) ·) ?_
       refine dv (At.z 1 ·) ?_
       refine dv (AW.r ·) ?_
       refine dv (At.a 2 ·) ?_
       refine dv (At.sL 148 encOutT ((((ml.drop 0).take (((r5_.2.2).toNat) - 0)) ++ ((ml.drop ((r5_.2.2 + 1).toNat)).take (ml.length - ((r5_.2.2 + 1).toNat)))) ++ ((onR e6 e5.msg).2.2)) ·) ?_
       refine dv (At.z 1 ·) ?_
       by_cases h13 : (((((ml.drop 0).take (((r5_.2.2).toNat) - 0)) ++ ((ml.drop ((r5_.2.2 + 1).toNat)).take (ml.length - ((r5_.2.2 + 1).toNat)))) ++ ((onR e6 e5.msg).2.2)).length : Int) > 30
       · refine dv (AW.condT (decide ((((((ml.drop 0).take (((r5_.2.2).toNat) - 0)) ++ ((ml.drop ((r5_.2.2 + 1).toNat)).take (ml.length - ((r5_.2.2 + 1).toNat)))) ++ ((onR e6 e5.msg).2.2)).length : Int) > 30)) (by kernel_rfl) (decide_eq_true h13) ·) ?_
         refine dv (AW.g ·) ?_
         refine dv (At.a 1 ·) ?_
         refine dv (At.cutRef (t := 38) (d := 151) (e := 51) (es := 17) (i := 246) (x := .tmp 150) (lx := none) (hx := some (.const (.int .i64 30))) (xs := (((((ml.drop 0).take (((r5_.2.2).toNat) - 0)) ++ ((ml.drop ((r5_.2.2 + 1).toNat)).take (ml.length - ((r5_.2.2 + 1).toNat)))) ++ ((onR e6 e5.msg).2.2)).map encOutT)) (vl := .un) (vh := .int .i64 30) 251 30 ((((((ml.drop 0).take (((r5_.2.2).toNat) - 0)) ++ ((ml.drop ((r5_.2.2 + 1).toNat)).take (ml.length - ((r5_.2.2 + 1).toNat)))) ++ ((onR e6 e5.msg).2.2)).take 30).map encOutT) (by kernel_rfl) (by kernel_rfl) (by kernel_rfl) (by kernel_rfl) (by kernel_rfl) (by kernel_rfl) (by decide) (.inl ⟨rfl, rfl⟩) (.inr ⟨_, _, rfl, rfl⟩) (by omega) (by rw [List.map_take]) ·) ?_
         refine dv (At.z 1 ·) ?_
         refine dv (AW.g ·) ?_
         refine dv (At.a 2 ·) ?_
         refine dv (At.sI 48 ((k : Int) + 1) (by omega) ·) ?_
         refine dv (At.z 1 ·) ?_
         exact dw (fun _ h_ => AWL.weak (Sub.o [(0, 0), (122, 122), (251, 139)] [true, false, false, false, false, false, true, true, false, false, false, true, true, true]) h_) (ih2 (k + 1, (ns.set ((e5.to).toNat) ((onR e6 e5.msg).1)), (((((ml.drop 0).take (((r5_.2.2).toNat) - 0)) ++ ((ml.drop ((r5_.2.2 + 1).toNat)).take (ml.length - ((r5_.2.2 + 1).toNat)))) ++ ((onR e6 e5.msg).2.2)).take 30), r5_.1, r5_.2.1) (⟨by omega, by (try simp only [List.length_set]); omega, by exact NodesIn.set hns _ hnd, ⟨by (try simp only [List.length_append, List.length_take, List.length_drop, List.length_nil] at *); omega, by exact mail_take (mail_app (mail_cut hml _ _ _) hmo) _⟩, by omega⟩) (by simp only; omega))
       refine dv (AW.condF (decide ((((((ml.drop 0).take (((r5_.2.2).toNat) - 0)) ++ ((ml.drop ((r5_.2.2 + 1).toNat)).take (ml.length - ((r5_.2.2 + 1).toNat)))) ++ ((onR e6 e5.msg).2.2)).length : Int) > 30)) (by kernel_rfl) (decide_eq_false h13) ·) ?_
       refine dv (AW.skip ·) ?_
       refine dv (AW.g ·) ?_
       refine dv (At.a 2 ·) ?_
       refine dv (At.sI 48 ((k : Int) + 1) (by omega) ·) ?_
       refine dv (At.z 1 ·) ?_
       exact dw (fun _ h_ => AWL.weak (Sub.o [(0, 0), (122, 122), (246, 139)] [true, false, false, false, false, false, true, true, false, false, false, true, true, true]) h_) (ih2 (k + 1, (ns.set ((e5.to).toNat) ((onR e6 e5.msg).1)), ((((ml.drop 0).take (((r5_.2.2).toNat) - 0)) ++ ((ml.drop ((r5_.2.2 + 1).toNat)).take (ml.length - ((r5_.2.2 + 1).toNat)))) ++ ((onR e6 e5.msg).2.2)), r5_.1, r5_.2.1) (⟨by omega, by (try simp only [List.length_set]); omega, by exact NodesIn.set hns _ hnd, ⟨by (try simp only [List.length_append, List.length_take, List.length_drop, List.length_nil] at *); omega, by exact mail_app (mail_cut hml _ _ _) hmo⟩, by omega⟩) (by simp only; omega))
     refine dv (AW.condF (decide ((ml.length : Int) > 0)) (by kernel_rfl) (decide_eq_false h12) ·) ?_
     refine dv (AW.skip ·) ?_
     refine dv (AW.r ·) ?_
     refine dv (At.a 2 ·) ?_
     refine dv (At.append (t := 38) (d := 146) (e := 51) (es := 17) (bytes := 168) (s := .tmp 144) (x := .tmp 145) (S := .ref 139) (T := .ref 152) (xs := (ml.map encOutT)) (ys := []) 246 [139] [] (ml.map encOutT) (by kernel_rfl) (by kernel_rfl) (by kernel_rfl) (by kernel_rfl) ⟨by kernel_rfl, rfl⟩ ⟨by kernel_rfl, .inl ⟨rfl, (fun _ h => by cases h)⟩⟩ (by kernel_rfl) (by kernel_rfl) (by simp) (by omega) (by omega) ·) ?_
     refine dv (At.z 1 ·) ?_
     refine dv (AW.r ·) ?_
     refine dv (At.a 2 ·) ?_
     refine dv (At.sL 148 encOutT ml ·) ?_
     refine dv (At.z 1 ·) ?_
     by_cases h14 : (ml.length : Int) > 30
     · refine dv (AW.condT (decide ((ml.length : Int) > 30)) (by kernel_rfl) (decide_eq_true h14) ·) ?_
       refine dv (AW.g ·) ?_
       refine dv (At.a 1 ·) ?_
       refine dv (At.cutRef (t := 38) (d := 151) (e := 51) (es := 17) (i := 246) (x := .tmp 150) (lx := none) (hx := some (.const (.int .i64 30))) (xs := (ml.map encOutT)) (vl := .un) (vh := .int .i64 30) 251 30 ((ml.take 30).map encOutT) (by kernel_rfl) (by kernel_rfl) (by kernel_rfl) (by kernel_rfl) (by kernel_rfl) (by kernel_rfl) (by decide) (.inl ⟨rfl, rfl⟩) (.inr ⟨_, _, rfl, rfl⟩) (by omega) (by rw [List.map_take]) ·) ?_
       refine dv (At.z 1 ·) ?_
       refine dv (AW.g ·) ?_
       refine dv (At.a 2 ·) ?_
       refine dv (At.sI 48 ((k : Int) + 1) (by omega) ·) ?_
       refine dv (At.z 1 ·) ?_
       exact dw (fun _ h_ => AWL.weak (Sub.o [(0, 0), (122, 122), (251, 139)] [true, false, false, false, false, false, true, true, false, false, false, true, true, true]) h_) (ih2 (k + 1, ns, (ml.take 30), r4_.1, r4_.2.1) (⟨by omega, by (try simp only [List.length_set]); omega, by exact hns, ⟨by (try simp only [List.length_append, List.length_take, List.length_drop, List.length_nil] at *); omega, by exact mail_take hml _⟩, by omega⟩) (by simp only; omega))
     refine dv (AW.condF (decide ((ml.length : Int) > 30)) (by kernel_rfl) (decide_eq_false h14) ·) ?_
     refine dv (AW.skip ·) ?_
     refine dv (AW.g ·) ?_
     refine dv (At.a 2 ·) ?_
     refine dv (At.sI 48 ((k : Int) + 1) (by omega) ·) ?_
     refine dv (At.z 1 ·) ?_
     exact dw (fun _ h_ => AWL.weak (Sub.o [(0, 0), (122, 122), (246, 139)] [true, false, false, false, false, false, true, true, false, false, false, true, true, true]) h_) (ih2 (k + 1, ns, ml, r4_.1, r4_.2.1) (⟨by omega, by (try simp only [List.length_set]); omega, by exact hns, ⟨by (try simp only [List.length_append, List.length_take, List.length_drop, List.length_nil] at *); omega, by exact hml⟩, by omega⟩) (by simp only; omega))
   refine dv (AW.condF (r4_.2.2 == 1) (by kernel_rfl) (beq_eq_false_iff_ne.2 h5) ·) ?_
   refine dv (AW.gq 2 ·) ?_
   by_cases h15 : r4_.2.2 = 2
   · refine dv (AW.condT (r4_.2.2 == 2) (by kernel_rfl) (beq_iff_eq.2 h15) ·) ?_
     refine dv (AW.seq ·) ?_
     refine dv (AW.q 1 ·) ?_
     refine dv (AW.block ·) ?_
     refine DW.loopQ (fun (x : Nat × Int) => match x with | (j, i) => Go.Sy.mk [.ptr 0 0 0, .un, .un, .un, .un, .un, .int .i64 r1_.2.2, .ref 122, .un, .un, .un, .ref 139, .int .i64 r2_.2.2, .int .i64 (k : Int), .int .i64 i, .un, .int .i64 (j : Int)] [(0, .box 141 [.sl false 1 (c.data.map encU8), .int .i64 r4_.1, .int .i64 r4_.2.1]), (122, .arr 29 10 (ns.map encRaft)), (139, .arr 51 17 (ml.map encOutT))]) (fun (x : Nat × Int) => match x with | (j, i) => (j : Int) ≤ r1_.2.2 ∧ 0 ≤ i ∧ i < r1_.2.2) (fun (x : Nat × Int) => match x with | (j, i) => (r1_.2.2).toNat - j) (0, r3_.2.2) (by simp only; omega) (Sub.o [(0, 0), (122, 122), (139, 139)] [true, false, false, false, false, false, true, true, false, false, false, true, true, true, true, false, true]) ?_
     rintro ⟨j, i⟩ hj ih4
     refine dv (AW.seq ·) ?_
     refine dv (AW.q 3 ·) ?_
     by_cases h16 : (j : Int) < r1_.2.2
     · refine dv (AW.condT (decide ((j : Int) < r1_.2.2)) (by kernel_rfl) (decide_eq_true h16) ·) ?_
       refine dv (AW.skip ·) ?_
       refine dv (AW.seq ·) ?_
       refine dv (AW.block ·) ?_
       refine dv (AW.r ·) ?_
       refine dv (At.a 2 ·) ?_
       refine dv (At.iRf 142 117 (.tmp 115) (.tmp 116) 122 (ns.map encRaft) .i64 (j : Int) 29 10 (by omega) (by simp only [List.length_map]; omega) ·) ?_
       refine dv (At.a 1 ·) ?_
       refine Exists.elim (gE ns j (by omega)) fun e7 he7 => ?_
       have hye7 := hns _ (List.mem_of_getElem? he7)
       have hnne7 := hye7.nums
       have hsme7 := hnne7.2.2.2.2.2
       have hoke7 := hye7.1
       refine dv (At.ldP 3 119 (.tmp 118) 122 29 10 (ns.map encRaft) j 2 false 1 (encRaft e7) (.int .i64 e7.role) (mapGet he7) ·) ?_
       refine dv (At.z 1 ·) ?_
       by_cases h17 : e7.role = 3
       · refine dv (AW.condT (e7.role == 3) (by kernel_rfl) (beq_iff_eq.2 h17) ·) ?_
         refine dv (AW.gq 2 ·) ?_
         refine dv (AW.g ·) ?_
         refine dv (At.a 2 ·) ?_
         refine dv (At.sI 114 ((j : Int) + 1) (by omega) ·) ?_
         refine dv (At.z 1 ·) ?_
         exact dw (fun _ h_ => AWL.weak (Sub.o [(0, 0), (122, 122), (139, 139)] [true, false, false, false, false, false, true, true, false, false, false, true, true, true, true, false, true]) h_) (ih4 (j + 1, (j : Int)) (by simp only; omega) (by simp only; omega))
       refine dv (AW.condF (e7.role == 3) (by kernel_rfl) (beq_eq_false_iff_ne.2 h17) ·) ?_
       refine dv (AW.skip ·) ?_
       refine dv (AW.g ·) ?_
       refine dv (At.a 2 ·) ?_
       refine dv (At.sI 114 ((j : Int) + 1) (by omega) ·) ?_
       refine dv (At.z 1 ·) ?_
       exact dw (fun _ h_ => AWL.weak (Sub.o [(0, 0), (122, 122), (139, 139)] [true, false, false, false, false, false, true, true, false, false, false, true, true, true, true, false, true]) h_) (ih4 (j + 1, i) (by simp only; omega) (by simp only; omega))
     refine dv (AW.condF (decide ((j : Int) < r1_.2.2)) (by kernel_rfl) (decide_eq_false h16) ·) ?_
     refine dv (AW.exit ·) ?_
     refine Exists.elim (gE ns ((i).toNat) (by omega)) fun e8 he8 => ?_
     have hye8 := hns _ (List.mem_of_getElem? he8)
     have hnne8 := hye8.nums
     have hsme8 := hnne8.2.2.2.2.2
     have hoke8 := hye8.1
     refine dv (AW.weak (Sub.openL 122 ((i).toNat) 29 10 (ns.map encRaft) (encRaft e8) [(6, 5017), (7, 5018), (8, 5019), (9, 5020)] (by kernel_rfl) (mapGet he8) (by kernel_rfl)) ·) ?_
     refine dv (AW.gD Tryz_mix ·) ?_
     refine dv (At.a 4 ·) ?_
     refine dv (At.idxH 142 127 (.tmp 125) (.tmp 126) 122 ((ns.map encRaft).set ((i).toNat) (.agg [.int .i64 e8.id, .int .i64 e8.of_, .int .i64 e8.role, .int .i64 e8.commit, .int .i64 e8.hard.term, .int .i64 e8.hard.vote, .un, .un, .un, .un])) ((i).toNat) [(9, 5020), (8, 5019), (7, 5018), (6, 5017)] .i64 (i) 29 10 (by omega) (by rw [List.length_set, List.length_map]; omega) ·) ?_
     refine dv (At.ldH 29 128 (.tmp 127) 122 29 10 ((ns.map encRaft).set ((i).toNat) (.agg [.int .i64 e8.id, .int .i64 e8.of_, .int .i64 e8.role, .int .i64 e8.commit, .int .i64 e8.hard.term, .int .i64 e8.hard.vote, .un, .un, .un, .un])) ((i).toNat) [(9, 5020), (8, 5019), (7, 5018), (6, 5017)] 0 true 10 (.agg [.int .i64 e8.id, .int .i64 e8.of_, .int .i64 e8.role, .int .i64 e8.commit, .int .i64 e8.hard.term, .int .i64 e8.hard.vote, .un, .un, .un, .un]) (.agg [.int .i64 e8.id, .int .i64 e8.of_, .int .i64 e8.role, .int .i64 e8.commit, .int .i64 e8.hard.term, .int .i64 e8.hard.vote, .ref 5017, .ref 5018, .ref 5019, .ref 5020]) (setGet (mapGet he8)) ·) ?_
     refine dv (At.a 1 ·) ?_
     refine Exists.elim (spec_l5DrawRight_spec  (⟨c.data, r4_.1, r4_.2.1⟩ : Cur) (by dsimp only; omega)) fun r5_ hr5_ => ?_
     have qr5_ := hr5_.1
     try dsimp only at qr5_
     refine dv (At.c (hr5_.2) Tryz.call61 true [(0, 0)] [] [] trivial ·) ?_
     refine dv (At.c (spec_RaftPropose_spec  e8 r5_.2.2 (by assumption)) Tryz.call33 false [] [(3620, 0), (3621, 1), (3622, 2), (3623, 3), (3624, 4), (3625, 5)] [(5017, 6, (e8.hard.log.map encEnt)), (5018, 1, (e8.yes.map encI)), (5019, 1, (e8.next.map encI)), (5020, 1, (e8.match_.map encI))] ⟨rfl, ⟨45, (e8.hard.log.map encEnt), by kernel_rfl, FrzIs.same (allP_encEnt _)⟩, rfl, ⟨3, (e8.yes.map encI), by kernel_rfl, FrzIs.same (allP_encI _)⟩, rfl, ⟨3, (e8.next.map encI), by kernel_rfl, FrzIs.same (allP_encI _)⟩, rfl, ⟨3, (e8.match_.map encI), by kernel_rfl, FrzIs.same (allP_encI _)⟩, trivial⟩ ·) ?_
     have hou := prop_in r5_.2.2 hye8
     have hnd := hou.1
     have hle := hou.2.1
     have hmo : MailIn r1_.2.2 _ := hou.2.2
     refine dv (At.a 5 ·) ?_
     refine dv (At.idxH 142 136 (.tmp 123) (.tmp 124) 122 ((ns.map encRaft).set ((i).toNat) (.agg [.int .i64 e8.id, .int .i64 e8.of_, .int .i64 e8.role, .int .i64 e8.commit, .int .i64 e8.hard.term, .int .i64 e8.hard.vote, .un, .un, .un, .un])) ((i).toNat) [(9, 5020), (8, 5019), (7, 5018), (6, 5017)] .i64 (i) 29 10 (by omega) (by rw [List.length_set, List.length_map]; omega) ·) ?_
     refine dv (At.stH 29 122 29 10 ((i).toNat) (.tmp 136) (.tmp 132) ((ns.map encRaft).set ((i).toNat) (.agg [.int .i64 e8.id, .int .i64 e8.of_, .int .i64 e8.role, .int .i64 e8.commit, .int .i64 e8.hard.term, .int .i64 e8.hard.vote, .un, .un, .un, .un])) [.int .i64 ((propR e8 r5_.2.2).id), .int .i64 ((propR e8 r5_.2.2).of_), .int .i64 ((propR e8 r5_.2.2).role), .int .i64 ((propR e8 r5_.2.2).commit), .int .i64 ((propR e8 r5_.2.2).hard.term), .int .i64 ((propR e8 r5_.2.2).hard.vote), .ref 3620, .ref 3621, .ref 3622, .ref 3623] [.int .i64 e8.id, .int .i64 e8.of_, .int .i64 e8.role, .int .i64 e8.commit, .int .i64 e8.hard.term, .int .i64 e8.hard.vote, .un, .un, .un, .un] [(9, 5020), (8, 5019), (7, 5018), (6, 5017)] (setGet (mapGet he8)) ·) ?_
     refine dv (At.zD 1 ·) ?_
     refine dv (AW.seq ·) ?_
     refine dv (AW.weak (Sub.closeL 122 ((i).toNat) 29 10 (((ns.map encRaft).set ((i).toNat) (.agg [.int .i64 e8.id, .int .i64 e8.of_, .int .i64 e8.role, .int .i64 e8.commit, .int .i64 e8.hard.term, .int .i64 e8.hard.vote, .un, .un, .un, .un])).set ((i).toNat) (.agg [.int .i64 ((propR e8 r5_.2.2).id), .int .i64 ((propR e8 r5_.2.2).of_), .int .i64 ((propR e8 r5_.2.2).role), .int .i64 ((propR e8 r5_.2.2).commit), .int .i64 ((propR e8 r5_.2.2).hard.term), .int .i64 ((propR e8 r5_.2.2).hard.vote), .un, .un, .un, .un])) ((ns.set ((i).toNat) (propR e8 r5_.2.2)).map encRaft) [(6, 3620), (7, 3621), (8, 3622), (9, 3623)] (.agg [.int .i64 ((propR e8 r5_.2.2).id), .int .i64 ((propR e8 r5_.2.2).of_), .int .i64 ((propR e8 r5_.2.2).role), .int .i64 ((propR e8 r5_.2.2).commit), .int .i64 ((propR e8 r5_.2.2).hard.term), .int .i64 ((propR e8 r5_.2.2).hard.vote), .un, .un, .un, .un]) (encRaft (propR e8 r5_.2.2)) [(45, 6, (((propR e8 r5_.2.2).hard.log).map encEnt)), (3, 1, (((propR e8 r5_.2.2).yes).map encI)), (3, 1, (((propR e8 r5_.2.2).next).map encI)), (3, 1, (((propR e8 r5_.2.2).match_).map encI))] (by kernel_rfl) (setGet (setGet (mapGet he8))) (by kernel_rfl) (by kernel_rfl) (by intro p hp; simp only [List.mem_cons, List.not_mem_nil, or_false] at hp; rcases hp with rfl | rfl | rfl | rfl; all_goals first | exact flatEnts | exact flatInts | (intro x hx; cases hx)) (by kernel_rfl) (by kernel_rfl) (by rw [List.set_set, List.set_set]; exact setV.symm)) ·) ?_
     refine dv (AW.weak (Sub.frzIn 3625 51 17 ((propOuts e8 r5_.2.2).map encOut) ((propOuts e8 r5_.2.2).map encOutT) (by kernel_rfl) (frzOutT _)) ·) ?_
     refine dv (AW.g ·) ?_
     refine dv (At.a 2 ·) ?_
     refine dv (At.apC 146 51 17 168 246 139 3625 encOutT ml (propOuts e8 r5_.2.2) (by omega) (allP_encOutT _) ·) ?_
     refine dv (At.z 1 ·) ?_
     refine dv (AW.r ·) ?_
     refine dv (At.a 2 ·) ?_
     refine dv (At.sL 148 encOutT (ml ++ (propOuts e8 r5_.2.2)) ·) ?_
     refine dv (At.z 1 ·) ?_
     by_cases h18 : ((ml ++ (propOuts e8 r5_.2.2)).length : Int) > 30
     · refine dv (AW.condT (decide (((ml ++ (propOuts e8 r5_.2.2)).length : Int) > 30)) (by kernel_rfl) (decide_eq_true h18) ·) ?_
       refine dv (AW.g ·) ?_
       refine dv (At.a 1 ·) ?_
       refine dv (At.cutRef (t := 38) (d := 151) (e := 51) (es := 17) (i := 246) (x := .tmp 150) (lx := none) (hx := some (.const (.int .i64 30))) (xs := ((ml ++ (propOuts e8 r5_.2.2)).map encOutT)) (vl := .un) (vh := .int .i64 30) 251 30 (((ml ++ (propOuts e8 r5_.2.2)).take 30).map encOutT) (by kernel_rfl) (by kernel_rfl) (by kernel_rfl) (by kernel_rfl) (by kernel_rfl) (by kernel_rfl) (by decide) (.inl ⟨rfl, rfl⟩) (.inr ⟨_, _, rfl, rfl⟩) (by simp only [List.length_map]; omega) (by rw [List.map_take]) ·) ?_
       refine dv (At.z 1 ·) ?_
       refine dv (AW.g ·) ?_
       refine dv (At.a 2 ·) ?_
       refine dv (At.sI 48 ((k : Int) + 1) (by omega) ·) ?_
       refine dv (At.z 1 ·) ?_
       exact dw (fun _ h_ => AWL.weak (Sub.o [(0, 0), (122, 122), (251, 139)] [true, false, false, false, false, false, true, true, false, false, false, true, true, true]) h_) (ih2 (k + 1, (ns.set ((i).toNat) (propR e8 r5_.2.2)), ((ml ++ (propOuts e8 r5_.2.2)).take 30), r5_.1, r5_.2.1) (⟨by omega, by (try simp only [List.length_set]); omega, by exact NodesIn.set hns _ hnd, ⟨by (try simp only [List.length_append, List.length_take, List.length_drop, List.length_nil] at *); omega, by exact mail_take (mail_app hml hmo) _⟩, by omega⟩) (by simp only; omega))
     refine dv (AW.condF (decide (((ml ++ (propOuts e8 r5_.2.2)).length : Int) > 30)) (by kernel_rfl) (decide_eq_false h18) ·) ?_
     refine dv (AW.skip ·) ?_
     refine dv (AW.g ·) ?_
     refine dv (At.a 2 ·) ?_
     refine dv (At.sI 48 ((k : Int) + 1) (by omega) ·) ?_
     refine dv (At.z 1 ·) ?_
     exact dw (fun _ h_ => AWL.weak (Sub.o [(0, 0), (122, 122), (246, 139)] [true, false, false, false, false, false, true, true, false, false, false, true, true, true]) h_) (ih2 (k + 1, (ns.set ((i).toNat) (propR e8 r5_.2.2)), (ml ++ (propOuts e8 r5_.2.2)), r5_.1, r5_.2.1) (⟨by omega, by (try simp only [List.length_set]); omega, by exact NodesIn.set hns _ hnd, ⟨by (try simp only [List.length_append, List.length_take, List.length_drop, List.length_nil] at *); omega, by exact mail_app hml hmo⟩, by omega⟩) (by simp only; omega))
   refine dv (AW.condF (r4_.2.2 == 2) (by kernel_rfl) (beq_eq_false_iff_ne.2 h15) ·) ?_
   refine dv (AW.q 2 ·) ?_
   by_cases h19 : r4_.2.2 = 3
   · refine dv (AW.condT (r4_.2.2 == 3) (by kernel_rfl) (beq_iff_eq.2 h19) ·) ?_
     refine Exists.elim (gE ns ((r3_.2.2).toNat) (by omega)) fun e9 he9 => ?_
     have hye9 := hns _ (List.mem_of_getElem? he9)
     have hnne9 := hye9.nums
     have hsme9 := hnne9.2.2.2.2.2
     have hoke9 := hye9.1
     refine dv (AW.weak (Sub.openL 122 ((r3_.2.2).toNat) 29 10 (ns.map encRaft) (encRaft e9) [(6, 5021), (7, 5022), (8, 5023), (9, 5024)] (by kernel_rfl) (mapGet he9) (by kernel_rfl)) ·) ?_
     refine dv (AW.g ·) ?_
     refine dv (At.a 2 ·) ?_
     refine dv (At.idxH 142 141 (.tmp 139) (.tmp 140) 122 ((ns.map encRaft).set ((r3_.2.2).toNat) (.agg [.int .i64 e9.id, .int .i64 e9.of_, .int .i64 e9.role, .int .i64 e9.commit, .int .i64 e9.hard.term, .int .i64 e9.hard.vote, .un, .un, .un, .un])) ((r3_.2.2).toNat) [(9, 5024), (8, 5023), (7, 5022), (6, 5021)] .i64 (r3_.2.2) 29 10 (by omega) (by rw [List.length_set, List.length_map]; omega) ·) ?_
     refine dv (At.ldH 29 142 (.tmp 141) 122 29 10 ((ns.map encRaft).set ((r3_.2.2).toNat) (.agg [.int .i64 e9.id, .int .i64 e9.of_, .int .i64 e9.role, .int .i64 e9.commit, .int .i64 e9.hard.term, .int .i64 e9.hard.vote, .un, .un, .un, .un])) ((r3_.2.2).toNat) [(9, 5024), (8, 5023), (7, 5022), (6, 5021)] 0 true 10 (.agg [.int .i64 e9.id, .int .i64 e9.of_, .int .i64 e9.role, .int .i64 e9.commit, .int .i64 e9.hard.term, .int .i64 e9.hard.vote, .un, .un, .un, .un]) (.agg [.int .i64 e9.id, .int .i64 e9.of_, .int .i64 e9.role, .int .i64 e9.commit, .int .i64 e9.hard.term, .int .i64 e9.hard.vote, .ref 5021, .ref 5022, .ref 5023, .ref 5024]) (setGet (mapGet he9)) ·) ?_
     refine dv (At.c (spec_RaftBeat_spec  e9 (by assumption)) Tryz.call25 false [] [(3860, 0)] [(5021, 6, (e9.hard.log.map encEnt)), (5022, 1, (e9.yes.map encI)), (5023, 1, (e9.next.map encI)), (5024, 1, (e9.match_.map encI))] ⟨rfl, ⟨45, (e9.hard.log.map encEnt), by kernel_rfl, FrzIs.same (allP_encEnt _)⟩, rfl, ⟨3, (e9.yes.map encI), by kernel_rfl, FrzIs.same (allP_encI _)⟩, rfl, ⟨3, (e9.next.map encI), by kernel_rfl, FrzIs.same (allP_encI _)⟩, rfl, ⟨3, (e9.match_.map encI), by kernel_rfl, FrzIs.same (allP_encI _)⟩, trivial⟩ ·) ?_
     have hou := beat_in hye9
     have hle := hou.1
     have hmo : MailIn r1_.2.2 _ := hou.2
     refine dv (At.z 1 ·) ?_
     refine dv (AW.seq ·) ?_
     refine dv (AW.weak (Sub.closeL 122 ((r3_.2.2).toNat) 29 10 ((ns.map encRaft).set ((r3_.2.2).toNat) (.agg [.int .i64 e9.id, .int .i64 e9.of_, .int .i64 e9.role, .int .i64 e9.commit, .int .i64 e9.hard.term, .int .i64 e9.hard.vote, .un, .un, .un, .un])) (ns.map encRaft) [(9, 5024), (8, 5023), (7, 5022), (6, 5021)] (.agg [.int .i64 e9.id, .int .i64 e9.of_, .int .i64 e9.role, .int .i64 e9.commit, .int .i64 e9.hard.term, .int .i64 e9.hard.vote, .un, .un, .un, .un]) (encRaft e9) [(3, 1, (e9.match_.map encI)), (3, 1, (e9.next.map encI)), (3, 1, (e9.yes.map encI)), (45, 6, (e9.hard.log.map encEnt))] (by kernel_rfl) (setGet (mapGet he9)) (by kernel_rfl) (by kernel_rfl) (by intro p hp; simp only [List.mem_cons, List.not_mem_nil, or_false] at hp; rcases hp with rfl | rfl | rfl | rfl; all_goals first | exact flatEnts | exact flatInts | (intro x hx; cases hx)) (by kernel_rfl) (by kernel_rfl) (by rw [List.set_set]; exact set_self (mapGet he9))) ·) ?_
     refine dv (AW.weak (Sub.frzIn 3860 51 17 ((beat e9).map encOut) ((beat e9).map encOutT) (by kernel_rfl) (frzOutT _)) ·) ?_
     refine dv (AW.g ·) ?_
     refine dv (At.a 2 ·) ?_
     refine dv (At.apC 146 51 17 168 246 139 3860 encOutT ml (beat e9) (by omega) (allP_encOutT _) ·) ?_
     refine dv (At.z 1 ·) ?_
     refine dv (AW.r ·) ?_
     refine dv (At.a 2 ·) ?_
     refine dv (At.sL 148 encOutT (ml ++ (beat e9)) ·) ?_
     refine dv (At.z 1 ·) ?_
     by_cases h20 : ((ml ++ (beat e9)).length : Int) > 30
     · refine dv (AW.condT (decide (((ml ++ (beat e9)).length : Int) > 30)) (by kernel_rfl) (decide_eq_true h20) ·) ?_
       refine dv (AW.g ·) ?_
       refine dv (At.a 1 ·) ?_
       refine dv (At.cutRef (t := 38) (d := 151) (e := 51) (es := 17) (i := 246) (x := .tmp 150) (lx := none) (hx := some (.const (.int .i64 30))) (xs := ((ml ++ (beat e9)).map encOutT)) (vl := .un) (vh := .int .i64 30) 251 30 (((ml ++ (beat e9)).take 30).map encOutT) (by kernel_rfl) (by kernel_rfl) (by kernel_rfl) (by kernel_rfl) (by kernel_rfl) (by kernel_rfl) (by decide) (.inl ⟨rfl, rfl⟩) (.inr ⟨_, _, rfl, rfl⟩) (by simp only [List.length_map]; omega) (by rw [List.map_take]) ·) ?_
       refine dv (At.z 1 ·) ?_
       refine dv (AW.g ·) ?_
       refine dv (At.a 2 ·) ?_
       refine dv (At.sI 48 ((k : Int) + 1) (by omega) ·) ?_
       refine dv (At.z 1 ·) ?_
       exact dw (fun _ h_ => AWL.weak (Sub.o [(0, 0), (122, 122), (251, 139)] [true, false, false, false, false, false, true, true, false, false, false, true, true, true]) h_) (ih2 (k + 1, ns, ((ml ++ (beat e9)).take 30), r4_.1, r4_.2.1) (⟨by omega, by (try simp only [List.length_set]); omega, by exact hns, ⟨by (try simp only [List.length_append, List.length_take, List.length_drop, List.length_nil] at *); omega, by exact mail_take (mail_app hml hmo) _⟩, by omega⟩) (by simp only; omega))
     refine dv (AW.condF (decide (((ml ++ (beat e9)).length : Int) > 30)) (by kernel_rfl) (decide_eq_false h20) ·) ?_
     refine dv (AW.skip ·) ?_
     refine dv (AW.g ·) ?_
     refine dv (At.a 2 ·) ?_
     refine dv (At.sI 48 ((k : Int) + 1) (by omega) ·) ?_
     refine dv (At.z 1 ·) ?_
     exact dw (fun _ h_ => AWL.weak (Sub.o [(0, 0), (122, 122), (246, 139)] [true, false, false, false, false, false, true, true, false, false, false, true, true, true]) h_) (ih2 (k + 1, ns, (ml ++ (beat e9)), r4_.1, r4_.2.1) (⟨by omega, by (try simp only [List.length_set]); omega, by exact hns, ⟨by (try simp only [List.length_append, List.length_take, List.length_drop, List.length_nil] at *); omega, by exact mail_app hml hmo⟩, by omega⟩) (by simp only; omega))
   refine dv (AW.condF (r4_.2.2 == 3) (by kernel_rfl) (beq_eq_false_iff_ne.2 h19) ·) ?_
   refine dv (AW.r ·) ?_
   refine dv (At.a 2 ·) ?_
   refine dv (At.sL 56 encOutT ml ·) ?_
   refine dv (At.z 1 ·) ?_
   by_cases h21 : (ml.length : Int) > 0
   · refine dv (AW.condT (decide ((ml.length : Int) > 0)) (by kernel_rfl) (decide_eq_true h21) ·) ?_
     refine dv (AW.r ·) ?_
     refine dv (At.a 3 ·) ?_
     refine dv (At.sL 60 encOutT ml ·) ?_
     refine dv (At.c (spec_l1Min_spec  (ml.length : Int) 4 ) Tryz.call111 true [] [] [] trivial ·) ?_
     refine Exists.elim (spec_l1Below_spec  (⟨c.data, r4_.1, r4_.2.1⟩ : Cur) (min (ml.length : Int) 4) (by dsimp only; omega)) fun r5_ hr5_ => ?_
     have qr5_ := hr5_.1
     try dsimp only at qr5_
     refine dv (At.c (hr5_.2) Tryz.call143 true [(0, 0)] [] [] trivial ·) ?_
     refine dv (At.z 1 ·) ?_
     refine dv (AW.r ·) ?_
     refine dv (At.a 2 ·) ?_
     refine dv (At.iRf 38 65 (.tmp 63) (.tmp 64) 139 (ml.map encOutT) .i64 r5_.2.2 51 17 (by omega) (by simp only [List.length_map]; omega) ·) ?_
     refine Exists.elim (gE ml ((r5_.2.2).toNat) (by omega)) fun e10 he10 => ?_
     have hxe10 := hml _ (List.mem_of_getElem? he10)
     refine dv (At.lEl 51 66 (.tmp 65) 139 51 17 (ml.map encOutT) ((r5_.2.2).toNat) 0 true 17 (encOutT e10) (.agg [.int .i64 e10.to, .int .i64 e10.msg.kind, .int .i64 e10.msg.from_, .int .i64 e10.msg.term, .int .i64 e10.msg.at_, .int .i64 e10.msg.atTerm, .int .i64 e10.msg.commit, .bool e10.msg.yes, .int .i64 e10.msg.release, .int .i64 e10.msg.part, .str e10.msg.bytes, .int .i64 e10.msg.cmd.kind, .int .i64 e10.msg.cmd.release, .int .i64 e10.msg.cmd.node, .int .i64 e10.msg.cmd.size, .str e10.msg.cmd.digest, .sl true 6 (e10.msg.entries.map encEnt)]) (mapGet he10) ·) ?_
     refine dv (At.z 2 ·) ?_
     refine dv (AW.seq ·) ?_
     refine dv (AW.gD Tryz_mix ·) ?_
     refine dv (At.lit0 (t := 38) (d := 67) (e := 51) (es := 17) (bytes := 168) 167 (by kernel_rfl) (by kernel_rfl) (by kernel_rfl) (by kernel_rfl) ·) ?_
     refine dv (At.a 2 ·) ?_
     refine dv (At.sliceRef (t := 38) (d := 70) (e := 51) (es := 17) (i := 139) (x := .tmp 68) (lx := none) (hx := some (.tmp 69)) (xs := (ml.map encOutT)) (vl := .un) (vh := .int .i64 r5_.2.2) 0 ((r5_.2.2).toNat) (by kernel_rfl) (by kernel_rfl) (by kernel_rfl) (by kernel_rfl) (by kernel_rfl) (.inl ⟨rfl, rfl⟩) (.inr ⟨_, _, rfl, sayNat (by omega)⟩) (by omega) (by simp only [List.length_map]; omega) ·) ?_
     refine dv (At.append (t := 38) (d := 71) (e := 51) (es := 17) (bytes := 168) (s := .tmp 67) (x := .tmp 70) (S := .ref 167) (T := .sub 139 0 (((r5_.2.2).toNat) - 0)) (xs := []) (ys := (((ml.drop 0).take (((r5_.2.2).toNat) - 0)).map encOutT)) 171 [167] [] (((ml.drop 0).take (((r5_.2.2).toNat) - 0)).map encOutT) (by kernel_rfl) (by kernel_rfl) (by kernel_rfl) (by kernel_rfl) ⟨by kernel_rfl, rfl⟩ ⟨(ml.map encOutT), by kernel_rfl, by rw [List.length_map]; omega, (by simp [List.map_take, List.map_drop]), (allP_encOutT _), rfl⟩ (by kernel_rfl) (by kernel_rfl) (by simp) (by simp only [List.length_map, List.length_append, List.length_take, List.length_drop, List.length_replicate, List.length_set, List.length_cons, List.length_nil]; omega) (by simp only [List.length_map, List.length_append, List.length_take, List.length_drop, List.length_replicate, List.length_set, List.length_cons, List.length_nil]; omega) ·) ?_
     refine dv (At.a 3 ·) ?_
     refine dv (At.sI 74 (r5_.2.2 + 1) (by omega) ·) ?_
     refine dv (At.sliceRef (t := 38) (d := 75) (e := 51) (es := 17) (i := 139) (x := .tmp 72) (lx := some (.tmp 74)) (hx := none) (xs := (ml.map encOutT)) (vl := .int .i64 (r5_.2.2 + 1)) (vh := .un) ((r5_.2.2 + 1).toNat) ml.length (by kernel_rfl) (by kernel_rfl) (by kernel_rfl) (by kernel_rfl) (by kernel_rfl) (.inr ⟨_, _, rfl, sayNat (by omega)⟩) (.inl ⟨rfl, (List.length_map _).symm⟩) (by omega) (by simp only [List.length_map]; omega) ·) ?_
     refine dv (At.append (t := 38) (d := 76) (e := 51) (es := 17) (bytes := 168) (s := .tmp 71) (x := .tmp 75) (S := .ref 171) (T := .sub 139 ((r5_.2.2 + 1).toNat) (ml.length - ((r5_.2.2 + 1).toNat))) (xs := (((ml.drop 0).take (((r5_.2.2).toNat) - 0)).map encOutT)) (ys := (((ml.drop ((r5_.2.2 + 1).toNat)).take (ml.length - ((r5_.2.2 + 1).toNat))).map encOutT)) 176 [171] [] ((((ml.drop 0).take (((r5_.2.2).toNat) - 0)) ++ ((ml.drop ((r5_.2.2 + 1).toNat)).take (ml.length - ((r5_.2.2 + 1).toNat)))).map encOutT) (by kernel_rfl) (by kernel_rfl) (by kernel_rfl) (by kernel_rfl) ⟨by kernel_rfl, rfl⟩ ⟨(ml.map encOutT), by kernel_rfl, by rw [List.length_map]; omega, (by simp [List.map_take, List.map_drop]), (allP_encOutT _), rfl⟩ (by kernel_rfl) (by kernel_rfl) (by simp) (by simp only [List.length_map, List.length_append, List.length_take, List.length_drop, List.length_replicate, List.length_set, List.length_cons, List.length_nil]; omega) (by simp only [List.length_map, List.length_append, List.length_take, List.length_drop, List.length_replicate, List.length_set, List.length_cons, List.length_nil]; omega) ·) ?_
     refine dv (At.zD 1 ·) ?_
     refine Exists.elim (gE ns ((e10.to).toNat) (by omega)) fun e11 he11 => ?_
     have hye11 := hns _ (List.mem_of_getElem? he11)
     have hnne11 := hye11.nums
     have hsme11 := hnne11.2.2.2.2.2
     have hoke11 := hye11.1
     refine dv (AW.weak (Sub.openL 122 ((e10.to).toNat) 29 10 (ns.map encRaft) (encRaft e11) [(6, 5025), (7, 5026), (8, 5027), (9, 5028)] (by kernel_rfl) (mapGet he11) (by kernel_rfl)) ·) ?_
     refine dv (AW.gD Tryz_mix ·) ?_
     refine dv (At.a 6 ·) ?_
     refine dv (At.idxH 142 84 (.tmp 81) (.tmp 83) 122 ((ns.map encRaft).set ((e10.to).toNat) (.agg [.int .i64 e11.id, .int .i64 e11.of_, .int .i64 e11.role, .int .i64 e11.commit, .int .i64 e11.hard.term, .int .i64 e11.hard.vote, .un, .un, .un, .un])) ((e10.to).toNat) [(9, 5028), (8, 5027), (7, 5026), (6, 5025)] .i64 (e10.to) 29 10 (by omega) (by rw [List.length_set, List.length_map]; omega) ·) ?_
     refine dv (At.ldH 29 85 (.tmp 84) 122 29 10 ((ns.map encRaft).set ((e10.to).toNat) (.agg [.int .i64 e11.id, .int .i64 e11.of_, .int .i64 e11.role, .int .i64 e11.commit, .int .i64 e11.hard.term, .int .i64 e11.hard.vote, .un, .un, .un, .un])) ((e10.to).toNat) [(9, 5028), (8, 5027), (7, 5026), (6, 5025)] 0 true 10 (.agg [.int .i64 e11.id, .int .i64 e11.of_, .int .i64 e11.role, .int .i64 e11.commit, .int .i64 e11.hard.term, .int .i64 e11.hard.vote, .un, .un, .un, .un]) (.agg [.int .i64 e11.id, .int .i64 e11.of_, .int .i64 e11.role, .int .i64 e11.commit, .int .i64 e11.hard.term, .int .i64 e11.hard.vote, .ref 5025, .ref 5026, .ref 5027, .ref 5028]) (setGet (mapGet he11)) ·) ?_
     refine dv (At.a 2 ·) ?_
     refine dv (At.c (FnSpec.cv (As := [.agg [.int .i64 e11.id, .int .i64 e11.of_, .int .i64 e11.role, .int .i64 e11.commit, .int .i64 e11.hard.term, .int .i64 e11.hard.vote, .sl false 6 (e11.hard.log.map encEnt), .sl false 1 (e11.yes.map encI), .sl false 1 (e11.next.map encI), .sl false 1 (e11.match_.map encI)], .agg [.int .i64 e10.msg.kind, .int .i64 e10.msg.from_, .int .i64 e10.msg.term, .int .i64 e10.msg.at_, .int .i64 e10.msg.atTerm, .int .i64 e10.msg.commit, .bool e10.msg.yes, .int .i64 e10.msg.release, .int .i64 e10.msg.part, .str e10.msg.bytes, .int .i64 e10.msg.cmd.kind, .int .i64 e10.msg.cmd.release, .int .i64 e10.msg.cmd.node, .int .i64 e10.msg.cmd.size, .str e10.msg.cmd.digest, .sl true 6 (e10.msg.entries.map encEnt)]]) [0, 7] (spec_l10On_spec  e11 e10.msg (by assumption) (by omega) (by assumption))) Tryz.call169 false [] [(2760, 0), (2761, 1), (2762, 2), (2763, 3), (2764, 4), (2765, 5)] [(5025, 6, (e11.hard.log.map encEnt)), (5026, 1, (e11.yes.map encI)), (5027, 1, (e11.next.map encI)), (5028, 1, (e11.match_.map encI))] ⟨rfl, ⟨45, (e11.hard.log.map encEnt), by kernel_rfl, FrzIs.same (allP_encEnt _)⟩, rfl, ⟨3, (e11.yes.map encI), by kernel_rfl, FrzIs.same (allP_encI _)⟩, rfl, ⟨3, (e11.next.map encI), by kernel_rfl, FrzIs.same (allP_encI _)⟩, rfl, ⟨3, (e11.match_.map encI), by kernel_rfl, FrzIs.same (allP_encI _)⟩, trivial⟩ ·) ?_
     have hou := on_in e10.msg hye11
     have hnd := hou.1
     have hle := hou.2.1
     have hmo : MailIn r1_.2.2 _ := hou.2.2
     refine dv (At.a 4 ·) ?_
     refine dv (At.idxH 142 92 (.tmp 78) (.tmp 80) 122 ((ns.map encRaft).set ((e10.to).toNat) (.agg [.int .i64 e11.id, .int .i64 e11.of_, .int .i64 e11.role, .int .i64 e11.commit, .int .i64 e11.hard.term, .int .i64 e11.hard.vote, .un, .un, .un, .un])) ((e10.to).toNat) [(9, 5028), (8, 5027), (7, 5026), (6, 5025)] .i64 (e10.to) 29 10 (by omega) (by rw [List.length_set, List.length_map]; omega) ·) ?_
     refine dv (At.stH 29 122 29 10 ((e10.to).toNat) (.tmp 92) (.tmp 89) ((ns.map encRaft).set ((e10.to).toNat) (.agg [.int .i64 e11.id, .int .i64 e11.of_, .int .i64 e11.role, .int .i64 e11.commit, .int .i64 e11.hard.term, .int .i64 e11.hard.vote, .un, .un, .un, .un])) [.int .i64 (((onR e11 e10.msg).1).id), .int .i64 (((onR e11 e10.msg).1).of_), .int .i64 (((onR e11 e10.msg).1).role), .int .i64 (((onR e11 e10.msg).1).commit), .int .i64 (((onR e11 e10.msg).1).hard.term), .int .i64 (((onR e11 e10.msg).1).hard.vote), .ref 2760, .ref 2761, .ref 2762, .ref 2763] [.int .i64 e11.id, .int .i64 e11.of_, .int .i64 e11.role, .int .i64 e11.commit, .int .i64 e11.hard.term, .int .i64 e11.hard.vote, .un, .un, .un, .un] [(9, 5028), (8, 5027), (7, 5026), (6, 5025)] (setGet (mapGet he11)) ·) ?_
     refine dv (At.zD 1 ·) ?_
     refine dv (AW.seq ·) ?_
     refine dv (AW.weak (Sub.closeL 122 ((e10.to).toNat) 29 10 (((ns.map encRaft).set ((e10.to).toNat) (.agg [.int .i64 e11.id, .int .i64 e11.of_, .int .i64 e11.role, .int .i64 e11.commit, .int .i64 e11.hard.term, .int .i64 e11.hard.vote, .un, .un, .un, .un])).set ((e10.to).toNat) (.agg [.int .i64 (((onR e11 e10.msg).1).id), .int .i64 (((onR e11 e10.msg).1).of_), .int .i64 (((onR e11 e10.msg).1).role), .int .i64 (((onR e11 e10.msg).1).commit), .int .i64 (((onR e11 e10.msg).1).hard.term), .int .i64 (((onR e11 e10.msg).1).hard.vote), .un, .un, .un, .un])) ((ns.set ((e10.to).toNat) ((onR e11 e10.msg).1)).map encRaft) [(6, 2760), (7, 2761), (8, 2762), (9, 2763)] (.agg [.int .i64 (((onR e11 e10.msg).1).id), .int .i64 (((onR e11 e10.msg).1).of_), .int .i64 (((onR e11 e10.msg).1).role), .int .i64 (((onR e11 e10.msg).1).commit), .int .i64 (((onR e11 e10.msg).1).hard.term), .int .i64 (((onR e11 e10.msg).1).hard.vote), .un, .un, .un, .un]) (encRaft ((onR e11 e10.msg).1)) [(45, 6, ((((onR e11 e10.msg).1).hard.log).map encEnt)), (3, 1, ((((onR e11 e10.msg).1).yes).map encI)), (3, 1, ((((onR e11 e10.msg).1).next).map encI)), (3, 1, ((((onR e11 e10.msg).1).match_).map encI))] (by kernel_rfl) (setGet (setGet (mapGet he11))) (by kernel_rfl) (by kernel_rfl) (by intro p hp; simp only [List.mem_cons, List.not_mem_nil, or_false] at hp; rcases hp with rfl | rfl | rfl | rfl; all_goals first | exact flatEnts | exact flatInts | (intro x hx; cases hx)) (by kernel_rfl) (by kernel_rfl) (by rw [List.set_set, List.set_set]; exact setV.symm)) ·) ?_
     refine dv (AW.weak (Sub.frzIn 2765 51 17 (((onR e11 e10.msg).2.2).map encOut) (((onR e11 e10.msg).2.2).map encOutT) (by kernel_rfl) (frzOutT _)) ·) ?_
     refine dv (AW.g ·) ?_
     refine dv (At.a 2 ·) ?_
     refine dv (At.apC 146 51 17 168 246 176 2765 encOutT (((ml.drop 0).take (((r5_.2.2).toNat) - 0)) ++ ((ml.drop ((r5_.2.2 + 1).toNat)).take (ml.length - ((r5_.2.2 + 1).toNat)))) ((onR e11 e10.msg).2.2) (by simp only [List.length_map, List.length_append, List.length_take, List.length_drop, List.length_replicate, List.length_set, List.length_cons, List.length_nil]; omega) (allP_encOutT _) ·) ?_
     refine dv (At.z 1 ·) ?_
     refine dv (AW.r ·) ?_
     refine dv (At.a 2 ·) ?_
     refine dv (At.sL 148 encOutT ((((ml.drop 0).take (((r5_.2.2).toNat) - 0)) ++ ((ml.drop ((r5_.2.2 + 1).toNat)).take (ml.length - ((r5_.2.2 + 1).toNat)))) ++ ((onR e11 e10.msg).2.2)) ·) ?_
     refine dv (At.z 1 ·) ?_
     by_cases h22 : (((((ml.drop 0).take (((r5_.2.2).toNat) - 0)) ++ ((ml.drop ((r5_.2.2 + 1).toNat)).take (ml.length - ((r5_.2.2 + 1).toNat)))) ++ ((onR e11 e10.msg).2.2)).length : Int) > 30
     · refine dv (AW.condT (decide ((((((ml.drop 0).take (((r5_.2.2).toNat) - 0)) ++ ((ml.drop ((r5_.2.2 + 1).toNat)).take (ml.length - ((r5_.2.2 + 1).toNat)))) ++ ((onR e11 e10.msg).2.2)).length : Int) > 30)) (by kernel_rfl) (decide_eq_true h22) ·) ?_
       refine dv (AW.g ·) ?_
       refine dv (At.a 1 ·) ?_
       refine dv (At.cutRef (t := 38) (d := 151) (e := 51) (es := 17) (i := 246) (x := .tmp 150) (lx := none) (hx := some (.const (.int .i64 30))) (xs := (((((ml.drop 0).take (((r5_.2.2).toNat) - 0)) ++ ((ml.drop ((r5_.2.2 + 1).toNat)).take (ml.length - ((r5_.2.2 + 1).toNat)))) ++ ((onR e11 e10.msg).2.2)).map encOutT)) (vl := .un) (vh := .int .i64 30) 251 30 ((((((ml.drop 0).take (((r5_.2.2).toNat) - 0)) ++ ((ml.drop ((r5_.2.2 + 1).toNat)).take (ml.length - ((r5_.2.2 + 1).toNat)))) ++ ((onR e11 e10.msg).2.2)).take 30).map encOutT) (by kernel_rfl) (by kernel_rfl) (by kernel_rfl) (by kernel_rfl) (by kernel_rfl) (by kernel_rfl) (by decide) (.inl ⟨rfl, rfl⟩) (.inr ⟨_, _, rfl, rfl⟩) (by simp only [List.length_map]; omega) (by rw [List.map_take]) ·) ?_
       refine dv (At.z 1 ·) ?_
       refine dv (AW.g ·) ?_
       refine dv (At.a 2 ·) ?_
       refine dv (At.sI 48 ((k : Int) + 1) (by omega) ·) ?_
       refine dv (At.z 1 ·) ?_
       exact dw (fun _ h_ => AWL.weak (Sub.o [(0, 0), (122, 122), (251, 139)] [true, false, false, false, false, false, true, true, false, false, false, true, true, true]) h_) (ih2 (k + 1, (ns.set ((e10.to).toNat) ((onR e11 e10.msg).1)), (((((ml.drop 0).take (((r5_.2.2).toNat) - 0)) ++ ((ml.drop ((r5_.2.2 + 1).toNat)).take (ml.length - ((r5_.2.2 + 1).toNat)))) ++ ((onR e11 e10.msg).2.2)).take 30), r5_.1, r5_.2.1) (⟨by omega, by (try simp only [List.length_set]); omega, by exact NodesIn.set hns _ hnd, ⟨by (try simp only [List.length_append, List.length_take, List.length_drop, List.length_nil] at *); omega, by exact mail_take (mail_app (mail_cut hml _ _ _) hmo) _⟩, by omega⟩) (by simp only; omega))
     refine dv (AW.condF (decide ((((((ml.drop 0).take (((r5_.2.2).toNat) - 0)) ++ ((ml.drop ((r5_.2.2 + 1).toNat)).take (ml.length - ((r5_.2.2 + 1).toNat)))) ++ ((onR e11 e10.msg).2.2)).length : Int) > 30)) (by kernel_rfl) (decide_eq_false h22) ·) ?_
     refine dv (AW.skip ·) ?_
     refine dv (AW.g ·) ?_
     refine dv (At.a 2 ·) ?_
     refine dv (At.sI 48 ((k : Int) + 1) (by omega) ·) ?_
     refine dv (At.z 1 ·) ?_
     exact dw (fun _ h_ => AWL.weak (Sub.o [(0, 0), (122, 122), (246, 139)] [true, false, false, false, false, false, true, true, false, false, false, true, true, true]) h_) (ih2 (k + 1, (ns.set ((e10.to).toNat) ((onR e11 e10.msg).1)), ((((ml.drop 0).take (((r5_.2.2).toNat) - 0)) ++ ((ml.drop ((r5_.2.2 + 1).toNat)).take (ml.length - ((r5_.2.2 + 1).toNat)))) ++ ((onR e11 e10.msg).2.2)), r5_.1, r5_.2.1) (⟨by omega, by (try simp only [List.length_set]); omega, by exact NodesIn.set hns _ hnd, ⟨by (try simp only [List.length_append, List.length_take, List.length_drop, List.length_nil] at *); omega, by exact mail_app (mail_cut hml _ _ _) hmo⟩, by omega⟩) (by simp only; omega))
   refine dv (AW.condF (decide ((ml.length : Int) > 0)) (by kernel_rfl) (decide_eq_false h21) ·) ?_
   refine dv (AW.skip ·) ?_
   refine dv (AW.r ·) ?_
   refine dv (At.a 2 ·) ?_
   refine dv (At.append (t := 38) (d := 146) (e := 51) (es := 17) (bytes := 168) (s := .tmp 144) (x := .tmp 145) (S := .ref 139) (T := .ref 152) (xs := (ml.map encOutT)) (ys := []) 246 [139] [] (ml.map encOutT) (by kernel_rfl) (by kernel_rfl) (by kernel_rfl) (by kernel_rfl) ⟨by kernel_rfl, rfl⟩ ⟨by kernel_rfl, .inl ⟨rfl, (fun _ h => by cases h)⟩⟩ (by kernel_rfl) (by kernel_rfl) (by simp) (by simp only [List.length_map, List.length_append, List.length_take, List.length_drop, List.length_replicate, List.length_set, List.length_cons, List.length_nil]; omega) (by simp only [List.length_map, List.length_append, List.length_take, List.length_drop, List.length_replicate, List.length_set, List.length_cons, List.length_nil]; omega) ·) ?_
   refine dv (At.z 1 ·) ?_
   refine dv (AW.r ·) ?_
   refine dv (At.a 2 ·) ?_
   refine dv (At.sL 148 encOutT ml ·) ?_
   refine dv (At.z 1 ·) ?_
   by_cases h23 : (ml.length : Int) > 30
   · refine dv (AW.condT (decide ((ml.length : Int) > 30)) (by kernel_rfl) (decide_eq_true h23) ·) ?_
     refine dv (AW.g ·) ?_
     refine dv (At.a 1 ·) ?_
     refine dv (At.cutRef (t := 38) (d := 151) (e := 51) (es := 17) (i := 246) (x := .tmp 150) (lx := none) (hx := some (.const (.int .i64 30))) (xs := (ml.map encOutT)) (vl := .un) (vh := .int .i64 30) 251 30 ((ml.take 30).map encOutT) (by kernel_rfl) (by kernel_rfl) (by kernel_rfl) (by kernel_rfl) (by kernel_rfl) (by kernel_rfl) (by decide) (.inl ⟨rfl, rfl⟩) (.inr ⟨_, _, rfl, rfl⟩) (by omega) (by rw [List.map_take]) ·) ?_
     refine dv (At.z 1 ·) ?_
     refine dv (AW.g ·) ?_
     refine dv (At.a 2 ·) ?_
     refine dv (At.sI 48 ((k : Int) + 1) (by omega) ·) ?_
     refine dv (At.z 1 ·) ?_
     exact dw (fun _ h_ => AWL.weak (Sub.o [(0, 0), (122, 122), (251, 139)] [true, false, false, false, false, false, true, true, false, false, false, true, true, true]) h_) (ih2 (k + 1, ns, (ml.take 30), r4_.1, r4_.2.1) (⟨by omega, by (try simp only [List.length_set]); omega, by exact hns, ⟨by (try simp only [List.length_append, List.length_take, List.length_drop, List.length_nil] at *); omega, by exact mail_take hml _⟩, by omega⟩) (by simp only; omega))
   refine dv (AW.condF (decide ((ml.length : Int) > 30)) (by kernel_rfl) (decide_eq_false h23) ·) ?_
   refine dv (AW.skip ·) ?_
   refine dv (AW.g ·) ?_
   refine dv (At.a 2 ·) ?_
   refine dv (At.sI 48 ((k : Int) + 1) (by omega) ·) ?_
   refine dv (At.z 1 ·) ?_
   exact dw (fun _ h_ => AWL.weak (Sub.o [(0, 0), (122, 122), (246, 139)] [true, false, false, false, false, false, true, true, false, false, false, true, true, true]) h_) (ih2 (k + 1, ns, ml, r4_.1, r4_.2.1) (⟨by omega, by (try simp only [List.length_set]); omega, by exact hns, ⟨by (try simp only [List.length_append, List.length_take, List.length_drop, List.length_nil] at *); omega, by exact hml⟩, by omega⟩) (by simp only; omega))
 refine dv (AW.condF (decide ((k : Int) < r2_.2.2)) (by kernel_rfl) (decide_eq_false h2) ·) ?_
 refine dv (AW.exit ·) ?_
 refine dv (AW.q 4 ·) ?_
 refine dv (AW.ret ·) ?_
 refine dv (⟨_, Sub.refl _ _, ·⟩) ?_
 exact ⟨(p, s, ns, ml), ⟨by (try dsimp only); omega, by (try dsimp only); omega, _, hof, hl, hns, hm, hml⟩, KF.mk (.inr rfl) [(0, 0), (122, 1), (139, 2)] [.ref 122, .ref 139] (by kernel_rfl) (by kernel_rfl) (by kernel_rfl) (by kernel_rfl) (by kernel_rfl)⟩
theorem spec_l1Once_spec  (c : Cur) (n : Int) (hp : 0 ≤ c.pos ∧ c.pos ≤ c.data.length ∧ c.data.length ≤ 1048576) : ∃ rho_ : Int × Int × Bool, (0 ≤ rho_.1 ∧ rho_.1 ≤ c.data.length) ∧ FnSpec Tryz.prog 58 [.ptr 0 0 0, .int .i64 n] [.box 141 [.sl false 1 (c.data.map encU8), .int .i64 c.pos, .int .i64 c.seed]] (.bool rho_.2.2) [.box 141 [.sl false 1 (c.data.map encU8), .int .i64 rho_.1, .int .i64 rho_.2.1]] := by
 refine dv (fun h_ => FnSpec.of 9 Tryz.func58 rfl Tryz.ntmps58 (by simp) (AW.weakK h_)) ?_
 refine dv (AW.q 1 ·) ?_
 refine dv (AW.r ·) ?_
 refine dv (At.a 2 ·) ?_
 refine Exists.elim (spec_l1Below_spec  c n (by omega)) fun r1_ hr1_ => ?_
 have qr1_ := hr1_.1
 try dsimp only at qr1_
 refine dv (At.c (hr1_.2) Tryz.call143 true [(0, 0)] [] [] trivial ·) ?_
 refine dv (At.z 2 ·) ?_
 refine dv (AW.ret ·) ?_
 refine dv (⟨_, Sub.refl _ _, ·⟩) ?_
 exact ⟨(r1_.1, r1_.2.1, r1_.2.2 == 0), (by dsimp only; omega), KF.mk (.inr rfl) [(0, 0)] [.bool (r1_.2.2 == 0)] (by kernel_rfl) (by kernel_rfl) (by kernel_rfl) (by kernel_rfl) (by kernel_rfl)⟩
theorem spec_l1DrawBytes_spec  (c : Cur) (most : Int) (hp : 0 ≤ c.pos ∧ c.pos ≤ c.data.length ∧ c.data.length ≤ 1048576) (hm : 0 ≤ most ∧ most ≤ 100000) : ∃ rho_ : Int × Int × List UInt8, (0 ≤ rho_.1 ∧ rho_.1 ≤ c.data.length ∧ (rho_.2.2.length : Int) ≤ max most 0) ∧ FnSpec Tryz.prog 191 [.ptr 0 0 0, .int .i64 most] [.box 141 [.sl false 1 (c.data.map encU8), .int .i64 c.pos, .int .i64 c.seed]] (.ref 1) [.box 141 [.sl false 1 (c.data.map encU8), .int .i64 rho_.1, .int .i64 rho_.2.1], .arr 5 1 (rho_.2.2.map encU8)] := by
 refine dv (fun h_ => FnSpec.of 25 Tryz.func191 rfl Tryz.ntmps191 (by simp) (AW.weakK h_)) ?_
 refine dv (AW.q 1 ·) ?_
 refine dv (AW.r ·) ?_
 refine dv (At.lit0 (t := 22) (d := 8) (e := 5) (es := 1) (bytes := 1) 108 (by kernel_rfl) (by kernel_rfl) (by kernel_rfl) (by kernel_rfl) ·) ?_
 refine dv (At.z 1 ·) ?_
 refine dv (AW.r ·) ?_
 refine dv (At.a 3 ·) ?_
 refine dv (At.sI 11 (most + 1) (by omega) ·) ?_
 refine Exists.elim (spec_l1Below_spec  c (most + 1) (by omega)) fun r1_ hr1_ => ?_
 have qr1_ := hr1_.1
 try dsimp only at qr1_
 refine dv (At.c (hr1_.2) Tryz.call143 true [(0, 0)] [] [] trivial ·) ?_
 refine dv (At.z 1 ·) ?_
 refine dv (AW.seq ·) ?_
 refine dv (AW.q 1 ·) ?_
 refine dv (AW.block ·) ?_
 refine DW.loopQ (fun (x : Nat × List UInt8 × Int × Int) => match x with | (k, o, p, s) => Go.Sy.mk [.ptr 0 0 0, .un, .un, .un, .un, .ref 108, .int .i64 r1_.2.2, .int .i64 (k : Int)] [(0, .box 141 [.sl false 1 (c.data.map encU8), .int .i64 p, .int .i64 s]), (108, .arr 5 1 (o.map encU8))]) (fun (x : Nat × List UInt8 × Int × Int) => match x with | (k, o, p, s) => (k : Int) ≤ r1_.2.2 ∧ o.length = k ∧ (0 ≤ p ∧ p ≤ c.data.length)) (fun (x : Nat × List UInt8 × Int × Int) => match x with | (k, o, p, s) => r1_.2.2.toNat - k) (0, [], r1_.1, r1_.2.1) ⟨by omega, rfl, by omega⟩ (Sub.o [(0, 0), (108, 108)] [true, false, false, false, false, true, true, true]) ?_
 rintro ⟨k, o, p, s⟩ hk ih1
 refine dv (AW.seq ·) ?_
 refine dv (AW.q 3 ·) ?_
 by_cases h1 : (k : Int) < r1_.2.2
 · refine dv (AW.condT (decide ((k : Int) < r1_.2.2)) (by kernel_rfl) (decide_eq_true h1) ·) ?_
   refine dv (AW.skip ·) ?_
   refine dv (AW.seq ·) ?_
   refine dv (AW.block ·) ?_
   refine dv (AW.g ·) ?_
   refine dv (At.a 2 ·) ?_
   refine Exists.elim (spec_l1Byte_spec  (⟨c.data, p, s⟩ : Cur) (by dsimp only; omega)) fun r2_ hr2_ => ?_
   have qr2_ := hr2_.1
   try dsimp only at qr2_
   refine dv (At.c (hr2_.2) Tryz.call170 true [(0, 0)] [] [] trivial ·) ?_
   refine dv (At.conv (s := 3) (t := 5) (d := 21) (x := .tmp 20) (kd := .i64) (kd' := .u8) (a := r2_.2.2) (.int .u8 ((u8Of r2_.2.2).toNat : Int)) (by kernel_rfl) (by kernel_rfl) (by kernel_rfl) (by kernel_rfl) (sayByte _) ·) ?_
   refine dv (At.ll 22 5 1 122 (45, 6) (([(u8Of r2_.2.2)]).map encU8) ·) ?_
   refine dv (At.apK 23 5 1 1 123 108 122 encU8 o ([(u8Of r2_.2.2)]) (by simp only [List.length_map, List.length_append, List.length_take, List.length_drop, List.length_replicate, List.length_set, List.length_cons, List.length_nil]; omega) ·) ?_
   refine dv (At.z 1 ·) ?_
   refine dv (AW.g ·) ?_
   refine dv (At.a 2 ·) ?_
   refine dv (At.sI 17 ((k : Int) + 1) (by omega) ·) ?_
   refine dv (At.z 1 ·) ?_
   exact dw (fun _ h_ => AWL.weak (Sub.o [(0, 0), (123, 108)] [true, false, false, false, false, true, true, true]) h_) (ih1 (k + 1, (o ++ ([(u8Of r2_.2.2)])), r2_.1, r2_.2.1) (by simp only [List.length_append, List.length_cons, List.length_nil]; omega) (by simp only; omega))
 refine dv (AW.condF (decide ((k : Int) < r1_.2.2)) (by kernel_rfl) (decide_eq_false h1) ·) ?_
 refine dv (AW.exit ·) ?_
 refine dv (AW.q 2 ·) ?_
 refine dv (AW.ret ·) ?_
 refine dv (⟨_, Sub.refl _ _, ·⟩) ?_
 exact ⟨(p, s, o), (by dsimp only; omega), KF.mk (.inr rfl) [(0, 0), (108, 1)] [.ref 108] (by kernel_rfl) (by kernel_rfl) (by kernel_rfl) (by kernel_rfl) (by kernel_rfl)⟩
theorem spec_l3DrawText_spec  (c : Cur) (most : Int) (hp : 0 ≤ c.pos ∧ c.pos ≤ c.data.length ∧ c.data.length ≤ 1048576) (hm : 0 ≤ most ∧ most ≤ 100000) : ∃ rho_ : Int × Int × ByteArray, (0 ≤ rho_.1 ∧ rho_.1 ≤ c.data.length ∧ (rho_.2.2.size : Int) ≤ max most 0) ∧ FnSpec Tryz.prog 172 [.ptr 0 0 0, .int .i64 most] [.box 141 [.sl false 1 (c.data.map encU8), .int .i64 c.pos, .int .i64 c.seed]] (.str rho_.2.2) [.box 141 [.sl false 1 (c.data.map encU8), .int .i64 rho_.1, .int .i64 rho_.2.1]] := by
 refine dv (fun h_ => FnSpec.of 9 Tryz.func172 rfl Tryz.ntmps172 (by simp) (AW.weakK h_)) ?_
 refine dv (AW.q 1 ·) ?_
 refine dv (AW.r ·) ?_
 refine dv (At.a 2 ·) ?_
 refine Exists.elim (spec_l1DrawBytes_spec  c most (by omega) hm) fun r1_ hr1_ => ?_
 have qr1_ := hr1_.1
 try dsimp only at qr1_
 refine dv (At.c (hr1_.2) Tryz.call191 true [(0, 0)] [(1140, 1)] [] trivial ·) ?_
 refine dv (At.b2s (s := 22) (t := 9) (e := 5) (d := 8) (x := .tmp 7) (T := .ref 1140) (r1_.2.2) [] (by kernel_rfl) (by kernel_rfl) (by kernel_rfl) (by kernel_rfl) ⟨by kernel_rfl, .inl ⟨rfl, (allP_encU8 _)⟩⟩ ·) ?_
 refine dv (At.z 1 ·) ?_
 refine dv (AW.ret ·) ?_
 refine dv (⟨_, Sub.refl _ _, ·⟩) ?_
 exact ⟨(r1_.1, r1_.2.1, strOf r1_.2.2), (by dsimp only; rw [strOf_size]; omega), KF.mk (.inr rfl) [(0, 0)] [.str (strOf r1_.2.2)] (by kernel_rfl) (by kernel_rfl) (by kernel_rfl) (by kernel_rfl) (by kernel_rfl)⟩
theorem spec_l8DrawRight_spec  (c : Cur) (hp : 0 ≤ c.pos ∧ c.pos ≤ c.data.length ∧ c.data.length ≤ 1048576) : ∃ rho_ : Int × Int × Msg, (0 ≤ rho_.1 ∧ rho_.1 ≤ c.data.length ∧ rho_.2.2.entries.length ≤ 100) ∧ FnSpec Tryz.prog 144 [.ptr 0 0 0] [.box 141 [.sl false 1 (c.data.map encU8), .int .i64 c.pos, .int .i64 c.seed]] (.agg [.int .i64 rho_.2.2.kind, .int .i64 rho_.2.2.from_, .int .i64 rho_.2.2.term, .int .i64 rho_.2.2.at_, .int .i64 rho_.2.2.atTerm, .int .i64 rho_.2.2.commit, .bool rho_.2.2.yes, .int .i64 rho_.2.2.release, .int .i64 rho_.2.2.part, .str rho_.2.2.bytes, .int .i64 rho_.2.2.cmd.kind, .int .i64 rho_.2.2.cmd.release, .int .i64 rho_.2.2.cmd.node, .int .i64 rho_.2.2.cmd.size, .str rho_.2.2.cmd.digest, .ref 1]) [.box 141 [.sl false 1 (c.data.map encU8), .int .i64 rho_.1, .int .i64 rho_.2.1], .arr 45 6 (rho_.2.2.entries.map encEnt)] := by
 refine dv (fun h_ => FnSpec.of 95 Tryz.func144 rfl Tryz.ntmps144 (by simp) (AW.weakK h_)) ?_
 refine dv (AW.q 1 ·) ?_
 refine dv (AW.seq ·) ?_
 refine dv (AW.weak (Sub.nils [⟨true, 102, some 15, 5001, 45, 6⟩] (by kernel_rfl)) ·) ?_
 refine dv (AW.g ·) ?_
 refine dv (At.a 1 ·) ?_
 refine Exists.elim (spec_l1Below_spec  c 7 (by omega)) fun r1_ hr1_ => ?_
 have qr1_ := hr1_.1
 try dsimp only at qr1_
 refine dv (At.c (hr1_.2) Tryz.call143 true [(0, 0)] [] [] trivial ·) ?_
 refine dv (At.a 1 ·) ?_
 refine dv (At.sI 9 (1 + r1_.2.2) (by omega) ·) ?_
 refine dv (At.z 3 ·) ?_
 refine dv (AW.seq ·) ?_
 refine dv (AW.weak (Sub.nils [⟨true, 103, some 15, 5002, 45, 6⟩] (by kernel_rfl)) ·) ?_
 refine dv (AW.g ·) ?_
 refine dv (At.a 2 ·) ?_
 refine dv (At.c (spec_l8Has_spec  (1 + r1_.2.2) ) Tryz.call171 true [] [] [] trivial ·) ?_
 have hf6 := l8F_six (1 + r1_.2.2)
 refine dv (At.z 1 ·) ?_
 refine dv (AW.seq ·) ?_
 refine dv (AW.q 1 ·) ?_
 refine dv (AW.block ·) ?_
 refine DW.loopQ (fun (x : Nat × Msg × Int × Int) => match x with | (i, q, p, s) => Go.Sy.mk [.ptr 0 0 0, .un, .ptr 102 0 0, .ptr 103 0 0, .str (l8F (1 + r1_.2.2)), .int .i64 (i : Int)] [(0, .box 141 [.sl false 1 (c.data.map encU8), .int .i64 p, .int .i64 s]), (102, .box 33 [.int .i64 0, .int .i64 0, .int .i64 0, .int .i64 0, .int .i64 0, .int .i64 0, .bool false, .int .i64 0, .int .i64 0, .str (⟨#[]⟩ : ByteArray), .int .i64 0, .int .i64 0, .int .i64 0, .int .i64 0, .str (⟨#[]⟩ : ByteArray), .ref 5001]), (103, .box 33 [.int .i64 q.kind, .int .i64 q.from_, .int .i64 q.term, .int .i64 q.at_, .int .i64 q.atTerm, .int .i64 q.commit, .bool q.yes, .int .i64 q.release, .int .i64 q.part, .str q.bytes, .int .i64 q.cmd.kind, .int .i64 q.cmd.release, .int .i64 q.cmd.node, .int .i64 q.cmd.size, .str q.cmd.digest, .ref 5002]), (5001, .arr 45 6 []), (5002, .arr 45 6 (q.entries.map encEnt))]) (fun (x : Nat × Msg × Int × Int) => match x with | (i, q, p, s) => i ≤ (l8F (1 + r1_.2.2)).size ∧ q.entries.length ≤ 6 * i ∧ (0 ≤ p ∧ p ≤ c.data.length)) (fun (x : Nat × Msg × Int × Int) => match x with | (i, q, p, s) => (l8F (1 + r1_.2.2)).size - i) (0, (⟨1 + r1_.2.2, 0, 0, 0, 0, 0, false, 0, 0, (⟨#[]⟩ : ByteArray), ⟨0, 0, 0, 0, (⟨#[]⟩ : ByteArray)⟩, []⟩ : Msg), r1_.1, r1_.2.1) (by dsimp only; (try simp only [List.length_nil]); omega) (Sub.o [(0, 0), (102, 102), (103, 103), (5001, 5001), (5002, 5002)] [true, false, true, true, true, true]) ?_
 rintro ⟨i, q, p, s⟩ hq ih1
 refine dv (AW.seq ·) ?_
 refine dv (AW.q 4 ·) ?_
 by_cases h1 : (i : Int) < ((l8F (1 + r1_.2.2)).size : Int)
 · refine dv (AW.condT (decide ((i : Int) < ((l8F (1 + r1_.2.2)).size : Int))) (by kernel_rfl) (decide_eq_true h1) ·) ?_
   refine dv (AW.skip ·) ?_
   refine dv (AW.seq ·) ?_
   refine dv (AW.block ·) ?_
   refine dv (AW.r ·) ?_
   refine dv (At.a 2 ·) ?_
   refine Exists.elim (show ∃ e, (l8F (1 + r1_.2.2)).data[i]? = some e from ⟨_, Array.getElem?_eq_getElem (by show _ < (l8F (1 + r1_.2.2)).size; omega)⟩) fun e1 he1 => ?_
   refine dv (At.idxStr (t := 9) (d := 22) (x := .tmp 20) (y := .tmp 21) (s := l8F (1 + r1_.2.2)) (kd := .i64) (i := (i : Int)) e1 (by kernel_rfl) (by kernel_rfl) (by kernel_rfl) (by kernel_rfl) (by omega) he1 ·) ?_
   refine dv (At.done rfl ·) ?_
   refine dv (AW.block ·) ?_
   refine dv (AW.q 2 ·) ?_
   by_cases h2 : (e1.toNat : Int) = 102
   · refine dv (AW.condT ((e1.toNat : Int) == 102) (by kernel_rfl) (beq_iff_eq.2 h2) ·) ?_
     refine dv (AW.g ·) ?_
     refine dv (At.a 1 ·) ?_
     refine Exists.elim (spec_l1Below_spec  (⟨c.data, p, s⟩ : Cur) 3 (by dsimp only; omega)) fun r2_ hr2_ => ?_
     have qr2_ := hr2_.1
     try dsimp only at qr2_
     refine dv (At.c (hr2_.2) Tryz.call143 true [(0, 0)] [] [] trivial ·) ?_
     refine dv (At.z 2 ·) ?_
     refine dv (AW.g ·) ?_
     refine dv (At.a 2 ·) ?_
     refine dv (At.sI 19 ((i : Int) + 1) (by omega) ·) ?_
     refine dv (At.z 1 ·) ?_
     exact dw (fun _ h_ => AWL.weak (Sub.o [(0, 0), (102, 102), (103, 103), (5001, 5001), (5002, 5002)] [true, false, true, true, true, true]) h_) (ih1 (i + 1, (⟨q.kind, r2_.2.2, q.term, q.at_, q.atTerm, q.commit, q.yes, q.release, q.part, q.bytes, q.cmd, q.entries⟩ : Msg), r2_.1, r2_.2.1) (by dsimp only; (try simp only [List.length_append, List.length_cons, List.length_nil]); omega) (by simp only; omega))
   refine dv (AW.condF ((e1.toNat : Int) == 102) (by kernel_rfl) (beq_eq_false_iff_ne.2 h2) ·) ?_
   refine dv (AW.q 2 ·) ?_
   by_cases h3 : (e1.toNat : Int) = 116
   · refine dv (AW.condT ((e1.toNat : Int) == 116) (by kernel_rfl) (beq_iff_eq.2 h3) ·) ?_
     refine dv (AW.g ·) ?_
     refine dv (At.a 1 ·) ?_
     refine Exists.elim (spec_l1Below_spec  (⟨c.data, p, s⟩ : Cur) 5 (by dsimp only; omega)) fun r2_ hr2_ => ?_
     have qr2_ := hr2_.1
     try dsimp only at qr2_
     refine dv (At.c (hr2_.2) Tryz.call143 true [(0, 0)] [] [] trivial ·) ?_
     refine dv (At.z 2 ·) ?_
     refine dv (AW.g ·) ?_
     refine dv (At.a 2 ·) ?_
     refine dv (At.sI 19 ((i : Int) + 1) (by omega) ·) ?_
     refine dv (At.z 1 ·) ?_
     exact dw (fun _ h_ => AWL.weak (Sub.o [(0, 0), (102, 102), (103, 103), (5001, 5001), (5002, 5002)] [true, false, true, true, true, true]) h_) (ih1 (i + 1, (⟨q.kind, q.from_, r2_.2.2, q.at_, q.atTerm, q.commit, q.yes, q.release, q.part, q.bytes, q.cmd, q.entries⟩ : Msg), r2_.1, r2_.2.1) (by dsimp only; (try simp only [List.length_append, List.length_cons, List.length_nil]); omega) (by simp only; omega))
   refine dv (AW.condF ((e1.toNat : Int) == 116) (by kernel_rfl) (beq_eq_false_iff_ne.2 h3) ·) ?_
   refine dv (AW.q 2 ·) ?_
   by_cases h4 : (e1.toNat : Int) = 97
   · refine dv (AW.condT ((e1.toNat : Int) == 97) (by kernel_rfl) (beq_iff_eq.2 h4) ·) ?_
     refine dv (AW.g ·) ?_
     refine dv (At.a 1 ·) ?_
     refine Exists.elim (spec_l1Below_spec  (⟨c.data, p, s⟩ : Cur) 5 (by dsimp only; omega)) fun r2_ hr2_ => ?_
     have qr2_ := hr2_.1
     try dsimp only at qr2_
     refine dv (At.c (hr2_.2) Tryz.call143 true [(0, 0)] [] [] trivial ·) ?_
     refine dv (At.z 2 ·) ?_
     refine dv (AW.g ·) ?_
     refine dv (At.a 2 ·) ?_
     refine dv (At.sI 19 ((i : Int) + 1) (by omega) ·) ?_
     refine dv (At.z 1 ·) ?_
     exact dw (fun _ h_ => AWL.weak (Sub.o [(0, 0), (102, 102), (103, 103), (5001, 5001), (5002, 5002)] [true, false, true, true, true, true]) h_) (ih1 (i + 1, (⟨q.kind, q.from_, q.term, r2_.2.2, q.atTerm, q.commit, q.yes, q.release, q.part, q.bytes, q.cmd, q.entries⟩ : Msg), r2_.1, r2_.2.1) (by dsimp only; (try simp only [List.length_append, List.length_cons, List.length_nil]); omega) (by simp only; omega))
   refine dv (AW.condF ((e1.toNat : Int) == 97) (by kernel_rfl) (beq_eq_false_iff_ne.2 h4) ·) ?_
   refine dv (AW.q 2 ·) ?_
   by_cases h5 : (e1.toNat : Int) = 115
   · refine dv (AW.condT ((e1.toNat : Int) == 115) (by kernel_rfl) (beq_iff_eq.2 h5) ·) ?_
     refine dv (AW.g ·) ?_
     refine dv (At.a 1 ·) ?_
     refine Exists.elim (spec_l1Below_spec  (⟨c.data, p, s⟩ : Cur) 4 (by dsimp only; omega)) fun r2_ hr2_ => ?_
     have qr2_ := hr2_.1
     try dsimp only at qr2_
     refine dv (At.c (hr2_.2) Tryz.call143 true [(0, 0)] [] [] trivial ·) ?_
     refine dv (At.z 2 ·) ?_
     refine dv (AW.g ·) ?_
     refine dv (At.a 2 ·) ?_
     refine dv (At.sI 19 ((i : Int) + 1) (by omega) ·) ?_
     refine dv (At.z 1 ·) ?_
     exact dw (fun _ h_ => AWL.weak (Sub.o [(0, 0), (102, 102), (103, 103), (5001, 5001), (5002, 5002)] [true, false, true, true, true, true]) h_) (ih1 (i + 1, (⟨q.kind, q.from_, q.term, q.at_, r2_.2.2, q.commit, q.yes, q.release, q.part, q.bytes, q.cmd, q.entries⟩ : Msg), r2_.1, r2_.2.1) (by dsimp only; (try simp only [List.length_append, List.length_cons, List.length_nil]); omega) (by simp only; omega))
   refine dv (AW.condF ((e1.toNat : Int) == 115) (by kernel_rfl) (beq_eq_false_iff_ne.2 h5) ·) ?_
   refine dv (AW.q 2 ·) ?_
   by_cases h6 : (e1.toNat : Int) = 99
   · refine dv (AW.condT ((e1.toNat : Int) == 99) (by kernel_rfl) (beq_iff_eq.2 h6) ·) ?_
     refine dv (AW.g ·) ?_
     refine dv (At.a 1 ·) ?_
     refine Exists.elim (spec_l1Below_spec  (⟨c.data, p, s⟩ : Cur) 5 (by dsimp only; omega)) fun r2_ hr2_ => ?_
     have qr2_ := hr2_.1
     try dsimp only at qr2_
     refine dv (At.c (hr2_.2) Tryz.call143 true [(0, 0)] [] [] trivial ·) ?_
     refine dv (At.z 2 ·) ?_
     refine dv (AW.g ·) ?_
     refine dv (At.a 2 ·) ?_
     refine dv (At.sI 19 ((i : Int) + 1) (by omega) ·) ?_
     refine dv (At.z 1 ·) ?_
     exact dw (fun _ h_ => AWL.weak (Sub.o [(0, 0), (102, 102), (103, 103), (5001, 5001), (5002, 5002)] [true, false, true, true, true, true]) h_) (ih1 (i + 1, (⟨q.kind, q.from_, q.term, q.at_, q.atTerm, r2_.2.2, q.yes, q.release, q.part, q.bytes, q.cmd, q.entries⟩ : Msg), r2_.1, r2_.2.1) (by dsimp only; (try simp only [List.length_append, List.length_cons, List.length_nil]); omega) (by simp only; omega))
   refine dv (AW.condF ((e1.toNat : Int) == 99) (by kernel_rfl) (beq_eq_false_iff_ne.2 h6) ·) ?_
   refine dv (AW.q 2 ·) ?_
   by_cases h7 : (e1.toNat : Int) = 121
   · refine dv (AW.condT ((e1.toNat : Int) == 121) (by kernel_rfl) (beq_iff_eq.2 h7) ·) ?_
     refine dv (AW.g ·) ?_
     refine dv (At.a 1 ·) ?_
     refine Exists.elim (spec_l1Once_spec  (⟨c.data, p, s⟩ : Cur) 2 (by dsimp only; omega)) fun r2_ hr2_ => ?_
     have qr2_ := hr2_.1
     try dsimp only at qr2_
     refine dv (At.c (hr2_.2) Tryz.call58 true [(0, 0)] [] [] trivial ·) ?_
     refine dv (At.z 2 ·) ?_
     refine dv (AW.g ·) ?_
     refine dv (At.a 2 ·) ?_
     refine dv (At.sI 19 ((i : Int) + 1) (by omega) ·) ?_
     refine dv (At.z 1 ·) ?_
     exact dw (fun _ h_ => AWL.weak (Sub.o [(0, 0), (102, 102), (103, 103), (5001, 5001), (5002, 5002)] [true, false, true, true, true, true]) h_) (ih1 (i + 1, (⟨q.kind, q.from_, q.term, q.at_, q.atTerm, q.commit, r2_.2.2, q.release, q.part, q.bytes, q.cmd, q.entries⟩ : Msg), r2_.1, r2_.2.1) (by dsimp only; (try simp only [List.length_append, List.length_cons, List.length_nil]); omega) (by simp only; omega))
   refine dv (AW.condF ((e1.toNat : Int) == 121) (by kernel_rfl) (beq_eq_false_iff_ne.2 h7) ·) ?_
   refine dv (AW.q 2 ·) ?_
   by_cases h8 : (e1.toNat : Int) = 114
   · refine dv (AW.condT ((e1.toNat : Int) == 114) (by kernel_rfl) (beq_iff_eq.2 h8) ·) ?_
     refine dv (AW.g ·) ?_
     refine dv (At.a 1 ·) ?_
     refine Exists.elim (spec_l1Below_spec  (⟨c.data, p, s⟩ : Cur) 4 (by dsimp only; omega)) fun r2_ hr2_ => ?_
     have qr2_ := hr2_.1
     try dsimp only at qr2_
     refine dv (At.c (hr2_.2) Tryz.call143 true [(0, 0)] [] [] trivial ·) ?_
     refine dv (At.a 1 ·) ?_
     refine dv (At.sI 57 (1 + r2_.2.2) (by omega) ·) ?_
     refine dv (At.z 2 ·) ?_
     refine dv (AW.g ·) ?_
     refine dv (At.a 2 ·) ?_
     refine dv (At.sI 19 ((i : Int) + 1) (by omega) ·) ?_
     refine dv (At.z 1 ·) ?_
     exact dw (fun _ h_ => AWL.weak (Sub.o [(0, 0), (102, 102), (103, 103), (5001, 5001), (5002, 5002)] [true, false, true, true, true, true]) h_) (ih1 (i + 1, (⟨q.kind, q.from_, q.term, q.at_, q.atTerm, q.commit, q.yes, 1 + r2_.2.2, q.part, q.bytes, q.cmd, q.entries⟩ : Msg), r2_.1, r2_.2.1) (by dsimp only; (try simp only [List.length_append, List.length_cons, List.length_nil]); omega) (by simp only; omega))
   refine dv (AW.condF ((e1.toNat : Int) == 114) (by kernel_rfl) (beq_eq_false_iff_ne.2 h8) ·) ?_
   refine dv (AW.q 2 ·) ?_
   by_cases h9 : (e1.toNat : Int) = 112
   · refine dv (AW.condT ((e1.toNat : Int) == 112) (by kernel_rfl) (beq_iff_eq.2 h9) ·) ?_
     refine dv (AW.g ·) ?_
     refine dv (At.a 1 ·) ?_
     refine Exists.elim (spec_l1Below_spec  (⟨c.data, p, s⟩ : Cur) 4 (by dsimp only; omega)) fun r2_ hr2_ => ?_
     have qr2_ := hr2_.1
     try dsimp only at qr2_
     refine dv (At.c (hr2_.2) Tryz.call143 true [(0, 0)] [] [] trivial ·) ?_
     refine dv (At.z 2 ·) ?_
     refine dv (AW.g ·) ?_
     refine dv (At.a 2 ·) ?_
     refine dv (At.sI 19 ((i : Int) + 1) (by omega) ·) ?_
     refine dv (At.z 1 ·) ?_
     exact dw (fun _ h_ => AWL.weak (Sub.o [(0, 0), (102, 102), (103, 103), (5001, 5001), (5002, 5002)] [true, false, true, true, true, true]) h_) (ih1 (i + 1, (⟨q.kind, q.from_, q.term, q.at_, q.atTerm, q.commit, q.yes, q.release, r2_.2.2, q.bytes, q.cmd, q.entries⟩ : Msg), r2_.1, r2_.2.1) (by dsimp only; (try simp only [List.length_append, List.length_cons, List.length_nil]); omega) (by simp only; omega))
   refine dv (AW.condF ((e1.toNat : Int) == 112) (by kernel_rfl) (beq_eq_false_iff_ne.2 h9) ·) ?_
   refine dv (AW.q 2 ·) ?_
   by_cases h10 : (e1.toNat : Int) = 98
   · refine dv (AW.condT ((e1.toNat : Int) == 98) (by kernel_rfl) (beq_iff_eq.2 h10) ·) ?_
     refine dv (AW.g ·) ?_
     refine dv (At.a 1 ·) ?_
     refine Exists.elim (spec_l3DrawText_spec  (⟨c.data, p, s⟩ : Cur) 15 (by dsimp only; omega) (by omega)) fun r2_ hr2_ => ?_
     have qr2_ := hr2_.1
     try dsimp only at qr2_
     refine dv (At.c (hr2_.2) Tryz.call172 true [(0, 0)] [] [] trivial ·) ?_
     refine dv (At.cat (t := 9) (u := 9) (d := 68) (x := .const (.string ⟨#[120]⟩)) (y := .tmp 67) (a := (⟨#[120]⟩ : ByteArray)) (b := r2_.2.2) (by kernel_rfl) (by kernel_rfl) (by kernel_rfl) (by kernel_rfl) (by have : (⟨#[120]⟩ : ByteArray).size = 1 := rfl; omega) ·) ?_
     refine dv (At.z 2 ·) ?_
     refine dv (AW.g ·) ?_
     refine dv (At.a 2 ·) ?_
     refine dv (At.sI 19 ((i : Int) + 1) (by omega) ·) ?_
     refine dv (At.z 1 ·) ?_
     exact dw (fun _ h_ => AWL.weak (Sub.o [(0, 0), (102, 102), (103, 103), (5001, 5001), (5002, 5002)] [true, false, true, true, true, true]) h_) (ih1 (i + 1, (⟨q.kind, q.from_, q.term, q.at_, q.atTerm, q.commit, q.yes, q.release, q.part, (⟨#[120]⟩ : ByteArray) ++ r2_.2.2, q.cmd, q.entries⟩ : Msg), r2_.1, r2_.2.1) (by dsimp only; (try simp only [List.length_append, List.length_cons, List.length_nil]); omega) (by simp only; omega))
   refine dv (AW.condF ((e1.toNat : Int) == 98) (by kernel_rfl) (beq_eq_false_iff_ne.2 h10) ·) ?_
   refine dv (AW.q 2 ·) ?_
   by_cases h11 : (e1.toNat : Int) = 100
   · refine dv (AW.condT ((e1.toNat : Int) == 100) (by kernel_rfl) (beq_iff_eq.2 h11) ·) ?_
     refine dv (AW.g ·) ?_
     refine dv (At.a 1 ·) ?_
     refine Exists.elim (spec_l5DrawRight_spec  (⟨c.data, p, s⟩ : Cur) (by dsimp only; omega)) fun r2_ hr2_ => ?_
     have qr2_ := hr2_.1
     try dsimp only at qr2_
     refine dv (At.c (hr2_.2) Tryz.call61 true [(0, 0)] [] [] trivial ·) ?_
     refine dv (At.z 2 ·) ?_
     refine dv (AW.g ·) ?_
     refine dv (At.a 2 ·) ?_
     refine dv (At.sI 19 ((i : Int) + 1) (by omega) ·) ?_
     refine dv (At.z 1 ·) ?_
     exact dw (fun _ h_ => AWL.weak (Sub.o [(0, 0), (102, 102), (103, 103), (5001, 5001), (5002, 5002)] [true, false, true, true, true, true]) h_) (ih1 (i + 1, (⟨q.kind, q.from_, q.term, q.at_, q.atTerm, q.commit, q.yes, q.release, q.part, q.bytes, r2_.2.2, q.entries⟩ : Msg), r2_.1, r2_.2.1) (by dsimp only; (try simp only [List.length_append, List.length_cons, List.length_nil]); omega) (by simp only; omega))
   refine dv (AW.condF ((e1.toNat : Int) == 100) (by kernel_rfl) (beq_eq_false_iff_ne.2 h11) ·) ?_
   refine dv (AW.q 2 ·) ?_
   by_cases h12 : (e1.toNat : Int) = 101
   · refine dv (AW.condT ((e1.toNat : Int) == 101) (by kernel_rfl) (beq_iff_eq.2 h12) ·) ?_
     refine dv (AW.q 1 ·) ?_
     refine dv (AW.block ·) ?_
     refine DW.loopQ (fun (x : Nat × List Ent × Int × Int) => match x with | (k, l, p2, s2) => Go.Sy.mk [.ptr 0 0 0, .un, .ptr 102 0 0, .ptr 103 0 0, .str (l8F (1 + r1_.2.2)), .int .i64 (i : Int), .int .i64 (k : Int)] [(0, .box 141 [.sl false 1 (c.data.map encU8), .int .i64 p2, .int .i64 s2]), (102, .box 33 [.int .i64 0, .int .i64 0, .int .i64 0, .int .i64 0, .int .i64 0, .int .i64 0, .bool false, .int .i64 0, .int .i64 0, .str (⟨#[]⟩ : ByteArray), .int .i64 0, .int .i64 0, .int .i64 0, .int .i64 0, .str (⟨#[]⟩ : ByteArray), .ref 5001]), (103, .box 33 [.int .i64 q.kind, .int .i64 q.from_, .int .i64 q.term, .int .i64 q.at_, .int .i64 q.atTerm, .int .i64 q.commit, .bool q.yes, .int .i64 q.release, .int .i64 q.part, .str q.bytes, .int .i64 q.cmd.kind, .int .i64 q.cmd.release, .int .i64 q.cmd.node, .int .i64 q.cmd.size, .str q.cmd.digest, .ref 5002]), (5001, .arr 45 6 []), (5002, .arr 45 6 (l.map encEnt))]) (fun (x : Nat × List Ent × Int × Int) => match x with | (k, l, p2, s2) => k ≤ 6 ∧ l.length ≤ 6 * i + k ∧ (0 ≤ p2 ∧ p2 ≤ c.data.length)) (fun (x : Nat × List Ent × Int × Int) => match x with | (k, l, p2, s2) => 6 - k) (0, q.entries, p, s) (by dsimp only; (try simp only [List.length_nil]); omega) (Sub.o [(0, 0), (102, 102), (103, 103), (5001, 5001), (5002, 5002)] [true, false, true, true, true, true, true]) ?_
     rintro ⟨k, l, p2, s2⟩ hl ih2
     refine dv (AW.seq ·) ?_
     refine dv (AW.r ·) ?_
     refine dv (At.a 2 ·) ?_
     refine Exists.elim (spec_l1Below_spec  (⟨c.data, p2, s2⟩ : Cur) 7 (by dsimp only; omega)) fun r2_ hr2_ => ?_
     have qr2_ := hr2_.1
     try dsimp only at qr2_
     refine dv (At.c (hr2_.2) Tryz.call143 true [(0, 0)] [] [] trivial ·) ?_
     refine dv (At.z 1 ·) ?_
     by_cases h13 : (k : Int) < r2_.2.2
     · refine dv (AW.condT (decide ((k : Int) < r2_.2.2)) (by kernel_rfl) (decide_eq_true h13) ·) ?_
       refine dv (AW.skip ·) ?_
       refine dv (AW.seq ·) ?_
       refine dv (AW.block ·) ?_
       refine dv (AW.gD Tryz_mix ·) ?_
       refine dv (At.a 3 ·) ?_
       refine Exists.elim (spec_l1Below_spec  (⟨c.data, r2_.1, r2_.2.1⟩ : Cur) 4 (by dsimp only; omega)) fun r3_ hr3_ => ?_
       have qr3_ := hr3_.1
       try dsimp only at qr3_
       refine dv (At.c (hr3_.2) Tryz.call143 true [(0, 0)] [] [] trivial ·) ?_
       refine dv (At.a 1 ·) ?_
       refine dv (At.sI 87 (1 + r3_.2.2) (by omega) ·) ?_
       refine dv (At.a 1 ·) ?_
       refine Exists.elim (spec_l5DrawRight_spec  (⟨c.data, r3_.1, r3_.2.1⟩ : Cur) (by dsimp only; omega)) fun r4_ hr4_ => ?_
       have qr4_ := hr4_.1
       try dsimp only at qr4_
       refine dv (At.c (hr4_.2) Tryz.call61 true [(0, 0)] [] [] trivial ·) ?_
       refine dv (At.a 1 ·) ?_
       refine dv (At.ll 91 45 6 191 (45, 6) (([(⟨1 + r3_.2.2, r4_.2.2⟩ : Ent)]).map encEnt) ·) ?_
       refine dv (At.apK 92 45 6 56 192 5002 191 encEnt l ([(⟨1 + r3_.2.2, r4_.2.2⟩ : Ent)]) (by simp only [List.length_map, List.length_append, List.length_take, List.length_drop, List.length_replicate, List.length_set, List.length_cons, List.length_nil]; omega) ·) ?_
       refine dv (At.zD 2 ·) ?_
       refine dv (AW.g ·) ?_
       refine dv (At.a 2 ·) ?_
       refine dv (At.sI 82 ((k : Int) + 1) (by omega) ·) ?_
       refine dv (At.z 1 ·) ?_
       exact dw (fun _ h_ => AWL.weak (Sub.o [(0, 0), (102, 102), (103, 103), (5001, 5001), (192, 5002)] [true, false, true, true, true, true, true]) h_) (ih2 (k + 1, (l ++ ([(⟨1 + r3_.2.2, r4_.2.2⟩ : Ent)])), r4_.1, r4_.2.1) (by dsimp only; (try simp only [List.length_append, List.length_cons, List.length_nil]); omega) (by simp only; omega))
     refine dv (AW.condF (decide ((k : Int) < r2_.2.2)) (by kernel_rfl) (decide_eq_false h13) ·) ?_
     refine dv (AW.exit ·) ?_
     refine dv (AW.g ·) ?_
     refine dv (At.a 2 ·) ?_
     refine dv (At.sI 19 ((i : Int) + 1) (by omega) ·) ?_
     refine dv (At.z 1 ·) ?_
     exact dw (fun _ h_ => AWL.weak (Sub.o [(0, 0), (102, 102), (103, 103), (5001, 5001), (5002, 5002)] [true, false, true, true, true, true]) h_) (ih1 (i + 1, (⟨q.kind, q.from_, q.term, q.at_, q.atTerm, q.commit, q.yes, q.release, q.part, q.bytes, q.cmd, l⟩ : Msg), r2_.1, r2_.2.1) (by dsimp only; (try simp only [List.length_append, List.length_cons, List.length_nil]); omega) (by simp only; omega))
   refine dv (AW.condF ((e1.toNat : Int) == 101) (by kernel_rfl) (beq_eq_false_iff_ne.2 h12) ·) ?_
   refine dv (AW.skip ·) ?_
   refine dv (AW.g ·) ?_
   refine dv (At.a 2 ·) ?_
   refine dv (At.sI 19 ((i : Int) + 1) (by omega) ·) ?_
   refine dv (At.z 1 ·) ?_
   exact dw (fun _ h_ => AWL.weak (Sub.o [(0, 0), (102, 102), (103, 103), (5001, 5001), (5002, 5002)] [true, false, true, true, true, true]) h_) (ih1 (i + 1, q, p, s) (by dsimp only; (try simp only [List.length_append, List.length_cons, List.length_nil]); omega) (by simp only; omega))
 refine dv (AW.condF (decide ((i : Int) < ((l8F (1 + r1_.2.2)).size : Int))) (by kernel_rfl) (decide_eq_false h1) ·) ?_
 refine dv (AW.exit ·) ?_
 refine dv (AW.q 2 ·) ?_
 refine dv (AW.ret ·) ?_
 refine dv (⟨_, Sub.refl _ _, ·⟩) ?_
 exact ⟨(p, s, q), (by (try dsimp only); omega), KF.mk (.inr rfl) [(0, 0), (5002, 1)] [.agg [.int .i64 q.kind, .int .i64 q.from_, .int .i64 q.term, .int .i64 q.at_, .int .i64 q.atTerm, .int .i64 q.commit, .bool q.yes, .int .i64 q.release, .int .i64 q.part, .str q.bytes, .int .i64 q.cmd.kind, .int .i64 q.cmd.release, .int .i64 q.cmd.node, .int .i64 q.cmd.size, .str q.cmd.digest, .ref 5002]] (by kernel_rfl) (by kernel_rfl) (by kernel_rfl) (by kernel_rfl) (by kernel_rfl)⟩
theorem spec_l10Made_spec  (c : Cur) (r : Raft) (kind : Int) (hp : 0 ≤ c.pos ∧ c.pos ≤ c.data.length ∧ c.data.length ≤ 1048576) (hr : raftOk r = true) : ∃ rho_ : Int × Int × Msg, (0 ≤ rho_.1 ∧ rho_.1 ≤ c.data.length ∧ rho_.2.2.entries.length ≤ 100) ∧ FnSpec Tryz.prog 60 [.ptr 0 0 0, .agg [.int .i64 r.id, .int .i64 r.of_, .int .i64 r.role, .int .i64 r.commit, .int .i64 r.hard.term, .int .i64 r.hard.vote, .ref 1, .ref 2, .ref 3, .ref 4], .int .i64 kind] [.box 141 [.sl false 1 (c.data.map encU8), .int .i64 c.pos, .int .i64 c.seed], .arr 45 6 (r.hard.log.map encEnt), .arr 3 1 (r.yes.map encI), .arr 3 1 (r.next.map encI), .arr 3 1 (r.match_.map encI)] (.agg [.int .i64 rho_.2.2.kind, .int .i64 rho_.2.2.from_, .int .i64 rho_.2.2.term, .int .i64 rho_.2.2.at_, .int .i64 rho_.2.2.atTerm, .int .i64 rho_.2.2.commit, .bool rho_.2.2.yes, .int .i64 rho_.2.2.release, .int .i64 rho_.2.2.part, .str rho_.2.2.bytes, .int .i64 rho_.2.2.cmd.kind, .int .i64 rho_.2.2.cmd.release, .int .i64 rho_.2.2.cmd.node, .int .i64 rho_.2.2.cmd.size, .str rho_.2.2.cmd.digest, .ref 5]) [.box 141 [.sl false 1 (c.data.map encU8), .int .i64 rho_.1, .int .i64 rho_.2.1], .arr 45 6 (r.hard.log.map encEnt), .arr 3 1 (r.yes.map encI), .arr 3 1 (r.next.map encI), .arr 3 1 (r.match_.map encI), .arr 45 6 (rho_.2.2.entries.map encEnt)] := by
 have hnn := NodeIn.nums (n := r.of_) ⟨hr, rfl⟩
 obtain ⟨z1, z2, z3, z4⟩ := hnn.2.2.2.2.2
 refine dv (fun h_ => FnSpec.of 115 Tryz.func60 rfl Tryz.ntmps60 (by simp) (AW.weakK h_)) ?_
 refine dv (AW.q 2 ·) ?_
 refine dv (AW.seq ·) ?_
 refine dv (AW.weak (Sub.nils [⟨true, 106, some 15, 5001, 45, 6⟩] (by kernel_rfl)) ·) ?_
 refine dv (AW.gD Tryz_mix ·) ?_
 refine dv (At.a 4 ·) ?_
 refine dv (At.sI 14 (r.id + 1) (by omega) ·) ?_
 refine dv (At.a 4 ·) ?_
 refine dv (At.sI 18 (r.of_ - 1) (by omega) ·) ?_
 refine dv (At.c (spec_l1Max_spec  (r.of_ - 1) 1 ) Tryz.call59 true [] [] [] trivial ·) ?_
 refine Exists.elim (spec_l1Below_spec  c (max (r.of_ - 1) 1) (by omega)) fun r1_ hr1_ => ?_
 have qr1_ := hr1_.1
 try dsimp only at qr1_
 refine dv (At.c (hr1_.2) Tryz.call143 true [(0, 0)] [] [] trivial ·) ?_
 refine dv (At.a 1 ·) ?_
 refine dv (At.sI 21 ((r.id + 1) + r1_.2.2) (by omega) ·) ?_
 refine dv (At.a 2 ·) ?_
 refine dv (At.c (spec_l1Max_spec  r.of_ 1 ) Tryz.call59 true [] [] [] trivial ·) ?_
 refine dv (At.div (t := 3) (u := 3) (d := 25) (op := .rem) (x := .tmp 21) (y := .tmp 24) (kd := .i64) (a := (r.id + 1) + r1_.2.2) (b := max r.of_ 1) (by kernel_rfl) (by kernel_rfl) (by kernel_rfl) (by kernel_rfl) (by omega) (.int .i64 (((r.id + 1) + r1_.2.2).tmod (max r.of_ 1))) (.inr ⟨rfl, rfl⟩) ·) ?_
 refine dv (At.say 25 (.int .i64 (((r.id + 1) + r1_.2.2).tmod (max r.of_ 1))) (.int .i64 (((r.id + 1) + r1_.2.2) % (max r.of_ 1))) (by kernel_rfl) (sayRem (by omega)) ·) ?_
 refine dv (At.a 4 ·) ?_
 refine Exists.elim (spec_l1Below_spec  (⟨c.data, r1_.1, r1_.2.1⟩ : Cur) 4 (by dsimp only; omega)) fun r2_ hr2_ => ?_
 have qr2_ := hr2_.1
 try dsimp only at qr2_
 refine dv (At.c (hr2_.2) Tryz.call143 true [(0, 0)] [] [] trivial ·) ?_
 refine dv (At.div (t := 3) (u := 3) (d := 31) (op := .quo) (x := .tmp 30) (y := .const (.int .i64 2)) (kd := .i64) (a := r2_.2.2) (b := 2) (by kernel_rfl) (by kernel_rfl) (by kernel_rfl) (by kernel_rfl) (by omega) (.int .i64 (IntKind.i64.wrap (r2_.2.2.tdiv 2))) (.inl ⟨rfl, rfl⟩) ·) ?_
 refine dv (At.say 31 (.int .i64 (IntKind.i64.wrap (r2_.2.2.tdiv 2))) (.int .i64 (r2_.2.2 / 2)) (by kernel_rfl) (sayQuo (by omega) (by omega) (by omega)) ·) ?_
 refine dv (At.a 1 ·) ?_
 refine dv (At.sI 32 (r.hard.term + (r2_.2.2 / 2)) (by omega) ·) ?_
 refine dv (At.zD 3 ·) ?_
 refine dv (AW.seq ·) ?_
 refine dv (AW.weak (Sub.nils [⟨true, 107, some 15, 5002, 45, 6⟩] (by kernel_rfl)) ·) ?_
 refine dv (AW.g ·) ?_
 refine dv (At.a 4 ·) ?_
 refine dv (At.sL 37 encEnt r.hard.log ·) ?_
 refine dv (At.z 1 ·) ?_
 refine dv (AW.seq ·) ?_
 refine dv (AW.q 1 ·) ?_
 refine dv (AW.block ·) ?_
 refine dv (AW.q 2 ·) ?_
 by_cases h1 : kind = 1
 · refine dv (AW.condT (kind == 1) (by kernel_rfl) (beq_iff_eq.2 h1) ·) ?_
   refine dv (AW.r ·) ?_
   refine dv (At.a 2 ·) ?_
   refine Exists.elim (spec_l1Below_spec  (⟨c.data, r2_.1, r2_.2.1⟩ : Cur) 3 (by dsimp only; omega)) fun r3_ hr3_ => ?_
   have qr3_ := hr3_.1
   try dsimp only at qr3_
   refine dv (At.c (hr3_.2) Tryz.call143 true [(0, 0)] [] [] trivial ·) ?_
   refine dv (At.a 1 ·) ?_
   refine dv (At.sI 44 ((r.hard.log.length : Int) + r3_.2.2) (by omega) ·) ?_
   refine dv (At.a 1 ·) ?_
   refine dv (At.sI 45 (((r.hard.log.length : Int) + r3_.2.2) - 1) (by omega) ·) ?_
   refine dv (At.c (spec_l1Max_spec  (((r.hard.log.length : Int) + r3_.2.2) - 1) 0 ) Tryz.call59 true [] [] [] trivial ·) ?_
   refine dv (At.z 2 ·) ?_
   refine dv (AW.g ·) ?_
   refine dv (At.a 3 ·) ?_
   refine dv (At.c (spec_l10Term_spec  r.hard (r.hard.log.length : Int) (by omega)) Tryz.call115 false [] [] [(1, 6, (r.hard.log.map encEnt))] ⟨rfl, ⟨45, (r.hard.log.map encEnt), by kernel_rfl, FrzIs.same (allP_encEnt _)⟩, trivial⟩ ·) ?_
   refine dv (At.a 1 ·) ?_
   refine Exists.elim (spec_l1Below_spec  (⟨c.data, r3_.1, r3_.2.1⟩ : Cur) 3 (by dsimp only; omega)) fun r4_ hr4_ => ?_
   have qr4_ := hr4_.1
   try dsimp only at qr4_
   refine dv (At.c (hr4_.2) Tryz.call143 true [(0, 0)] [] [] trivial ·) ?_
   refine dv (At.div (t := 3) (u := 3) (d := 54) (op := .quo) (x := .tmp 53) (y := .const (.int .i64 2)) (kd := .i64) (a := r4_.2.2) (b := 2) (by kernel_rfl) (by kernel_rfl) (by kernel_rfl) (by kernel_rfl) (by omega) (.int .i64 (IntKind.i64.wrap (r4_.2.2.tdiv 2))) (.inl ⟨rfl, rfl⟩) ·) ?_
   refine dv (At.say 54 (.int .i64 (IntKind.i64.wrap (r4_.2.2.tdiv 2))) (.int .i64 (r4_.2.2 / 2)) (by kernel_rfl) (sayQuo (by omega) (by omega) (by omega)) ·) ?_
   refine dv (At.z 3 ·) ?_
   refine dv (AW.q 2 ·) ?_
   refine dv (AW.ret ·) ?_
   refine dv (⟨_, Sub.refl _ _, ·⟩) ?_
   exact ⟨(r4_.1, r4_.2.1, (⟨kind, ((r.id + 1) + r1_.2.2) % (max r.of_ 1), r.hard.term + (r2_.2.2 / 2), max (((r.hard.log.length : Int) + r3_.2.2) - 1) 0, IntKind.i64.wrap ((termAt r.hard.log (r.hard.log.length : Int)) + (r4_.2.2 / 2)), 0, false, 0, 0, (⟨#[]⟩ : ByteArray), ⟨0, 0, 0, 0, (⟨#[]⟩ : ByteArray)⟩, []⟩ : Msg)), (by (try dsimp only); (try simp only [List.length_nil]); omega), KF.mk (.inr rfl) [(0, 0), (1, 1), (2, 2), (3, 3), (4, 4), (5002, 5)] [.agg [.int .i64 kind, .int .i64 (((r.id + 1) + r1_.2.2) % (max r.of_ 1)), .int .i64 (r.hard.term + (r2_.2.2 / 2)), .int .i64 (max (((r.hard.log.length : Int) + r3_.2.2) - 1) 0), .int .i64 (IntKind.i64.wrap ((termAt r.hard.log (r.hard.log.length : Int)) + (r4_.2.2 / 2))), .int .i64 0, .bool false, .int .i64 0, .int .i64 0, .str (⟨#[]⟩ : ByteArray), .int .i64 0, .int .i64 0, .int .i64 0, .int .i64 0, .str (⟨#[]⟩ : ByteArray), .ref 5002]] (by kernel_rfl) (by kernel_rfl) (by kernel_rfl) (by kernel_rfl) (by kernel_rfl)⟩
 refine dv (AW.condF (kind == 1) (by kernel_rfl) (beq_eq_false_iff_ne.2 h1) ·) ?_
 refine dv (AW.q 2 ·) ?_
 by_cases h2 : kind = 2
 · refine dv (AW.condT (kind == 2) (by kernel_rfl) (beq_iff_eq.2 h2) ·) ?_
   refine dv (AW.g ·) ?_
   refine dv (At.a 1 ·) ?_
   refine Exists.elim (spec_l1Once_spec  (⟨c.data, r2_.1, r2_.2.1⟩ : Cur) 4 (by dsimp only; omega)) fun r3_ hr3_ => ?_
   have qr3_ := hr3_.1
   try dsimp only at qr3_
   refine dv (At.c (hr3_.2) Tryz.call58 true [(0, 0)] [] [] trivial ·) ?_
   refine dv (At.z 3 ·) ?_
   refine dv (AW.q 2 ·) ?_
   refine dv (AW.ret ·) ?_
   refine dv (⟨_, Sub.refl _ _, ·⟩) ?_
   exact ⟨(r3_.1, r3_.2.1, (⟨kind, ((r.id + 1) + r1_.2.2) % (max r.of_ 1), r.hard.term + (r2_.2.2 / 2), 0, 0, 0, !r3_.2.2, 0, 0, (⟨#[]⟩ : ByteArray), ⟨0, 0, 0, 0, (⟨#[]⟩ : ByteArray)⟩, []⟩ : Msg)), (by (try dsimp only); (try simp only [List.length_nil]); omega), KF.mk (.inr rfl) [(0, 0), (1, 1), (2, 2), (3, 3), (4, 4), (5002, 5)] [.agg [.int .i64 kind, .int .i64 (((r.id + 1) + r1_.2.2) % (max r.of_ 1)), .int .i64 (r.hard.term + (r2_.2.2 / 2)), .int .i64 0, .int .i64 0, .int .i64 0, .bool (!r3_.2.2), .int .i64 0, .int .i64 0, .str (⟨#[]⟩ : ByteArray), .int .i64 0, .int .i64 0, .int .i64 0, .int .i64 0, .str (⟨#[]⟩ : ByteArray), .ref 5002]] (by kernel_rfl) (by kernel_rfl) (by kernel_rfl) (by kernel_rfl) (by kernel_rfl)⟩
 refine dv (AW.condF (kind == 2) (by kernel_rfl) (beq_eq_false_iff_ne.2 h2) ·) ?_
 refine dv (AW.q 2 ·) ?_
 by_cases h3 : kind = 3
 · refine dv (AW.condT (kind == 3) (by kernel_rfl) (beq_iff_eq.2 h3) ·) ?_
   refine dv (AW.r ·) ?_
   refine dv (At.a 3 ·) ?_
   refine dv (At.sI 67 ((r.hard.log.length : Int) + 2) (by omega) ·) ?_
   refine Exists.elim (spec_l1Below_spec  (⟨c.data, r2_.1, r2_.2.1⟩ : Cur) ((r.hard.log.length : Int) + 2) (by dsimp only; omega)) fun r3_ hr3_ => ?_
   have qr3_ := hr3_.1
   try dsimp only at qr3_
   refine dv (At.c (hr3_.2) Tryz.call143 true [(0, 0)] [] [] trivial ·) ?_
   refine dv (At.z 2 ·) ?_
   refine dv (AW.r ·) ?_
   refine dv (At.a 4 ·) ?_
   refine dv (At.c (spec_l10Term_spec  r.hard r3_.2.2 (by omega)) Tryz.call115 false [] [] [(1, 6, (r.hard.log.map encEnt))] ⟨rfl, ⟨45, (r.hard.log.map encEnt), by kernel_rfl, FrzIs.same (allP_encEnt _)⟩, trivial⟩ ·) ?_
   refine dv (At.z 2 ·) ?_
   refine dv (AW.r ·) ?_
   refine dv (At.a 3 ·) ?_
   refine dv (At.sI 78 ((r.hard.log.length : Int) + 2) (by omega) ·) ?_
   refine Exists.elim (spec_l1Below_spec  (⟨c.data, r3_.1, r3_.2.1⟩ : Cur) ((r.hard.log.length : Int) + 2) (by dsimp only; omega)) fun r4_ hr4_ => ?_
   have qr4_ := hr4_.1
   try dsimp only at qr4_
   refine dv (At.c (hr4_.2) Tryz.call143 true [(0, 0)] [] [] trivial ·) ?_
   refine dv (At.z 2 ·) ?_
   refine dv (AW.r ·) ?_
   refine dv (At.a 2 ·) ?_
   refine dv (At.c (spec_l1Max_spec  (termAt r.hard.log r3_.2.2) 1 ) Tryz.call59 true [] [] [] trivial ·) ?_
   refine dv (At.z 1 ·) ?_
   refine dv (AW.q 1 ·) ?_
   refine dv (AW.block ·) ?_
   refine DW.loopQ (fun (x : Nat × List Ent × Int × Int × Int) => match x with | (k, l, p2, s2, tt) => Go.Sy.mk [.ptr 0 0 0, .un, .un, .un, .un, .un, .ptr 106 0 0, .ptr 107 0 0, .un, .int .i64 tt, .int .i64 (k : Int)] [(0, .box 141 [.sl false 1 (c.data.map encU8), .int .i64 p2, .int .i64 s2]), (1, .arr 45 6 (r.hard.log.map encEnt)), (2, .arr 3 1 (r.yes.map encI)), (3, .arr 3 1 (r.next.map encI)), (4, .arr 3 1 (r.match_.map encI)), (106, .box 33 [.int .i64 0, .int .i64 0, .int .i64 0, .int .i64 0, .int .i64 0, .int .i64 0, .bool false, .int .i64 0, .int .i64 0, .str (⟨#[]⟩ : ByteArray), .int .i64 0, .int .i64 0, .int .i64 0, .int .i64 0, .str (⟨#[]⟩ : ByteArray), .ref 5001]), (107, .box 33 [.int .i64 kind, .int .i64 (((r.id + 1) + r1_.2.2) % (max r.of_ 1)), .int .i64 (r.hard.term + (r2_.2.2 / 2)), .int .i64 r3_.2.2, .int .i64 (termAt r.hard.log r3_.2.2), .int .i64 r4_.2.2, .bool false, .int .i64 0, .int .i64 0, .str (⟨#[]⟩ : ByteArray), .int .i64 0, .int .i64 0, .int .i64 0, .int .i64 0, .str (⟨#[]⟩ : ByteArray), .ref 5002]), (5001, .arr 45 6 []), (5002, .arr 45 6 (l.map encEnt))]) (fun (x : Nat × List Ent × Int × Int × Int) => match x with | (k, l, p2, s2, tt) => k ≤ 3 ∧ l.length ≤ k ∧ (0 ≤ p2 ∧ p2 ≤ c.data.length)) (fun (x : Nat × List Ent × Int × Int × Int) => match x with | (k, l, p2, s2, tt) => 3 - k) (0, [], r4_.1, r4_.2.1, (max (termAt r.hard.log r3_.2.2) 1)) (by dsimp only; (try simp only [List.length_nil]); omega) (Sub.o [(0, 0), (1, 1), (2, 2), (3, 3), (4, 4), (106, 106), (107, 107), (5001, 5001), (5002, 5002)] [true, false, false, false, false, false, true, true, false, true, true]) ?_
   rintro ⟨k, l, p2, s2, tt⟩ hl ih1
   refine dv (AW.seq ·) ?_
   refine dv (AW.r ·) ?_
   refine dv (At.a 2 ·) ?_
   refine Exists.elim (spec_l1Below_spec  (⟨c.data, p2, s2⟩ : Cur) 4 (by dsimp only; omega)) fun r5_ hr5_ => ?_
   have qr5_ := hr5_.1
   try dsimp only at qr5_
   refine dv (At.c (hr5_.2) Tryz.call143 true [(0, 0)] [] [] trivial ·) ?_
   refine dv (At.z 1 ·) ?_
   by_cases h4 : (k : Int) < r5_.2.2
   · refine dv (AW.condT (decide ((k : Int) < r5_.2.2)) (by kernel_rfl) (decide_eq_true h4) ·) ?_
     refine dv (AW.skip ·) ?_
     refine dv (AW.seq ·) ?_
     refine dv (AW.block ·) ?_
     refine dv (AW.seq ·) ?_
     refine dv (AW.r ·) ?_
     refine dv (At.a 1 ·) ?_
     refine Exists.elim (spec_l1Once_spec  (⟨c.data, r5_.1, r5_.2.1⟩ : Cur) 3 (by dsimp only; omega)) fun r6_ hr6_ => ?_
     have qr6_ := hr6_.1
     try dsimp only at qr6_
     refine dv (At.c (hr6_.2) Tryz.call58 true [(0, 0)] [] [] trivial ·) ?_
     refine dv (At.done rfl ·) ?_
     by_cases h5 : r6_.2.2 = true
     · refine dv (AW.condT (r6_.2.2) (by kernel_rfl) h5 ·) ?_
       refine dv (AW.g ·) ?_
       refine dv (At.a 2 ·) ?_
       refine dv (At.c (spec_l1Max_spec  (r.hard.term + (r2_.2.2 / 2)) 1 ) Tryz.call59 true [] [] [] trivial ·) ?_
       refine dv (At.z 1 ·) ?_
       refine dv (AW.gD Tryz_mix ·) ?_
       refine dv (At.a 4 ·) ?_
       refine Exists.elim (spec_l5DrawRight_spec  (⟨c.data, r6_.1, r6_.2.1⟩ : Cur) (by dsimp only; omega)) fun r7_ hr7_ => ?_
       have qr7_ := hr7_.1
       try dsimp only at qr7_
       refine dv (At.c (hr7_.2) Tryz.call61 true [(0, 0)] [] [] trivial ·) ?_
       refine dv (At.a 1 ·) ?_
       refine dv (At.ll 101 45 6 201 (45, 6) (([(⟨max (r.hard.term + (r2_.2.2 / 2)) 1, r7_.2.2⟩ : Ent)]).map encEnt) ·) ?_
       refine dv (At.apK 102 45 6 56 202 5002 201 encEnt l ([(⟨max (r.hard.term + (r2_.2.2 / 2)) 1, r7_.2.2⟩ : Ent)]) (by simp only [List.length_map, List.length_append, List.length_take, List.length_drop, List.length_replicate, List.length_set, List.length_cons, List.length_nil]; omega) ·) ?_
       refine dv (At.zD 2 ·) ?_
       refine dv (AW.g ·) ?_
       refine dv (At.a 2 ·) ?_
       refine dv (At.sI 89 ((k : Int) + 1) (by omega) ·) ?_
       refine dv (At.z 1 ·) ?_
       exact dw (fun _ h_ => AWL.weak (Sub.o [(0, 0), (1, 1), (2, 2), (3, 3), (4, 4), (106, 106), (107, 107), (5001, 5001), (202, 5002)] [true, false, false, false, false, false, true, true, false, true, true]) h_) (ih1 (k + 1, (l ++ ([(⟨max (r.hard.term + (r2_.2.2 / 2)) 1, r7_.2.2⟩ : Ent)])), r7_.1, r7_.2.1, (max (r.hard.term + (r2_.2.2 / 2)) 1)) (by dsimp only; (try simp only [List.length_append, List.length_cons, List.length_nil]); omega) (by simp only; omega))
     replace h5 := Bool.eq_false_iff.2 h5
     refine dv (AW.condF (r6_.2.2) (by kernel_rfl) h5 ·) ?_
     refine dv (AW.skip ·) ?_
     refine dv (AW.gD Tryz_mix ·) ?_
     refine dv (At.a 4 ·) ?_
     refine Exists.elim (spec_l5DrawRight_spec  (⟨c.data, r6_.1, r6_.2.1⟩ : Cur) (by dsimp only; omega)) fun r7_ hr7_ => ?_
     have qr7_ := hr7_.1
     try dsimp only at qr7_
     refine dv (At.c (hr7_.2) Tryz.call61 true [(0, 0)] [] [] trivial ·) ?_
     refine dv (At.a 1 ·) ?_
     refine dv (At.ll 101 45 6 201 (45, 6) (([(⟨tt, r7_.2.2⟩ : Ent)]).map encEnt) ·) ?_
     refine dv (At.apK 102 45 6 56 202 5002 201 encEnt l ([(⟨tt, r7_.2.2⟩ : Ent)]) (by simp only [List.length_map, List.length_append, List.length_take, List.length_drop, List.length_replicate, List.length_set, List.length_cons, List.length_nil]; omega) ·) ?_
     refine dv (At.zD 2 ·) ?_
     refine dv (AW.g ·) ?_
     refine dv (At.a 2 ·) ?_
     refine dv (At.sI 89 ((k : Int) + 1) (by omega) ·) ?_
     refine dv (At.z 1 ·) ?_
     exact dw (fun _ h_ => AWL.weak (Sub.o [(0, 0), (1, 1), (2, 2), (3, 3), (4, 4), (106, 106), (107, 107), (5001, 5001), (202, 5002)] [true, false, false, false, false, false, true, true, false, true, true]) h_) (ih1 (k + 1, (l ++ ([(⟨tt, r7_.2.2⟩ : Ent)])), r7_.1, r7_.2.1, tt) (by dsimp only; (try simp only [List.length_append, List.length_cons, List.length_nil]); omega) (by simp only; omega))
   refine dv (AW.condF (decide ((k : Int) < r5_.2.2)) (by kernel_rfl) (decide_eq_false h4) ·) ?_
   refine dv (AW.exit ·) ?_
   refine dv (AW.q 2 ·) ?_
   refine dv (AW.ret ·) ?_
   refine dv (⟨_, Sub.refl _ _, ·⟩) ?_
   exact ⟨(r5_.1, r5_.2.1, (⟨kind, ((r.id + 1) + r1_.2.2) % (max r.of_ 1), r.hard.term + (r2_.2.2 / 2), r3_.2.2, termAt r.hard.log r3_.2.2, r4_.2.2, false, 0, 0, (⟨#[]⟩ : ByteArray), ⟨0, 0, 0, 0, (⟨#[]⟩ : ByteArray)⟩, l⟩ : Msg)), (by (try dsimp only); (try simp only [List.length_nil]); omega), KF.mk (.inr rfl) [(0, 0), (1, 1), (2, 2), (3, 3), (4, 4), (5002, 5)] [.agg [.int .i64 kind, .int .i64 (((r.id + 1) + r1_.2.2) % (max r.of_ 1)), .int .i64 (r.hard.term + (r2_.2.2 / 2)), .int .i64 r3_.2.2, .int .i64 (termAt r.hard.log r3_.2.2), .int .i64 r4_.2.2, .bool false, .int .i64 0, .int .i64 0, .str (⟨#[]⟩ : ByteArray), .int .i64 0, .int .i64 0, .int .i64 0, .int .i64 0, .str (⟨#[]⟩ : ByteArray), .ref 5002]] (by kernel_rfl) (by kernel_rfl) (by kernel_rfl) (by kernel_rfl) (by kernel_rfl)⟩
 refine dv (AW.condF (kind == 3) (by kernel_rfl) (beq_eq_false_iff_ne.2 h3) ·) ?_
 refine dv (AW.q 2 ·) ?_
 by_cases h6 : kind = 4
 · refine dv (AW.condT (kind == 4) (by kernel_rfl) (beq_iff_eq.2 h6) ·) ?_
   refine dv (AW.r ·) ?_
   refine dv (At.a 1 ·) ?_
   refine Exists.elim (spec_l1Once_spec  (⟨c.data, r2_.1, r2_.2.1⟩ : Cur) 2 (by dsimp only; omega)) fun r3_ hr3_ => ?_
   have qr3_ := hr3_.1
   try dsimp only at qr3_
   refine dv (At.c (hr3_.2) Tryz.call58 true [(0, 0)] [] [] trivial ·) ?_
   refine dv (At.z 2 ·) ?_
   refine dv (AW.g ·) ?_
   refine dv (At.a 3 ·) ?_
   refine dv (At.sI 111 ((r.hard.log.length : Int) + 2) (by omega) ·) ?_
   refine Exists.elim (spec_l1Below_spec  (⟨c.data, r3_.1, r3_.2.1⟩ : Cur) ((r.hard.log.length : Int) + 2) (by dsimp only; omega)) fun r4_ hr4_ => ?_
   have qr4_ := hr4_.1
   try dsimp only at qr4_
   refine dv (At.c (hr4_.2) Tryz.call143 true [(0, 0)] [] [] trivial ·) ?_
   refine dv (At.z 2 ·) ?_
   refine dv (AW.q 2 ·) ?_
   refine dv (AW.ret ·) ?_
   refine dv (⟨_, Sub.refl _ _, ·⟩) ?_
   exact ⟨(r4_.1, r4_.2.1, (⟨kind, ((r.id + 1) + r1_.2.2) % (max r.of_ 1), r.hard.term + (r2_.2.2 / 2), r4_.2.2, 0, 0, r3_.2.2, 0, 0, (⟨#[]⟩ : ByteArray), ⟨0, 0, 0, 0, (⟨#[]⟩ : ByteArray)⟩, []⟩ : Msg)), (by (try dsimp only); (try simp only [List.length_nil]); omega), KF.mk (.inr rfl) [(0, 0), (1, 1), (2, 2), (3, 3), (4, 4), (5002, 5)] [.agg [.int .i64 kind, .int .i64 (((r.id + 1) + r1_.2.2) % (max r.of_ 1)), .int .i64 (r.hard.term + (r2_.2.2 / 2)), .int .i64 r4_.2.2, .int .i64 0, .int .i64 0, .bool r3_.2.2, .int .i64 0, .int .i64 0, .str (⟨#[]⟩ : ByteArray), .int .i64 0, .int .i64 0, .int .i64 0, .int .i64 0, .str (⟨#[]⟩ : ByteArray), .ref 5002]] (by kernel_rfl) (by kernel_rfl) (by kernel_rfl) (by kernel_rfl) (by kernel_rfl)⟩
 refine dv (AW.condF (kind == 4) (by kernel_rfl) (beq_eq_false_iff_ne.2 h6) ·) ?_
 refine dv (AW.skip ·) ?_
 refine dv (AW.q 2 ·) ?_
 refine dv (AW.ret ·) ?_
 refine dv (⟨_, Sub.refl _ _, ·⟩) ?_
 exact ⟨(r2_.1, r2_.2.1, (⟨kind, ((r.id + 1) + r1_.2.2) % (max r.of_ 1), r.hard.term + (r2_.2.2 / 2), 0, 0, 0, false, 0, 0, (⟨#[]⟩ : ByteArray), ⟨0, 0, 0, 0, (⟨#[]⟩ : ByteArray)⟩, []⟩ : Msg)), (by (try dsimp only); (try simp only [List.length_nil]); omega), KF.mk (.inr rfl) [(0, 0), (1, 1), (2, 2), (3, 3), (4, 4), (5002, 5)] [.agg [.int .i64 kind, .int .i64 (((r.id + 1) + r1_.2.2) % (max r.of_ 1)), .int .i64 (r.hard.term + (r2_.2.2 / 2)), .int .i64 0, .int .i64 0, .int .i64 0, .bool false, .int .i64 0, .int .i64 0, .str (⟨#[]⟩ : ByteArray), .int .i64 0, .int .i64 0, .int .i64 0, .int .i64 0, .str (⟨#[]⟩ : ByteArray), .ref 5002]] (by kernel_rfl) (by kernel_rfl) (by kernel_rfl) (by kernel_rfl) (by kernel_rfl)⟩
theorem spec_l5DrawCmd_spec  (c : Cur) (hp : 0 ≤ c.pos ∧ c.pos ≤ c.data.length ∧ c.data.length ≤ 1048576) : ∃ rho_ : Int × Int × Cmd, (0 ≤ rho_.1 ∧ rho_.1 ≤ c.data.length ∧ rho_.2.2.digest.size ≤ 33) ∧ FnSpec Tryz.prog 100 [.ptr 0 0 0] [.box 141 [.sl false 1 (c.data.map encU8), .int .i64 c.pos, .int .i64 c.seed]] (.agg [.int .i64 rho_.2.2.kind, .int .i64 rho_.2.2.release, .int .i64 rho_.2.2.node, .int .i64 rho_.2.2.size, .str rho_.2.2.digest]) [.box 141 [.sl false 1 (c.data.map encU8), .int .i64 rho_.1, .int .i64 rho_.2.1]] := by
 refine dv (fun h_ => FnSpec.of 38 Tryz.func100 rfl Tryz.ntmps100 (by simp) (AW.weakK h_)) ?_
 refine dv (AW.q 1 ·) ?_
 refine dv (AW.r ·) ?_
 refine dv (At.a 1 ·) ?_
 refine Exists.elim (spec_l5DrawRight_spec  c (by omega)) fun r1_ hr1_ => ?_
 have qr1_ := hr1_.1
 try dsimp only at qr1_
 refine dv (At.c (hr1_.2) Tryz.call61 true [(0, 0)] [] [] trivial ·) ?_
 refine dv (At.z 2 ·) ?_
 refine dv (AW.seq ·) ?_
 refine dv (AW.r ·) ?_
 refine dv (At.a 1 ·) ?_
 refine Exists.elim (spec_l1Below_spec  (⟨c.data, r1_.1, r1_.2.1⟩ : Cur) 25 (by dsimp only; omega)) fun r2_ hr2_ => ?_
 have qr2_ := hr2_.1
 try dsimp only at qr2_
 refine dv (At.c (hr2_.2) Tryz.call143 true [(0, 0)] [] [] trivial ·) ?_
 refine dv (At.done rfl ·) ?_
 refine dv (AW.block ·) ?_
 refine dv (AW.q 2 ·) ?_
 by_cases h1 : r2_.2.2 = 0
 · refine dv (AW.condT (r2_.2.2 == 0) (by kernel_rfl) (beq_iff_eq.2 h1) ·) ?_
   refine dv (AW.g ·) ?_
   refine dv (At.a 1 ·) ?_
   refine Exists.elim (spec_l1Below_spec  (⟨c.data, r2_.1, r2_.2.1⟩ : Cur) 7 (by dsimp only; omega)) fun r3_ hr3_ => ?_
   have qr3_ := hr3_.1
   try dsimp only at qr3_
   refine dv (At.c (hr3_.2) Tryz.call143 true [(0, 0)] [] [] trivial ·) ?_
   refine dv (At.z 2 ·) ?_
   refine dv (AW.q 2 ·) ?_
   refine dv (AW.ret ·) ?_
   refine dv (⟨_, Sub.refl _ _, ·⟩) ?_
   exact ⟨(r3_.1, r3_.2.1, (⟨r3_.2.2, r1_.2.2.release, r1_.2.2.node, r1_.2.2.size, r1_.2.2.digest⟩ : Cmd)), (by dsimp only; first | omega | (rw [ByteArray.size_append]; have : (⟨#[120]⟩ : ByteArray).size = 1 := rfl; omega)), KF.mk (.inr rfl) [(0, 0)] [.agg [.int .i64 r3_.2.2, .int .i64 r1_.2.2.release, .int .i64 r1_.2.2.node, .int .i64 r1_.2.2.size, .str r1_.2.2.digest]] (by kernel_rfl) (by kernel_rfl) (by kernel_rfl) (by kernel_rfl) (by kernel_rfl)⟩
 refine dv (AW.condF (r2_.2.2 == 0) (by kernel_rfl) (beq_eq_false_iff_ne.2 h1) ·) ?_
 refine dv (AW.q 2 ·) ?_
 by_cases h2 : r2_.2.2 = 1
 · refine dv (AW.condT (r2_.2.2 == 1) (by kernel_rfl) (beq_iff_eq.2 h2) ·) ?_
   refine dv (AW.g ·) ?_
   refine dv (At.a 1 ·) ?_
   refine dv (At.ll 16 3 1 116 (45, 6) (([0, 1000, 1001]).map encI) ·) ?_
   refine Exists.elim (spec_l1PickInt_spec  (⟨c.data, r2_.1, r2_.2.1⟩ : Cur) ([0, 1000, 1001]) (by dsimp only; omega) (by decide)) fun r3_ hr3_ => ?_
   have qr3_ := hr3_.1
   try dsimp only at qr3_
   refine dv (At.c (hr3_.2) Tryz.call161 true [(0, 0), (116, 1)] [] [] trivial ·) ?_
   refine dv (At.z 2 ·) ?_
   refine dv (AW.q 2 ·) ?_
   refine dv (AW.ret ·) ?_
   refine dv (⟨_, Sub.refl _ _, ·⟩) ?_
   exact ⟨(r3_.1, r3_.2.1, (⟨r1_.2.2.kind, r3_.2.2, r1_.2.2.node, r1_.2.2.size, r1_.2.2.digest⟩ : Cmd)), (by dsimp only; first | omega | (rw [ByteArray.size_append]; have : (⟨#[120]⟩ : ByteArray).size = 1 := rfl; omega)), KF.mk (.inr rfl) [(0, 0)] [.agg [.int .i64 r1_.2.2.kind, .int .i64 r3_.2.2, .int .i64 r1_.2.2.node, .int .i64 r1_.2.2.size, .str r1_.2.2.digest]] (by kernel_rfl) (by kernel_rfl) (by kernel_rfl) (by kernel_rfl) (by kernel_rfl)⟩
 refine dv (AW.condF (r2_.2.2 == 1) (by kernel_rfl) (beq_eq_false_iff_ne.2 h2) ·) ?_
 refine dv (AW.q 2 ·) ?_
 by_cases h3 : r2_.2.2 = 2
 · refine dv (AW.condT (r2_.2.2 == 2) (by kernel_rfl) (beq_iff_eq.2 h3) ·) ?_
   refine dv (AW.g ·) ?_
   refine dv (At.a 1 ·) ?_
   refine dv (At.ll 22 3 1 122 (45, 6) (([-1, 4, 5]).map encI) ·) ?_
   refine Exists.elim (spec_l1PickInt_spec  (⟨c.data, r2_.1, r2_.2.1⟩ : Cur) ([-1, 4, 5]) (by dsimp only; omega) (by decide)) fun r3_ hr3_ => ?_
   have qr3_ := hr3_.1
   try dsimp only at qr3_
   refine dv (At.c (hr3_.2) Tryz.call161 true [(0, 0), (122, 1)] [] [] trivial ·) ?_
   refine dv (At.z 2 ·) ?_
   refine dv (AW.q 2 ·) ?_
   refine dv (AW.ret ·) ?_
   refine dv (⟨_, Sub.refl _ _, ·⟩) ?_
   exact ⟨(r3_.1, r3_.2.1, (⟨r1_.2.2.kind, r1_.2.2.release, r3_.2.2, r1_.2.2.size, r1_.2.2.digest⟩ : Cmd)), (by dsimp only; first | omega | (rw [ByteArray.size_append]; have : (⟨#[120]⟩ : ByteArray).size = 1 := rfl; omega)), KF.mk (.inr rfl) [(0, 0)] [.agg [.int .i64 r1_.2.2.kind, .int .i64 r1_.2.2.release, .int .i64 r3_.2.2, .int .i64 r1_.2.2.size, .str r1_.2.2.digest]] (by kernel_rfl) (by kernel_rfl) (by kernel_rfl) (by kernel_rfl) (by kernel_rfl)⟩
 refine dv (AW.condF (r2_.2.2 == 2) (by kernel_rfl) (beq_eq_false_iff_ne.2 h3) ·) ?_
 refine dv (AW.q 2 ·) ?_
 by_cases h4 : r2_.2.2 = 3
 · refine dv (AW.condT (r2_.2.2 == 3) (by kernel_rfl) (beq_iff_eq.2 h4) ·) ?_
   refine dv (AW.g ·) ?_
   refine dv (At.a 1 ·) ?_
   refine dv (At.ll 28 3 1 128 (45, 6) (([-1, 1000, 1001]).map encI) ·) ?_
   refine Exists.elim (spec_l1PickInt_spec  (⟨c.data, r2_.1, r2_.2.1⟩ : Cur) ([-1, 1000, 1001]) (by dsimp only; omega) (by decide)) fun r3_ hr3_ => ?_
   have qr3_ := hr3_.1
   try dsimp only at qr3_
   refine dv (At.c (hr3_.2) Tryz.call161 true [(0, 0), (128, 1)] [] [] trivial ·) ?_
   refine dv (At.z 2 ·) ?_
   refine dv (AW.q 2 ·) ?_
   refine dv (AW.ret ·) ?_
   refine dv (⟨_, Sub.refl _ _, ·⟩) ?_
   exact ⟨(r3_.1, r3_.2.1, (⟨r1_.2.2.kind, r1_.2.2.release, r1_.2.2.node, r3_.2.2, r1_.2.2.digest⟩ : Cmd)), (by dsimp only; first | omega | (rw [ByteArray.size_append]; have : (⟨#[120]⟩ : ByteArray).size = 1 := rfl; omega)), KF.mk (.inr rfl) [(0, 0)] [.agg [.int .i64 r1_.2.2.kind, .int .i64 r1_.2.2.release, .int .i64 r1_.2.2.node, .int .i64 r3_.2.2, .str r1_.2.2.digest]] (by kernel_rfl) (by kernel_rfl) (by kernel_rfl) (by kernel_rfl) (by kernel_rfl)⟩
 refine dv (AW.condF (r2_.2.2 == 3) (by kernel_rfl) (beq_eq_false_iff_ne.2 h4) ·) ?_
 refine dv (AW.q 2 ·) ?_
 by_cases h5 : r2_.2.2 = 4
 · refine dv (AW.condT (r2_.2.2 == 4) (by kernel_rfl) (beq_iff_eq.2 h5) ·) ?_
   refine dv (AW.g ·) ?_
   refine dv (At.a 2 ·) ?_
   refine dv (At.cat (t := 9) (u := 9) (d := 35) (x := .tmp 34) (y := .const (.string ⟨#[120]⟩)) (a := r1_.2.2.digest) (b := (⟨#[120]⟩ : ByteArray)) (by kernel_rfl) (by kernel_rfl) (by kernel_rfl) (by kernel_rfl) (by have : (⟨#[120]⟩ : ByteArray).size = 1 := rfl; omega) ·) ?_
   refine dv (At.z 2 ·) ?_
   refine dv (AW.q 2 ·) ?_
   refine dv (AW.ret ·) ?_
   refine dv (⟨_, Sub.refl _ _, ·⟩) ?_
   exact ⟨(r2_.1, r2_.2.1, (⟨r1_.2.2.kind, r1_.2.2.release, r1_.2.2.node, r1_.2.2.size, r1_.2.2.digest ++ (⟨#[120]⟩ : ByteArray)⟩ : Cmd)), (by dsimp only; first | omega | (rw [ByteArray.size_append]; have : (⟨#[120]⟩ : ByteArray).size = 1 := rfl; omega)), KF.mk (.inr rfl) [(0, 0)] [.agg [.int .i64 r1_.2.2.kind, .int .i64 r1_.2.2.release, .int .i64 r1_.2.2.node, .int .i64 r1_.2.2.size, .str (r1_.2.2.digest ++ (⟨#[120]⟩ : ByteArray))]] (by kernel_rfl) (by kernel_rfl) (by kernel_rfl) (by kernel_rfl) (by kernel_rfl)⟩
 refine dv (AW.condF (r2_.2.2 == 4) (by kernel_rfl) (beq_eq_false_iff_ne.2 h5) ·) ?_
 refine dv (AW.skip ·) ?_
 refine dv (AW.q 2 ·) ?_
 refine dv (AW.ret ·) ?_
 refine dv (⟨_, Sub.refl _ _, ·⟩) ?_
 exact ⟨(r2_.1, r2_.2.1, r1_.2.2), (by dsimp only; first | omega | (rw [ByteArray.size_append]; have : (⟨#[120]⟩ : ByteArray).size = 1 := rfl; omega)), KF.mk (.inr rfl) [(0, 0)] [.agg [.int .i64 r1_.2.2.kind, .int .i64 r1_.2.2.release, .int .i64 r1_.2.2.node, .int .i64 r1_.2.2.size, .str r1_.2.2.digest]] (by kernel_rfl) (by kernel_rfl) (by kernel_rfl) (by kernel_rfl) (by kernel_rfl)⟩
end Go.Proofs.YtlmadhahghiedaaGreat
