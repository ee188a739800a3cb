/- The contracts of the functions that FnSent reaches (each: what it answers, said over values), printed by a program of this session (wip/sy/g/gen.py). -/
import Derived.Test.YtlmadhahghiedaaGreatFFnSent4
set_option linter.unusedVariables false
set_option linter.unusedSimpArgs false
set_option maxRecDepth 100000
set_option maxHeartbeats 4000000
namespace Go.Proofs.YtlmadhahghiedaaGreat
open Go Go.Sy Go.Proofs
theorem spec_l10DrawNet_spec  (c : Cur) (steps : Int) (hp : 0 ≤ c.pos ∧ c.pos ≤ c.data.length ∧ c.data.length ≤ 1048576) (hs : 0 ≤ steps ∧ steps ≤ 1000) : ∃ rho_ : Int × Int × List Raft × List Out, (0 ≤ rho_.1 ∧ rho_.1 ≤ c.data.length ∧ NetOk rho_.2.2.1 rho_.2.2.2) ∧ FnSpec Tryz.prog 141 [.ptr 0 0 0, .int .i64 steps] [.box 141 [.sl false 1 (c.data.map encU8), .int .i64 c.pos, .int .i64 c.seed]] (.tup [.ref 1, .ref 2]) [.box 141 [.sl false 1 (c.data.map encU8), .int .i64 rho_.1, .int .i64 rho_.2.1], .arr 29 10 (rho_.2.2.1.map encRaft), .arr 51 17 (rho_.2.2.2.map encOutT)] := by
 refine dv (fun h_ => FnSpec.of 154 Tryz.func141 rfl Tryz.ntmps141 (by simp) (AW.weakK h_)) ?_
 refine dv (AW.q 2 ·) ?_
 refine dv (AW.r ·) ?_
 refine dv (At.a 1 ·) ?_
 refine dv (At.ll 20 3 1 120 (45, 6) (([3, 3, 3, 5, 1]).map encI) ·) ?_
 refine Exists.elim (spec_l1PickInt_spec  c ([3, 3, 3, 5, 1]) (by omega) (by decide)) fun r1_ hr1_ => ?_
 have qr1_ := hr1_.1
 try dsimp only at qr1_
 refine dv (At.c (hr1_.2) Tryz.call161 true [(0, 0), (120, 1)] [] [] trivial ·) ?_
 have hof : r1_.2.2 = 1 ∨ r1_.2.2 = 3 ∨ r1_.2.2 = 5 := by have q := qr1_.2.2; simp only [List.mem_cons, List.not_mem_nil, or_false] at q; omega
 refine dv (At.z 1 ·) ?_
 refine dv (AW.r ·) ?_
 refine dv (At.lit0 (t := 142) (d := 22) (e := 29) (es := 10) (bytes := 144) 122 (by kernel_rfl) (by kernel_rfl) (by kernel_rfl) (by kernel_rfl) ·) ?_
 refine dv (At.z 1 ·) ?_
 refine dv (AW.seq ·) ?_
 refine dv (AW.q 1 ·) ?_
 refine dv (AW.block ·) ?_
 refine DW.loopQ (fun (x : Nat × List Raft) => match x with | (i, ns) => Go.Sy.mk [.ptr 0 0 0, .int .i64 steps, .un, .un, .un, .un, .int .i64 r1_.2.2, .ref 122, .int .i64 (i : Int)] [(0, .box 141 [.sl false 1 (c.data.map encU8), .int .i64 r1_.1, .int .i64 r1_.2.1]), (122, .arr 29 10 (ns.map encRaft))]) (fun (x : Nat × List Raft) => match x with | (i, ns) => (i : Int) ≤ r1_.2.2 ∧ ns.length = i ∧ ∀ r ∈ ns, NodeIn r1_.2.2 r) (fun (x : Nat × List Raft) => match x with | (i, ns) => (r1_.2.2).toNat - i) (0, []) ⟨by omega, rfl, fun r hr => by cases hr⟩ (Sub.o [(0, 0), (122, 122)] [true, true, false, false, false, false, true, true, true]) ?_
 rintro ⟨i, ns⟩ ⟨hi, hl, hns⟩ ih1
 refine dv (AW.seq ·) ?_
 refine dv (AW.q 3 ·) ?_
 by_cases h1 : (i : Int) < r1_.2.2
 · refine dv (AW.condT (decide ((i : Int) < r1_.2.2)) (by kernel_rfl) (decide_eq_true h1) ·) ?_
   refine dv (AW.skip ·) ?_
   refine dv (AW.seq ·) ?_
   refine dv (AW.block ·) ?_
   refine dv (AW.r ·) ?_
   refine dv (At.a 3 ·) ?_
   refine dv (At.c (FnSpec.nz (As := [.int .i64 (i : Int), .int .i64 r1_.2.2, .agg [.int .i64 0, .int .i64 0, .nil]]) 6 (spec_RaftNew_spec  (i : Int) r1_.2.2 (⟨0, 0, []⟩ : Hard) (by simp))) Tryz.call26 true [] [(1640, 0), (1641, 1), (1642, 2), (1643, 3)] [] trivial ·) ?_
   refine dv (At.z 6 ·) ?_
   refine dv (AW.g ·) ?_
   refine dv (At.a 2 ·) ?_
   refine dv (At.lk 37 29 10 137 (45, 6) [1640, 1641, 1642, 1643] (([((newR (i : Int) r1_.2.2 (⟨0, 0, []⟩ : Hard)).1)]).map encRaft) [(45, 6, ((((newR (i : Int) r1_.2.2 (⟨0, 0, []⟩ : Hard)).1).hard.log).map encEnt)), (3, 1, ((((newR (i : Int) r1_.2.2 (⟨0, 0, []⟩ : Hard)).1).yes).map encI)), (3, 1, ((((newR (i : Int) r1_.2.2 (⟨0, 0, []⟩ : Hard)).1).next).map encI)), (3, 1, ((((newR (i : Int) r1_.2.2 (⟨0, 0, []⟩ : Hard)).1).match_).map encI))] (by intro p hp; simp only [List.mem_cons, List.not_mem_nil, or_false] at hp; rcases hp with rfl | rfl | rfl | rfl; all_goals first | exact flatEnts | exact flatInts | (intro x hx; cases hx)) ·) ?_
   refine dv (At.apK 38 29 10 144 138 122 137 encRaft ns ([((newR (i : Int) r1_.2.2 (⟨0, 0, []⟩ : Hard)).1)]) (by simp only [List.length_map, List.length_append, List.length_take, List.length_drop, List.length_replicate, List.length_set, List.length_cons, List.length_nil]; omega) ·) ?_
   refine dv (At.z 1 ·) ?_
   refine dv (AW.g ·) ?_
   refine dv (At.a 2 ·) ?_
   refine dv (At.sI 27 ((i : Int) + 1) (by omega) ·) ?_
   refine dv (At.z 1 ·) ?_
   exact dw (fun _ h_ => AWL.weak (Sub.o [(0, 0), (138, 122)] [true, true, false, false, false, false, true, true, true]) h_) (ih1 (i + 1, (ns ++ ([((newR (i : Int) r1_.2.2 (⟨0, 0, []⟩ : Hard)).1)]))) (⟨by omega, by simp only [List.length_append, List.length_cons, List.length_nil]; omega, nodes_app hns (newR_in hof (by omega) (by omega))⟩) (by simp only; omega))
 refine dv (AW.condF (decide ((i : Int) < r1_.2.2)) (by kernel_rfl) (decide_eq_false h1) ·) ?_
 refine dv (AW.exit ·) ?_
 refine dv (AW.r ·) ?_
 refine dv (At.lit0 (t := 38) (d := 39) (e := 51) (es := 17) (bytes := 168) 139 (by kernel_rfl) (by kernel_rfl) (by kernel_rfl) (by kernel_rfl) ·) ?_
 refine dv (At.z 1 ·) ?_
 refine dv (AW.seq ·) ?_
 refine dv (AW.weak (Sub.frzIn 139 51 17 [] [] (by kernel_rfl) (frzNil)) ·) ?_
 refine dv (AW.g ·) ?_
 refine dv (At.a 3 ·) ?_
 refine dv (At.sI 42 (steps + 1) (by omega) ·) ?_
 refine Exists.elim (spec_l1Below_spec  (⟨c.data, r1_.1, r1_.2.1⟩ : Cur) (steps + 1) (by dsimp only; omega)) fun r2_ hr2_ => ?_
 have qr2_ := hr2_.1
 try dsimp only at qr2_
 refine dv (At.c (hr2_.2) Tryz.call143 true [(0, 0)] [] [] trivial ·) ?_
 refine dv (At.z 1 ·) ?_
 refine dv (AW.seq ·) ?_
 refine dv (AW.q 1 ·) ?_
 refine dv (AW.block ·) ?_
 refine DW.loopQ (fun (x : Nat × List Raft × List Out × Int × Int) => match x with | (k, ns, ml, p, s) => Go.Sy.mk [.ptr 0 0 0, .un, .un, .un, .un, .un, .int .i64 r1_.2.2, .ref 122, .un, .un, .un, .ref 139, .int .i64 r2_.2.2, .int .i64 (k : Int)] [(0, .box 141 [.sl false 1 (c.data.map encU8), .int .i64 p, .int .i64 s]), (122, .arr 29 10 (ns.map encRaft)), (139, .arr 51 17 (ml.map encOutT))]) (fun (x : Nat × List Raft × List Out × Int × Int) => match x with | (k, ns, ml, p, s) => (k : Int) ≤ r2_.2.2 ∧ (ns.length : Int) = r1_.2.2 ∧ (∀ r ∈ ns, NodeIn r1_.2.2 r) ∧ (ml.length ≤ 30 ∧ MailIn r1_.2.2 ml) ∧ (0 ≤ p ∧ p ≤ c.data.length)) (fun (x : Nat × List Raft × List Out × Int × Int) => match x with | (k, ns, ml, p, s) => (r2_.2.2 : Int).toNat - k) (0, ns, [], r2_.1, r2_.2.1) ⟨by omega, by omega, hns, ⟨by simp, fun o ho => by cases ho⟩, by omega⟩ (Sub.o [(0, 0), (122, 122), (139, 139)] [true, false, false, false, false, false, true, true, false, false, false, true, true, true]) ?_
 rintro ⟨k, ns, ml, p, s⟩ ⟨hk, hl, hns, ⟨hm, hml⟩, hpp⟩ ih2
 refine dv (AW.seq ·) ?_
 refine dv (AW.q 3 ·) ?_
 by_cases h2 : (k : Int) < r2_.2.2
 · refine dv (AW.condT (decide ((k : Int) < r2_.2.2)) (by kernel_rfl) (decide_eq_true h2) ·) ?_
   refine dv (AW.skip ·) ?_
   refine dv (AW.seq ·) ?_
   refine dv (AW.block ·) ?_
   refine dv (AW.r ·) ?_
   refine dv (At.a 2 ·) ?_
   refine Exists.elim (spec_l1Below_spec  (⟨c.data, p, s⟩ : Cur) r1_.2.2 (by dsimp only; omega)) fun r3_ hr3_ => ?_
   have qr3_ := hr3_.1
   try dsimp only at qr3_
   refine dv (At.c (hr3_.2) Tryz.call143 true [(0, 0)] [] [] trivial ·) ?_
   refine dv (At.z 1 ·) ?_
   refine dv (AW.r ·) ?_
   refine dv (At.lit0 (t := 38) (d := 52) (e := 51) (es := 17) (bytes := 168) 152 (by kernel_rfl) (by kernel_rfl) (by kernel_rfl) (by kernel_rfl) ·) ?_
   refine dv (At.z 1 ·) ?_
   refine dv (AW.seq ·) ?_
   refine dv (AW.seq ·) ?_
   refine dv (AW.weak (Sub.frzIn 152 51 17 [] [] (by kernel_rfl) (frzNil)) ·) ?_
   refine dv (AW.g ·) ?_
   refine dv (At.a 1 ·) ?_
   refine Exists.elim (spec_l1Below_spec  (⟨c.data, r3_.1, r3_.2.1⟩ : Cur) 12 (by dsimp only; omega)) fun r4_ hr4_ => ?_
   have qr4_ := hr4_.1
   try dsimp only at qr4_
   refine dv (At.c (hr4_.2) Tryz.call143 true [(0, 0)] [] [] trivial ·) ?_
   refine dv (At.done rfl ·) ?_
   refine dv (AW.block ·) ?_
   refine dv (AW.q 2 ·) ?_
   by_cases h3 : r4_.2.2 = 0
   · refine dv (AW.condT (r4_.2.2 == 0) (by kernel_rfl) (beq_iff_eq.2 h3) ·) ?_
     refine Exists.elim (gE ns ((r3_.2.2).toNat) (by omega)) fun e1 he1 => ?_
     have hye1 := hns _ (List.mem_of_getElem? he1)
     have hnne1 := hye1.nums
     have hsme1 := hnne1.2.2.2.2.2
     have hoke1 := hye1.1
     refine dv (AW.weak (Sub.openL 122 ((r3_.2.2).toNat) 29 10 (ns.map encRaft) (encRaft e1) [(6, 5001), (7, 5002), (8, 5003), (9, 5004)] (by kernel_rfl) (mapGet he1) (by kernel_rfl)) ·) ?_
     refine dv (AW.g ·) ?_
     refine dv (At.a 4 ·) ?_
     refine dv (At.idxH 142 100 (.tmp 98) (.tmp 99) 122 ((ns.map encRaft).set ((r3_.2.2).toNat) (.agg [.int .i64 e1.id, .int .i64 e1.of_, .int .i64 e1.role, .int .i64 e1.commit, .int .i64 e1.hard.term, .int .i64 e1.hard.vote, .un, .un, .un, .un])) ((r3_.2.2).toNat) [(9, 5004), (8, 5003), (7, 5002), (6, 5001)] .i64 (r3_.2.2) 29 10 (by omega) (by rw [List.length_set, List.length_map]; omega) ·) ?_
     refine dv (At.ldH 29 101 (.tmp 100) 122 29 10 ((ns.map encRaft).set ((r3_.2.2).toNat) (.agg [.int .i64 e1.id, .int .i64 e1.of_, .int .i64 e1.role, .int .i64 e1.commit, .int .i64 e1.hard.term, .int .i64 e1.hard.vote, .un, .un, .un, .un])) ((r3_.2.2).toNat) [(9, 5004), (8, 5003), (7, 5002), (6, 5001)] 0 true 10 (.agg [.int .i64 e1.id, .int .i64 e1.of_, .int .i64 e1.role, .int .i64 e1.commit, .int .i64 e1.hard.term, .int .i64 e1.hard.vote, .un, .un, .un, .un]) (.agg [.int .i64 e1.id, .int .i64 e1.of_, .int .i64 e1.role, .int .i64 e1.commit, .int .i64 e1.hard.term, .int .i64 e1.hard.vote, .ref 5001, .ref 5002, .ref 5003, .ref 5004]) (setGet (mapGet he1)) ·) ?_
     refine dv (At.c (spec_RaftStand_spec  e1 (by assumption)) Tryz.call30 false [] [(3040, 0), (3041, 1), (3042, 2), (3043, 3), (3044, 4), (3045, 5)] [(5001, 6, (e1.hard.log.map encEnt)), (5002, 1, (e1.yes.map encI)), (5003, 1, (e1.next.map encI)), (5004, 1, (e1.match_.map encI))] ⟨rfl, ⟨45, (e1.hard.log.map encEnt), by kernel_rfl, FrzIs.same (allP_encEnt _)⟩, rfl, ⟨3, (e1.yes.map encI), by kernel_rfl, FrzIs.same (allP_encI _)⟩, rfl, ⟨3, (e1.next.map encI), by kernel_rfl, FrzIs.same (allP_encI _)⟩, rfl, ⟨3, (e1.match_.map encI), by kernel_rfl, FrzIs.same (allP_encI _)⟩, trivial⟩ ·) ?_
     have hou := stands_in hye1
     have hnd := hou.1
     have hle := hou.2.1
     have hmo : MailIn r1_.2.2 _ := hou.2.2
     refine dv (At.a 4 ·) ?_
     refine dv (At.idxH 142 106 (.tmp 96) (.tmp 97) 122 ((ns.map encRaft).set ((r3_.2.2).toNat) (.agg [.int .i64 e1.id, .int .i64 e1.of_, .int .i64 e1.role, .int .i64 e1.commit, .int .i64 e1.hard.term, .int .i64 e1.hard.vote, .un, .un, .un, .un])) ((r3_.2.2).toNat) [(9, 5004), (8, 5003), (7, 5002), (6, 5001)] .i64 (r3_.2.2) 29 10 (by omega) (by rw [List.length_set, List.length_map]; omega) ·) ?_
     refine dv (At.stH 29 122 29 10 ((r3_.2.2).toNat) (.tmp 106) (.tmp 103) ((ns.map encRaft).set ((r3_.2.2).toNat) (.agg [.int .i64 e1.id, .int .i64 e1.of_, .int .i64 e1.role, .int .i64 e1.commit, .int .i64 e1.hard.term, .int .i64 e1.hard.vote, .un, .un, .un, .un])) [.int .i64 (((stands e1).1).id), .int .i64 (((stands e1).1).of_), .int .i64 (((stands e1).1).role), .int .i64 (((stands e1).1).commit), .int .i64 (((stands e1).1).hard.term), .int .i64 (((stands e1).1).hard.vote), .ref 3040, .ref 3041, .ref 3042, .ref 3043] [.int .i64 e1.id, .int .i64 e1.of_, .int .i64 e1.role, .int .i64 e1.commit, .int .i64 e1.hard.term, .int .i64 e1.hard.vote, .un, .un, .un, .un] [(9, 5004), (8, 5003), (7, 5002), (6, 5001)] (setGet (mapGet he1)) ·) ?_
     refine dv (At.z 1 ·) ?_
     refine dv (AW.seq ·) ?_
     refine dv (AW.weak (Sub.closeL 122 ((r3_.2.2).toNat) 29 10 (((ns.map encRaft).set ((r3_.2.2).toNat) (.agg [.int .i64 e1.id, .int .i64 e1.of_, .int .i64 e1.role, .int .i64 e1.commit, .int .i64 e1.hard.term, .int .i64 e1.hard.vote, .un, .un, .un, .un])).set ((r3_.2.2).toNat) (.agg [.int .i64 (((stands e1).1).id), .int .i64 (((stands e1).1).of_), .int .i64 (((stands e1).1).role), .int .i64 (((stands e1).1).commit), .int .i64 (((stands e1).1).hard.term), .int .i64 (((stands e1).1).hard.vote), .un, .un, .un, .un])) ((ns.set ((r3_.2.2).toNat) ((stands e1).1)).map encRaft) [(6, 3040), (7, 3041), (8, 3042), (9, 3043)] (.agg [.int .i64 (((stands e1).1).id), .int .i64 (((stands e1).1).of_), .int .i64 (((stands e1).1).role), .int .i64 (((stands e1).1).commit), .int .i64 (((stands e1).1).hard.term), .int .i64 (((stands e1).1).hard.vote), .un, .un, .un, .un]) (encRaft ((stands e1).1)) [(45, 6, ((((stands e1).1).hard.log).map encEnt)), (3, 1, ((((stands e1).1).yes).map encI)), (3, 1, ((((stands e1).1).next).map encI)), (3, 1, ((((stands e1).1).match_).map encI))] (by kernel_rfl) (setGet (setGet (mapGet he1))) (by kernel_rfl) (by kernel_rfl) (by intro p hp; simp only [List.mem_cons, List.not_mem_nil, or_false] at hp; rcases hp with rfl | rfl | rfl | rfl; all_goals first | exact flatEnts | exact flatInts | (intro x hx; cases hx)) (by kernel_rfl) (by kernel_rfl) (by rw [List.set_set, List.set_set]; exact setV.symm)) ·) ?_
     refine dv (AW.weak (Sub.frzIn 3045 51 17 (((stands e1).2.2).map encOut) (((stands e1).2.2).map encOutT) (by kernel_rfl) (frzOutT _)) ·) ?_
     refine dv (AW.g ·) ?_
     refine dv (At.a 2 ·) ?_
     refine dv (At.apC 146 51 17 168 246 139 3045 encOutT ml ((stands e1).2.2) (by omega) (allP_encOutT _) ·) ?_
     refine dv (At.z 1 ·) ?_
     refine dv (AW.r ·) ?_
     refine dv (At.a 2 ·) ?_
     refine dv (At.sL 148 encOutT (ml ++ ((stands e1).2.2)) ·) ?_
     refine dv (At.z 1 ·) ?_
     by_cases h4 : ((ml ++ ((stands e1).2.2)).length : Int) > 30
     · refine dv (AW.condT (decide (((ml ++ ((stands e1).2.2)).length : Int) > 30)) (by kernel_rfl) (decide_eq_true h4) ·) ?_
       refine dv (AW.g ·) ?_
       refine dv (At.a 1 ·) ?_
       refine dv (At.cutRef (t := 38) (d := 151) (e := 51) (es := 17) (i := 246) (x := .tmp 150) (lx := none) (hx := some (.const (.int .i64 30))) (xs := ((ml ++ ((stands e1).2.2)).map encOutT)) (vl := .un) (vh := .int .i64 30) 251 30 (((ml ++ ((stands e1).2.2)).take 30).map encOutT) (by kernel_rfl) (by kernel_rfl) (by kernel_rfl) (by kernel_rfl) (by kernel_rfl) (by kernel_rfl) (by decide) (.inl ⟨rfl, rfl⟩) (.inr ⟨_, _, rfl, rfl⟩) (by simp only [List.length_map]; omega) (by rw [List.map_take]) ·) ?_
       refine dv (At.z 1 ·) ?_
       refine dv (AW.g ·) ?_
       refine dv (At.a 2 ·) ?_
       refine dv (At.sI 48 ((k : Int) + 1) (by omega) ·) ?_
       refine dv (At.z 1 ·) ?_
       exact dw (fun _ h_ => AWL.weak (Sub.o [(0, 0), (122, 122), (251, 139)] [true, false, false, false, false, false, true, true, false, false, false, true, true, true]) h_) (ih2 (k + 1, (ns.set ((r3_.2.2).toNat) ((stands e1).1)), ((ml ++ ((stands e1).2.2)).take 30), r4_.1, r4_.2.1) (⟨by omega, by (try simp only [List.length_set]); omega, by exact NodesIn.set hns _ hnd, ⟨by (try simp only [List.length_append, List.length_take, List.length_drop, List.length_nil] at *); omega, by exact mail_take (mail_app hml hmo) _⟩, by omega⟩) (by simp only; omega))
     refine dv (AW.condF (decide (((ml ++ ((stands e1).2.2)).length : Int) > 30)) (by kernel_rfl) (decide_eq_false h4) ·) ?_
     refine dv (AW.skip ·) ?_
     refine dv (AW.g ·) ?_
     refine dv (At.a 2 ·) ?_
     refine dv (At.sI 48 ((k : Int) + 1) (by omega) ·) ?_
     refine dv (At.z 1 ·) ?_
     exact dw (fun _ h_ => AWL.weak (Sub.o [(0, 0), (122, 122), (246, 139)] [true, false, false, false, false, false, true, true, false, false, false, true, true, true]) h_) (ih2 (k + 1, (ns.set ((r3_.2.2).toNat) ((stands e1).1)), (ml ++ ((stands e1).2.2)), r4_.1, r4_.2.1) (⟨by omega, by (try simp only [List.length_set]); omega, by exact NodesIn.set hns _ hnd, ⟨by (try simp only [List.length_append, List.length_take, List.length_drop, List.length_nil] at *); omega, by exact mail_app hml hmo⟩, by omega⟩) (by simp only; omega))
   refine dv (AW.condF (r4_.2.2 == 0) (by kernel_rfl) (beq_eq_false_iff_ne.2 h3) ·) ?_
   refine dv (AW.seq ·) ?_
   refine dv (AW.q 2 ·) ?_
   by_cases h5 : r4_.2.2 = 1
   · refine dv (AW.condT (r4_.2.2 == 1) (by kernel_rfl) (beq_iff_eq.2 h5) ·) ?_
     refine dv (AW.skip ·) ?_
     by_cases h6 : r4_.2.2 = 1
     · refine dv (AW.condT (r4_.2.2 == 1) (by kernel_rfl) (beq_iff_eq.2 h6) ·) ?_
       refine dv (AW.seq ·) ?_
       refine dv (AW.q 1 ·) ?_
       refine dv (AW.block ·) ?_
       refine DW.loopQ (fun (x : Nat × Int) => match x with | (j, i) => Go.Sy.mk [.ptr 0 0 0, .un, .un, .un, .un, .un, .int .i64 r1_.2.2, .ref 122, .un, .un, .un, .ref 139, .int .i64 r2_.2.2, .int .i64 (k : Int), .int .i64 i, .un, .int .i64 (j : Int)] [(0, .box 141 [.sl false 1 (c.data.map encU8), .int .i64 r4_.1, .int .i64 r4_.2.1]), (122, .arr 29 10 (ns.map encRaft)), (139, .arr 51 17 (ml.map encOutT))]) (fun (x : Nat × Int) => match x with | (j, i) => (j : Int) ≤ r1_.2.2 ∧ 0 ≤ i ∧ i < r1_.2.2) (fun (x : Nat × Int) => match x with | (j, i) => (r1_.2.2).toNat - j) (0, r3_.2.2) (by simp only; omega) (Sub.o [(0, 0), (122, 122), (139, 139)] [true, false, false, false, false, false, true, true, false, false, false, true, true, true, true, false, true]) ?_
       rintro ⟨j, i⟩ hj ih3
       refine dv (AW.seq ·) ?_
       refine dv (AW.q 3 ·) ?_
       by_cases h7 : (j : Int) < r1_.2.2
       · refine dv (AW.condT (decide ((j : Int) < r1_.2.2)) (by kernel_rfl) (decide_eq_true h7) ·) ?_
         refine dv (AW.skip ·) ?_
         refine dv (AW.seq ·) ?_
         refine dv (AW.block ·) ?_
         refine dv (AW.r ·) ?_
         refine dv (At.a 2 ·) ?_
         refine dv (At.iRf 142 117 (.tmp 115) (.tmp 116) 122 (ns.map encRaft) .i64 (j : Int) 29 10 (by omega) (by simp only [List.length_map]; omega) ·) ?_
         refine dv (At.a 1 ·) ?_
         refine Exists.elim (gE ns j (by omega)) fun e2 he2 => ?_
         have hye2 := hns _ (List.mem_of_getElem? he2)
         have hnne2 := hye2.nums
         have hsme2 := hnne2.2.2.2.2.2
         have hoke2 := hye2.1
         refine dv (At.ldP 3 119 (.tmp 118) 122 29 10 (ns.map encRaft) j 2 false 1 (encRaft e2) (.int .i64 e2.role) (mapGet he2) ·) ?_
         refine dv (At.z 1 ·) ?_
         by_cases h8 : e2.role = 3
         · refine dv (AW.condT (e2.role == 3) (by kernel_rfl) (beq_iff_eq.2 h8) ·) ?_
           refine dv (AW.gq 2 ·) ?_
           refine dv (AW.g ·) ?_
           refine dv (At.a 2 ·) ?_
           refine dv (At.sI 114 ((j : Int) + 1) (by omega) ·) ?_
           refine dv (At.z 1 ·) ?_
           exact dw (fun _ h_ => AWL.weak (Sub.o [(0, 0), (122, 122), (139, 139)] [true, false, false, false, false, false, true, true, false, false, false, true, true, true, true, false, true]) h_) (ih3 (j + 1, (j : Int)) (by simp only; omega) (by simp only; omega))
         refine dv (AW.condF (e2.role == 3) (by kernel_rfl) (beq_eq_false_iff_ne.2 h8) ·) ?_
         refine dv (AW.skip ·) ?_
         refine dv (AW.g ·) ?_
         refine dv (At.a 2 ·) ?_
         refine dv (At.sI 114 ((j : Int) + 1) (by omega) ·) ?_
         refine dv (At.z 1 ·) ?_
         exact dw (fun _ h_ => AWL.weak (Sub.o [(0, 0), (122, 122), (139, 139)] [true, false, false, false, false, false, true, true, false, false, false, true, true, true, true, false, true]) h_) (ih3 (j + 1, i) (by simp only; omega) (by simp only; omega))
       refine dv (AW.condF (decide ((j : Int) < r1_.2.2)) (by kernel_rfl) (decide_eq_false h7) ·) ?_
       refine dv (AW.exit ·) ?_
       refine Exists.elim (gE ns ((i).toNat) (by omega)) fun e3 he3 => ?_
       have hye3 := hns _ (List.mem_of_getElem? he3)
       have hnne3 := hye3.nums
       have hsme3 := hnne3.2.2.2.2.2
       have hoke3 := hye3.1
       refine dv (AW.weak (Sub.openL 122 ((i).toNat) 29 10 (ns.map encRaft) (encRaft e3) [(6, 5005), (7, 5006), (8, 5007), (9, 5008)] (by kernel_rfl) (mapGet he3) (by kernel_rfl)) ·) ?_
       refine dv (AW.gD Tryz_mix ·) ?_
       refine dv (At.a 4 ·) ?_
       refine dv (At.idxH 142 127 (.tmp 125) (.tmp 126) 122 ((ns.map encRaft).set ((i).toNat) (.agg [.int .i64 e3.id, .int .i64 e3.of_, .int .i64 e3.role, .int .i64 e3.commit, .int .i64 e3.hard.term, .int .i64 e3.hard.vote, .un, .un, .un, .un])) ((i).toNat) [(9, 5008), (8, 5007), (7, 5006), (6, 5005)] .i64 (i) 29 10 (by omega) (by rw [List.length_set, List.length_map]; omega) ·) ?_
       refine dv (At.ldH 29 128 (.tmp 127) 122 29 10 ((ns.map encRaft).set ((i).toNat) (.agg [.int .i64 e3.id, .int .i64 e3.of_, .int .i64 e3.role, .int .i64 e3.commit, .int .i64 e3.hard.term, .int .i64 e3.hard.vote, .un, .un, .un, .un])) ((i).toNat) [(9, 5008), (8, 5007), (7, 5006), (6, 5005)] 0 true 10 (.agg [.int .i64 e3.id, .int .i64 e3.of_, .int .i64 e3.role, .int .i64 e3.commit, .int .i64 e3.hard.term, .int .i64 e3.hard.vote, .un, .un, .un, .un]) (.agg [.int .i64 e3.id, .int .i64 e3.of_, .int .i64 e3.role, .int .i64 e3.commit, .int .i64 e3.hard.term, .int .i64 e3.hard.vote, .ref 5005, .ref 5006, .ref 5007, .ref 5008]) (setGet (mapGet he3)) ·) ?_
       refine dv (At.a 1 ·) ?_
       refine Exists.elim (spec_l5DrawRight_spec  (⟨c.data, r4_.1, r4_.2.1⟩ : Cur) (by dsimp only; omega)) fun r5_ hr5_ => ?_
       have qr5_ := hr5_.1
       try dsimp only at qr5_
       refine dv (At.c (hr5_.2) Tryz.call61 true [(0, 0)] [] [] trivial ·) ?_
       refine dv (At.c (spec_RaftPropose_spec  e3 r5_.2.2 (by assumption)) Tryz.call33 false [] [(3620, 0), (3621, 1), (3622, 2), (3623, 3), (3624, 4), (3625, 5)] [(5005, 6, (e3.hard.log.map encEnt)), (5006, 1, (e3.yes.map encI)), (5007, 1, (e3.next.map encI)), (5008, 1, (e3.match_.map encI))] ⟨rfl, ⟨45, (e3.hard.log.map encEnt), by kernel_rfl, FrzIs.same (allP_encEnt _)⟩, rfl, ⟨3, (e3.yes.map encI), by kernel_rfl, FrzIs.same (allP_encI _)⟩, rfl, ⟨3, (e3.next.map encI), by kernel_rfl, FrzIs.same (allP_encI _)⟩, rfl, ⟨3, (e3.match_.map encI), by kernel_rfl, FrzIs.same (allP_encI _)⟩, trivial⟩ ·) ?_
       have hou := prop_in r5_.2.2 hye3
       have hnd := hou.1
       have hle := hou.2.1
       have hmo : MailIn r1_.2.2 _ := hou.2.2
       refine dv (At.a 5 ·) ?_
       refine dv (At.idxH 142 136 (.tmp 123) (.tmp 124) 122 ((ns.map encRaft).set ((i).toNat) (.agg [.int .i64 e3.id, .int .i64 e3.of_, .int .i64 e3.role, .int .i64 e3.commit, .int .i64 e3.hard.term, .int .i64 e3.hard.vote, .un, .un, .un, .un])) ((i).toNat) [(9, 5008), (8, 5007), (7, 5006), (6, 5005)] .i64 (i) 29 10 (by omega) (by rw [List.length_set, List.length_map]; omega) ·) ?_
       refine dv (At.stH 29 122 29 10 ((i).toNat) (.tmp 136) (.tmp 132) ((ns.map encRaft).set ((i).toNat) (.agg [.int .i64 e3.id, .int .i64 e3.of_, .int .i64 e3.role, .int .i64 e3.commit, .int .i64 e3.hard.term, .int .i64 e3.hard.vote, .un, .un, .un, .un])) [.int .i64 ((propR e3 r5_.2.2).id), .int .i64 ((propR e3 r5_.2.2).of_), .int .i64 ((propR e3 r5_.2.2).role), .int .i64 ((propR e3 r5_.2.2).commit), .int .i64 ((propR e3 r5_.2.2).hard.term), .int .i64 ((propR e3 r5_.2.2).hard.vote), .ref 3620, .ref 3621, .ref 3622, .ref 3623] [.int .i64 e3.id, .int .i64 e3.of_, .int .i64 e3.role, .int .i64 e3.commit, .int .i64 e3.hard.term, .int .i64 e3.hard.vote, .un, .un, .un, .un] [(9, 5008), (8, 5007), (7, 5006), (6, 5005)] (setGet (mapGet he3)) ·) ?_
       refine dv (At.zD 1 ·) ?_
       refine dv (AW.seq ·) ?_
       refine dv (AW.weak (Sub.closeL 122 ((i).toNat) 29 10 (((ns.map encRaft).set ((i).toNat) (.agg [.int .i64 e3.id, .int .i64 e3.of_, .int .i64 e3.role, .int .i64 e3.commit, .int .i64 e3.hard.term, .int .i64 e3.hard.vote, .un, .un, .un, .un])).set ((i).toNat) (.agg [.int .i64 ((propR e3 r5_.2.2).id), .int .i64 ((propR e3 r5_.2.2).of_), .int .i64 ((propR e3 r5_.2.2).role), .int .i64 ((propR e3 r5_.2.2).commit), .int .i64 ((propR e3 r5_.2.2).hard.term), .int .i64 ((propR e3 r5_.2.2).hard.vote), .un, .un, .un, .un])) ((ns.set ((i).toNat) (propR e3 r5_.2.2)).map encRaft) [(6, 3620), (7, 3621), (8, 3622), (9, 3623)] (.agg [.int .i64 ((propR e3 r5_.2.2).id), .int .i64 ((propR e3 r5_.2.2).of_), .int .i64 ((propR e3 r5_.2.2).role), .int .i64 ((propR e3 r5_.2.2).commit), .int .i64 ((propR e3 r5_.2.2).hard.term), .int .i64 ((propR e3 r5_.2.2).hard.vote), .un, .un, .un, .un]) (encRaft (propR e3 r5_.2.2)) [(45, 6, (((propR e3 r5_.2.2).hard.log).map encEnt)), (3, 1, (((propR e3 r5_.2.2).yes).map encI)), (3, 1, (((propR e3 r5_.2.2).next).map encI)), (3, 1, (((propR e3 r5_.2.2).match_).map encI))] (by kernel_rfl) (setGet (setGet (mapGet he3))) (by kernel_rfl) (by kernel_rfl) (by intro p hp; simp only [List.mem_cons, List.not_mem_nil, or_false] at hp; rcases hp with rfl | rfl | rfl | rfl; all_goals first | exact flatEnts | exact flatInts | (intro x hx; cases hx)) (by kernel_rfl) (by kernel_rfl) (by rw [List.set_set, List.set_set]; exact setV.symm)) ·) ?_
       refine dv (AW.weak (Sub.frzIn 3625 51 17 ((propOuts e3 r5_.2.2).map encOut) ((propOuts e3 r5_.2.2).map encOutT) (by kernel_rfl) (frzOutT _)) ·) ?_
       refine dv (AW.g ·) ?_
       refine dv (At.a 2 ·) ?_
       refine dv (At.apC 146 51 17 168 246 139 3625 encOutT ml (propOuts e3 r5_.2.2) (by omega) (allP_encOutT _) ·) ?_
       refine dv (At.z 1 ·) ?_
       refine dv (AW.r ·) ?_
       refine dv (At.a 2 ·) ?_
       refine dv (At.sL 148 encOutT (ml ++ (propOuts e3 r5_.2.2)) ·) ?_
       refine dv (At.z 1 ·) ?_
       by_cases h9 : ((ml ++ (propOuts e3 r5_.2.2)).length : Int) > 30
       · refine dv (AW.condT (decide (((ml ++ (propOuts e3 r5_.2.2)).length : Int) > 30)) (by kernel_rfl) (decide_eq_true h9) ·) ?_
         refine dv (AW.g ·) ?_
         refine dv (At.a 1 ·) ?_
         refine dv (At.cutRef (t := 38) (d := 151) (e := 51) (es := 17) (i := 246) (x := .tmp 150) (lx := none) (hx := some (.const (.int .i64 30))) (xs := ((ml ++ (propOuts e3 r5_.2.2)).map encOutT)) (vl := .un) (vh := .int .i64 30) 251 30 (((ml ++ (propOuts e3 r5_.2.2)).take 30).map encOutT) (by kernel_rfl) (by kernel_rfl) (by kernel_rfl) (by kernel_rfl) (by kernel_rfl) (by kernel_rfl) (by decide) (.inl ⟨rfl, rfl⟩) (.inr ⟨_, _, rfl, rfl⟩) (by simp only [List.length_map]; omega) (by rw [List.map_take]) ·) ?_
         refine dv (At.z 1 ·) ?_
         refine dv (AW.g ·) ?_
         refine dv (At.a 2 ·) ?_
         refine dv (At.sI 48 ((k : Int) + 1) (by omega) ·) ?_
         refine dv (At.z 1 ·) ?_
         exact dw (fun _ h_ => AWL.weak (Sub.o [(0, 0), (122, 122), (251, 139)] [true, false, false, false, false, false, true, true, false, false, false, true, true, true]) h_) (ih2 (k + 1, (ns.set ((i).toNat) (propR e3 r5_.2.2)), ((ml ++ (propOuts e3 r5_.2.2)).take 30), r5_.1, r5_.2.1) (⟨by omega, by (try simp only [List.length_set]); omega, by exact NodesIn.set hns _ hnd, ⟨by (try simp only [List.length_append, List.length_take, List.length_drop, List.length_nil] at *); omega, by exact mail_take (mail_app hml hmo) _⟩, by omega⟩) (by simp only; omega))
       refine dv (AW.condF (decide (((ml ++ (propOuts e3 r5_.2.2)).length : Int) > 30)) (by kernel_rfl) (decide_eq_false h9) ·) ?_
       refine dv (AW.skip ·) ?_
       refine dv (AW.g ·) ?_
       refine dv (At.a 2 ·) ?_
       refine dv (At.sI 48 ((k : Int) + 1) (by omega) ·) ?_
       refine dv (At.z 1 ·) ?_
       exact dw (fun _ h_ => AWL.weak (Sub.o [(0, 0), (122, 122), (246, 139)] [true, false, false, false, false, false, true, true, false, false, false, true, true, true]) h_) (ih2 (k + 1, (ns.set ((i).toNat) (propR e3 r5_.2.2)), (ml ++ (propOuts e3 r5_.2.2)), r5_.1, r5_.2.1) (⟨by omega, by (try simp only [List.length_set]); omega, by exact NodesIn.set hns _ hnd, ⟨by (try simp only [List.length_append, List.length_take, List.length_drop, List.length_nil] at *); omega, by exact mail_app hml hmo⟩, by omega⟩) (by simp only; omega))
     refine dv (AW.condF (r4_.2.2 == 1) (by kernel_rfl) (beq_eq_false_iff_ne.2 h6) ·) ?_
     refine dv (AW.q 2 ·) ?_
     by_cases h10 : r4_.2.2 = 3
     · refine dv (AW.condT (r4_.2.2 == 3) (by kernel_rfl) (beq_iff_eq.2 h10) ·) ?_
       refine Exists.elim (gE ns ((r3_.2.2).toNat) (by omega)) fun e4 he4 => ?_
       have hye4 := hns _ (List.mem_of_getElem? he4)
       have hnne4 := hye4.nums
       have hsme4 := hnne4.2.2.2.2.2
       have hoke4 := hye4.1
       refine dv (AW.weak (Sub.openL 122 ((r3_.2.2).toNat) 29 10 (ns.map encRaft) (encRaft e4) [(6, 5009), (7, 5010), (8, 5011), (9, 5012)] (by kernel_rfl) (mapGet he4) (by kernel_rfl)) ·) ?_
       refine dv (AW.g ·) ?_
       refine dv (At.a 2 ·) ?_
       refine dv (At.idxH 142 141 (.tmp 139) (.tmp 140) 122 ((ns.map encRaft).set ((r3_.2.2).toNat) (.agg [.int .i64 e4.id, .int .i64 e4.of_, .int .i64 e4.role, .int .i64 e4.commit, .int .i64 e4.hard.term, .int .i64 e4.hard.vote, .un, .un, .un, .un])) ((r3_.2.2).toNat) [(9, 5012), (8, 5011), (7, 5010), (6, 5009)] .i64 (r3_.2.2) 29 10 (by omega) (by rw [List.length_set, List.length_map]; omega) ·) ?_
       refine dv (At.ldH 29 142 (.tmp 141) 122 29 10 ((ns.map encRaft).set ((r3_.2.2).toNat) (.agg [.int .i64 e4.id, .int .i64 e4.of_, .int .i64 e4.role, .int .i64 e4.commit, .int .i64 e4.hard.term, .int .i64 e4.hard.vote, .un, .un, .un, .un])) ((r3_.2.2).toNat) [(9, 5012), (8, 5011), (7, 5010), (6, 5009)] 0 true 10 (.agg [.int .i64 e4.id, .int .i64 e4.of_, .int .i64 e4.role, .int .i64 e4.commit, .int .i64 e4.hard.term, .int .i64 e4.hard.vote, .un, .un, .un, .un]) (.agg [.int .i64 e4.id, .int .i64 e4.of_, .int .i64 e4.role, .int .i64 e4.commit, .int .i64 e4.hard.term, .int .i64 e4.hard.vote, .ref 5009, .ref 5010, .ref 5011, .ref 5012]) (setGet (mapGet he4)) ·) ?_
       refine dv (At.c (spec_RaftBeat_spec  e4 (by assumption)) Tryz.call25 false [] [(3860, 0)] [(5009, 6, (e4.hard.log.map encEnt)), (5010, 1, (e4.yes.map encI)), (5011, 1, (e4.next.map encI)), (5012, 1, (e4.match_.map encI))] ⟨rfl, ⟨45, (e4.hard.log.map encEnt), by kernel_rfl, FrzIs.same (allP_encEnt _)⟩, rfl, ⟨3, (e4.yes.map encI), by kernel_rfl, FrzIs.same (allP_encI _)⟩, rfl, ⟨3, (e4.next.map encI), by kernel_rfl, FrzIs.same (allP_encI _)⟩, rfl, ⟨3, (e4.match_.map encI), by kernel_rfl, FrzIs.same (allP_encI _)⟩, trivial⟩ ·) ?_
       have hou := beat_in hye4
       have hle := hou.1
       have hmo : MailIn r1_.2.2 _ := hou.2
       refine dv (At.z 1 ·) ?_
       refine dv (AW.seq ·) ?_
       refine dv (AW.weak (Sub.closeL 122 ((r3_.2.2).toNat) 29 10 ((ns.map encRaft).set ((r3_.2.2).toNat) (.agg [.int .i64 e4.id, .int .i64 e4.of_, .int .i64 e4.role, .int .i64 e4.commit, .int .i64 e4.hard.term, .int .i64 e4.hard.vote, .un, .un, .un, .un])) (ns.map encRaft) [(9, 5012), (8, 5011), (7, 5010), (6, 5009)] (.agg [.int .i64 e4.id, .int .i64 e4.of_, .int .i64 e4.role, .int .i64 e4.commit, .int .i64 e4.hard.term, .int .i64 e4.hard.vote, .un, .un, .un, .un]) (encRaft e4) [(3, 1, (e4.match_.map encI)), (3, 1, (e4.next.map encI)), (3, 1, (e4.yes.map encI)), (45, 6, (e4.hard.log.map encEnt))] (by kernel_rfl) (setGet (mapGet he4)) (by kernel_rfl) (by kernel_rfl) (by intro p hp; simp only [List.mem_cons, List.not_mem_nil, or_false] at hp; rcases hp with rfl | rfl | rfl | rfl; all_goals first | exact flatEnts | exact flatInts | (intro x hx; cases hx)) (by kernel_rfl) (by kernel_rfl) (by rw [List.set_set]; exact set_self (mapGet he4))) ·) ?_
       refine dv (AW.weak (Sub.frzIn 3860 51 17 ((beat e4).map encOut) ((beat e4).map encOutT) (by kernel_rfl) (frzOutT _)) ·) ?_
       refine dv (AW.g ·) ?_
       refine dv (At.a 2 ·) ?_
       refine dv (At.apC 146 51 17 168 246 139 3860 encOutT ml (beat e4) (by omega) (allP_encOutT _) ·) ?_
       refine dv (At.z 1 ·) ?_
       refine dv (AW.r ·) ?_
       refine dv (At.a 2 ·) ?_
       refine dv (At.sL 148 encOutT (ml ++ (beat e4)) ·) ?_
       refine dv (At.z 1 ·) ?_
       by_cases h11 : ((ml ++ (beat e4)).length : Int) > 30
       · refine dv (AW.condT (decide (((ml ++ (beat e4)).length : Int) > 30)) (by kernel_rfl) (decide_eq_true h11) ·) ?_
         refine dv (AW.g ·) ?_
         refine dv (At.a 1 ·) ?_
         refine dv (At.cutRef (t := 38) (d := 151) (e := 51) (es := 17) (i := 246) (x := .tmp 150) (lx := none) (hx := some (.const (.int .i64 30))) (xs := ((ml ++ (beat e4)).map encOutT)) (vl := .un) (vh := .int .i64 30) 251 30 (((ml ++ (beat e4)).take 30).map encOutT) (by kernel_rfl) (by kernel_rfl) (by kernel_rfl) (by kernel_rfl) (by kernel_rfl) (by kernel_rfl) (by decide) (.inl ⟨rfl, rfl⟩) (.inr ⟨_, _, rfl, rfl⟩) (by omega) (by rw [List.map_take]) ·) ?_
         refine dv (At.z 1 ·) ?_
         refine dv (AW.g ·) ?_
         refine dv (At.a 2 ·) ?_
         refine dv (At.sI 48 ((k : Int) + 1) (by omega) ·) ?_
         refine dv (At.z 1 ·) ?_
         exact dw (fun _ h_ => AWL.weak (Sub.o [(0, 0), (122, 122), (251, 139)] [true, false, false, false, false, false, true, true, false, false, false, true, true, true]) h_) (ih2 (k + 1, ns, ((ml ++ (beat e4)).take 30), r4_.1, r4_.2.1) (⟨by omega, by (try simp only [List.length_set]); omega, by exact hns, ⟨by (try simp only [List.length_append, List.length_take, List.length_drop, List.length_nil] at *); omega, by exact mail_take (mail_app hml hmo) _⟩, by omega⟩) (by simp only; omega))
       refine dv (AW.condF (decide (((ml ++ (beat e4)).length : Int) > 30)) (by kernel_rfl) (decide_eq_false h11) ·) ?_
       refine dv (AW.skip ·) ?_
       refine dv (AW.g ·) ?_
       refine dv (At.a 2 ·) ?_
       refine dv (At.sI 48 ((k : Int) + 1) (by omega) ·) ?_
       refine dv (At.z 1 ·) ?_
       exact dw (fun _ h_ => AWL.weak (Sub.o [(0, 0), (122, 122), (246, 139)] [true, false, false, false, false, false, true, true, false, false, false, true, true, true]) h_) (ih2 (k + 1, ns, (ml ++ (beat e4)), r4_.1, r4_.2.1) (⟨by omega, by (try simp only [List.length_set]); omega, by exact hns, ⟨by (try simp only [List.length_append, List.length_take, List.length_drop, List.length_nil] at *); omega, by exact mail_app hml hmo⟩, by omega⟩) (by simp only; omega))
     refine dv (AW.condF (r4_.2.2 == 3) (by kernel_rfl) (beq_eq_false_iff_ne.2 h10) ·) ?_
     refine dv (AW.r ·) ?_
     refine dv (At.a 2 ·) ?_
     refine dv (At.sL 56 encOutT ml ·) ?_
     refine dv (At.z 1 ·) ?_
     by_cases h12 : (ml.length : Int) > 0
     · refine dv (AW.condT (decide ((ml.length : Int) > 0)) (by kernel_rfl) (decide_eq_true h12) ·) ?_
       refine dv (AW.r ·) ?_
       refine dv (At.a 3 ·) ?_
       refine dv (At.sL 60 encOutT ml ·) ?_
       refine dv (At.c (spec_l1Min_spec  (ml.length : Int) 4 ) Tryz.call111 true [] [] [] trivial ·) ?_
       refine Exists.elim (spec_l1Below_spec  (⟨c.data, r4_.1, r4_.2.1⟩ : Cur) (min (ml.length : Int) 4) (by omega)) fun r5_ hr5_ => ?_
       have qr5_ := hr5_.1
       try dsimp only at qr5_
       refine dv (At.c (hr5_.2) Tryz.call143 true [(0, 0)] [] [] trivial ·) ?_
       refine dv (At.z 1 ·) ?_
       refine dv (AW.r ·) ?_
       refine dv (At.a 2 ·) ?_
       refine dv (At.iRf 38 65 (.tmp 63) (.tmp 64) 139 (ml.map encOutT) .i64 r5_.2.2 51 17 (by omega) (by omega) ·) ?_
       refine Exists.elim (gE ml ((r5_.2.2).toNat) (by omega)) fun e5 he5 => ?_
       have hxe5 := hml _ (List.mem_of_getElem? he5)
       refine dv (At.lEl 51 66 (.tmp 65) 139 51 17 (ml.map encOutT) ((r5_.2.2).toNat) 0 true 17 (encOutT e5) (.agg [.int .i64 e5.to, .int .i64 e5.msg.kind, .int .i64 e5.msg.from_, .int .i64 e5.msg.term, .int .i64 e5.msg.at_, .int .i64 e5.msg.atTerm, .int .i64 e5.msg.commit, .bool e5.msg.yes, .int .i64 e5.msg.release, .int .i64 e5.msg.part, .str e5.msg.bytes, .int .i64 e5.msg.cmd.kind, .int .i64 e5.msg.cmd.release, .int .i64 e5.msg.cmd.node, .int .i64 e5.msg.cmd.size, .str e5.msg.cmd.digest, .sl true 6 (e5.msg.entries.map encEnt)]) (mapGet he5) ·) ?_
       refine dv (At.z 2 ·) ?_
       refine dv (AW.seq ·) ?_
       refine dv (AW.gD Tryz_mix ·) ?_
       refine dv (At.lit0 (t := 38) (d := 67) (e := 51) (es := 17) (bytes := 168) 167 (by kernel_rfl) (by kernel_rfl) (by kernel_rfl) (by kernel_rfl) ·) ?_
       refine dv (At.a 2 ·) ?_
       refine dv (At.sliceRef (t := 38) (d := 70) (e := 51) (es := 17) (i := 139) (x := .tmp 68) (lx := none) (hx := some (.tmp 69)) (xs := (ml.map encOutT)) (vl := .un) (vh := .int .i64 r5_.2.2) 0 ((r5_.2.2).toNat) (by kernel_rfl) (by kernel_rfl) (by kernel_rfl) (by kernel_rfl) (by kernel_rfl) (.inl ⟨rfl, rfl⟩) (.inr ⟨_, _, rfl, sayNat (by omega)⟩) (by omega) (by omega) ·) ?_
       refine dv (At.append (t := 38) (d := 71) (e := 51) (es := 17) (bytes := 168) (s := .tmp 67) (x := .tmp 70) (S := .ref 167) (T := .sub 139 0 (((r5_.2.2).toNat) - 0)) (xs := []) (ys := (((ml.drop 0).take (((r5_.2.2).toNat) - 0)).map encOutT)) 171 [167] [] (((ml.drop 0).take (((r5_.2.2).toNat) - 0)).map encOutT) (by kernel_rfl) (by kernel_rfl) (by kernel_rfl) (by kernel_rfl) ⟨by kernel_rfl, rfl⟩ ⟨(ml.map encOutT), by kernel_rfl, by rw [List.length_map]; omega, (by simp [List.map_take, List.map_drop]), (allP_encOutT _), rfl⟩ (by kernel_rfl) (by kernel_rfl) (by simp) (by omega) (by omega) ·) ?_
       refine dv (At.a 3 ·) ?_
       refine dv (At.sI 74 (r5_.2.2 + 1) (by omega) ·) ?_
       refine dv (At.sliceRef (t := 38) (d := 75) (e := 51) (es := 17) (i := 139) (x := .tmp 72) (lx := some (.tmp 74)) (hx := none) (xs := (ml.map encOutT)) (vl := .int .i64 (r5_.2.2 + 1)) (vh := .un) ((r5_.2.2 + 1).toNat) ml.length (by kernel_rfl) (by kernel_rfl) (by kernel_rfl) (by kernel_rfl) (by kernel_rfl) (.inr ⟨_, _, rfl, sayNat (by omega)⟩) (.inl ⟨rfl, (List.length_map _).symm⟩) (by omega) (by omega) ·) ?_
       refine dv (At.append (t := 38) (d := 76) (e := 51) (es := 17) (bytes := 168) (s := .tmp 71) (x := .tmp 75) (S := .ref 171) (T := .sub 139 ((r5_.2.2 + 1).toNat) (ml.length - ((r5_.2.2 + 1).toNat))) (xs := (((ml.drop 0).take (((r5_.2.2).toNat) - 0)).map encOutT)) (ys := (((ml.drop ((r5_.2.2 + 1).toNat)).take (ml.length - ((r5_.2.2 + 1).toNat))).map encOutT)) 176 [171] [] ((((ml.drop 0).take (((r5_.2.2).toNat) - 0)) ++ ((ml.drop ((r5_.2.2 + 1).toNat)).take (ml.length - ((r5_.2.2 + 1).toNat)))).map encOutT) (by kernel_rfl) (by kernel_rfl) (by kernel_rfl) (by kernel_rfl) ⟨by kernel_rfl, rfl⟩ ⟨(ml.map encOutT), by kernel_rfl, by rw [List.length_map]; omega, (by simp [List.map_take, List.map_drop]), (allP_encOutT _), rfl⟩ (by kernel_rfl) (by kernel_rfl) (by simp) (by omega) (by omega) ·) ?_
       refine dv (At.zD 1 ·) ?_
       refine Exists.elim (gE ns ((e5.to).toNat) (by omega)) fun e6 he6 => ?_
       have hye6 := hns _ (List.mem_of_getElem? he6)
       have hnne6 := hye6.nums
       have hsme6 := hnne6.2.2.2.2.2
       have hoke6 := hye6.1
       refine dv (AW.weak (Sub.openL 122 ((e5.to).toNat) 29 10 (ns.map encRaft) (encRaft e6) [(6, 5013), (7, 5014), (8, 5015), (9, 5016)] (by kernel_rfl) (mapGet he6) (by kernel_rfl)) ·) ?_
       refine dv (AW.gD Tryz_mix ·) ?_
       refine dv (At.a 6 ·) ?_
       refine dv (At.idxH 142 84 (.tmp 81) (.tmp 83) 122 ((ns.map encRaft).set ((e5.to).toNat) (.agg [.int .i64 e6.id, .int .i64 e6.of_, .int .i64 e6.role, .int .i64 e6.commit, .int .i64 e6.hard.term, .int .i64 e6.hard.vote, .un, .un, .un, .un])) ((e5.to).toNat) [(9, 5016), (8, 5015), (7, 5014), (6, 5013)] .i64 (e5.to) 29 10 (by omega) (by rw [List.length_set, List.length_map]; omega) ·) ?_
       refine dv (At.ldH 29 85 (.tmp 84) 122 29 10 ((ns.map encRaft).set ((e5.to).toNat) (.agg [.int .i64 e6.id, .int .i64 e6.of_, .int .i64 e6.role, .int .i64 e6.commit, .int .i64 e6.hard.term, .int .i64 e6.hard.vote, .un, .un, .un, .un])) ((e5.to).toNat) [(9, 5016), (8, 5015), (7, 5014), (6, 5013)] 0 true 10 (.agg [.int .i64 e6.id, .int .i64 e6.of_, .int .i64 e6.role, .int .i64 e6.commit, .int .i64 e6.hard.term, .int .i64 e6.hard.vote, .un, .un, .un, .un]) (.agg [.int .i64 e6.id, .int .i64 e6.of_, .int .i64 e6.role, .int .i64 e6.commit, .int .i64 e6.hard.term, .int .i64 e6.hard.vote, .ref 5013, .ref 5014, .ref 5015, .ref 5016]) (setGet (mapGet he6)) ·) ?_
       refine dv (At.a 2 ·) ?_
       refine dv (At.c (FnSpec.cv (As := [.agg [.int .i64 e6.id, .int .i64 e6.of_, .int .i64 e6.role, .int .i64 e6.commit, .int .i64 e6.hard.term, .int .i64 e6.hard.vote, .sl false 6 (e6.hard.log.map encEnt), .sl false 1 (e6.yes.map encI), .sl false 1 (e6.next.map encI), .sl false 1 (e6.match_.map encI)], .agg [.int .i64 e5.msg.kind, .int .i64 e5.msg.from_, .int .i64 e5.msg.term, .int .i64 e5.msg.at_, .int .i64 e5.msg.atTerm, .int .i64 e5.msg.commit, .bool e5.msg.yes, .int .i64 e5.msg.release, .int .i64 e5.msg.part, .str e5.msg.bytes, .int .i64 e5.msg.cmd.kind, .int .i64 e5.msg.cmd.release, .int .i64 e5.msg.cmd.node, .int .i64 e5.msg.cmd.size, .str e5.msg.cmd.digest, .sl true 6 (e5.msg.entries.map encEnt)]]) [0, 7] (spec_l10On_spec  e6 e5.msg (by assumption) (by omega) (by assumption))) Tryz.call169 false [] [(2760, 0), (2761, 1), (2762, 2), (2763, 3), (2764, 4), (2765, 5)] [(5013, 6, (e6.hard.log.map encEnt)), (5014, 1, (e6.yes.map encI)), (5015, 1, (e6.next.map encI)), (5016, 1, (e6.match_.map encI))] ⟨rfl, ⟨45, (e6.hard.log.map encEnt), by kernel_rfl, FrzIs.same (allP_encEnt _)⟩, rfl, ⟨3, (e6.yes.map encI), by kernel_rfl, FrzIs.same (allP_encI _)⟩, rfl, ⟨3, (e6.next.map encI), by kernel_rfl, FrzIs.same (allP_encI _)⟩, rfl, ⟨3, (e6.match_.map encI), by kernel_rfl, FrzIs.same (allP_encI _)⟩, trivial⟩ ·) ?_
       have hou := on_in e5.msg hye6
       have hnd := hou.1
       have hle := hou.2.1
       have hmo : MailIn r1_.2.2 _ := hou.2.2
       refine dv (At.a 4 ·) ?_
       refine dv (At.idxH 142 92 (.tmp 78) (.tmp 80) 122 ((ns.map encRaft).set ((e5.to).toNat) (.agg [.int .i64 e6.id, .int .i64 e6.of_, .int .i64 e6.role, .int .i64 e6.commit, .int .i64 e6.hard.term, .int .i64 e6.hard.vote, .un, .un, .un, .un])) ((e5.to).toNat) [(9, 5016), (8, 5015), (7, 5014), (6, 5013)] .i64 (e5.to) 29 10 (by omega) (by rw [List.length_set, List.length_map]; omega) ·) ?_
       refine dv (At.stH 29 122 29 10 ((e5.to).toNat) (.tmp 92) (.tmp 89) ((ns.map encRaft).set ((e5.to).toNat) (.agg [.int .i64 e6.id, .int .i64 e6.of_, .int .i64 e6.role, .int .i64 e6.commit, .int .i64 e6.hard.term, .int .i64 e6.hard.vote, .un, .un, .un, .un])) [.int .i64 (((onR e6 e5.msg).1).id), .int .i64 (((onR e6 e5.msg).1).of_), .int .i64 (((onR e6 e5.msg).1).role), .int .i64 (((onR e6 e5.msg).1).commit), .int .i64 (((onR e6 e5.msg).1).hard.term), .int .i64 (((onR e6 e5.msg).1).hard.vote), .ref 2760, .ref 2761, .ref 2762, .ref 2763] [.int .i64 e6.id, .int .i64 e6.of_, .int .i64 e6.role, .int .i64 e6.commit, .int .i64 e6.hard.term, .int .i64 e6.hard.vote, .un, .un, .un, .un] [(9, 5016), (8, 5015), (7, 5014), (6, 5013)] (setGet (mapGet he6)) ·) ?_
       refine dv (At.zD 1 ·) ?_
       refine dv (AW.seq ·) ?_
       refine dv (AW.weak (Sub.closeL 122 ((e5.to).toNat) 29 10 (((ns.map encRaft).set ((e5.to).toNat) (.agg [.int .i64 e6.id, .int .i64 e6.of_, .int .i64 e6.role, .int .i64 e6.commit, .int .i64 e6.hard.term, .int .i64 e6.hard.vote, .un, .un, .un, .un])).set ((e5.to).toNat) (.agg [.int .i64 (((onR e6 e5.msg).1).id), .int .i64 (((onR e6 e5.msg).1).of_), .int .i64 (((onR e6 e5.msg).1).role), .int .i64 (((onR e6 e5.msg).1).commit), .int .i64 (((onR e6 e5.msg).1).hard.term), .int .i64 (((onR e6 e5.msg).1).hard.vote), .un, .un, .un, .un])) ((ns.set ((e5.to).toNat) ((onR e6 e5.msg).1)).map encRaft) [(6, 2760), (7, 2761), (8, 2762), (9, 2763)] (.agg [.int .i64 (((onR e6 e5.msg).1).id), .int .i64 (((onR e6 e5.msg).1).of_), .int .i64 (((onR e6 e5.msg).1).role), .int .i64 (((onR e6 e5.msg).1).commit), .int .i64 (((onR e6 e5.msg).1).hard.term), .int .i64 (((onR e6 e5.msg).1).hard.vote), .un, .un, .un, .un]) (encRaft ((onR e6 e5.msg).1)) [(45, 6, ((((onR e6 e5.msg).1).hard.log).map encEnt)), (3, 1, ((((onR e6 e5.msg).1).yes).map encI)), (3, 1, ((((onR e6 e5.msg).1).next).map encI)), (3, 1, ((((onR e6 e5.msg).1).match_).map encI))] (by kernel_rfl) (setGet (setGet (mapGet he6))) (by kernel_rfl) (by kernel_rfl) (by intro p hp; simp only [List.mem_cons, List.not_mem_nil, or_false] at hp; rcases hp with rfl | rfl | rfl | rfl; all_goals first | exact flatEnts | exact flatInts | (intro x hx; cases hx)) (by kernel_rfl) (by kernel_rfl) (by rw [List.set_set, List.set_set]; exact setV.symm)) ·) ?_
       refine dv (AW.weak (Sub.frzIn 2765 51 17 (((onR e6 e5.msg).2.2).map encOut) (((onR e6 e5.msg).2.2).map encOutT) (by kernel_rfl) (frzOutT _)) ·) ?_
       refine dv (AW.g ·) ?_
       refine dv (At.a 2 ·) ?_
       refine dv (At.apC 146 51 17 168 246 176 2765 encOutT (((ml.drop 0).take (((r5_.2.2).toNat) - 0)) ++ ((ml.drop ((r5_.2.2 + 1).toNat)).take (ml.length - ((r5_.2.2 + 1).toNat)))) ((onR e6 e5.msg).2.2) (by omega) (allP_encOutT _) ·) ?_
       refine dv (At.z 1 ·) ?_
       refine dv (AW.r ·) ?_
       refine dv (At.a 2 ·) ?_
       refine dv (At.sL 148 encOutT ((((ml.drop 0).take (((r5_.2.2).toNat) - 0)) ++ ((ml.drop ((r5_.2.2 + 1).toNat)).take (ml.length - ((r5_.2.2 + 1).toNat)))) ++ ((onR e6 e5.msg).2.2)) ·) ?_
       refine dv (At.z 1 ·) ?_
       by_cases h13 : (((((ml.drop 0).take (((r5_.2.2).toNat) - 0)) ++ ((ml.drop ((r5_.2.2 + 1).toNat)).take (ml.length - ((r5_.2.2 + 1).toNat)))) ++ ((onR e6 e5.msg).2.2)).length : Int) > 30
       · refine dv (AW.condT (decide ((((((ml.drop 0).take (((r5_.2.2).toNat) - 0)) ++ ((ml.drop ((r5_.2.2 + 1).toNat)).take (ml.length - ((r5_.2.2 + 1).toNat)))) ++ ((onR e6 e5.msg).2.2)).length : Int) > 30)) (by kernel_rfl) (decide_eq_true h13) ·) ?_
         refine dv (AW.g ·) ?_
         refine dv (At.a 1 ·) ?_
         refine dv (At.cutRef (t := 38) (d := 151) (e := 51) (es := 17) (i := 246) (x := .tmp 150) (lx := none) (hx := some (.const (.int .i64 30))) (xs := (((((ml.drop 0).take (((r5_.2.2).toNat) - 0)) ++ ((ml.drop ((r5_.2.2 + 1).toNat)).take (ml.length - ((r5_.2.2 + 1).toNat)))) ++ ((onR e6 e5.msg).2.2)).map encOutT)) (vl := .un) (vh := .int .i64 30) 251 30 ((((((ml.drop 0).take (((r5_.2.2).toNat) - 0)) ++ ((ml.drop ((r5_.2.2 + 1).toNat)).take (ml.length - ((r5_.2.2 + 1).toNat)))) ++ ((onR e6 e5.msg).2.2)).take 30).map encOutT) (by kernel_rfl) (by kernel_rfl) (by kernel_rfl) (by kernel_rfl) (by kernel_rfl) (by kernel_rfl) (by decide) (.inl ⟨rfl, rfl⟩) (.inr ⟨_, _, rfl, rfl⟩) (by omega) (by rw [List.map_take]) ·) ?_
         refine dv (At.z 1 ·) ?_
         refine dv (AW.g ·) ?_
         refine dv (At.a 2 ·) ?_
         refine dv (At.sI 48 ((k : Int) + 1) (by omega) ·) ?_
         refine dv (At.z 1 ·) ?_
         exact dw (fun _ h_ => AWL.weak (Sub.o [(0, 0), (122, 122), (251, 139)] [true, false, false, false, false, false, true, true, false, false, false, true, true, true]) h_) (ih2 (k + 1, (ns.set ((e5.to).toNat) ((onR e6 e5.msg).1)), (((((ml.drop 0).take (((r5_.2.2).toNat) - 0)) ++ ((ml.drop ((r5_.2.2 + 1).toNat)).take (ml.length - ((r5_.2.2 + 1).toNat)))) ++ ((onR e6 e5.msg).2.2)).take 30), r5_.1, r5_.2.1) (⟨by omega, by (try simp only [List.length_set]); omega, by exact NodesIn.set hns _ hnd, ⟨by (try simp only [List.length_append, List.length_take, List.length_drop, List.length_nil] at *); omega, by exact mail_take (mail_app (mail_cut hml _ _ _) hmo) _⟩, by omega⟩) (by simp only; omega))
       refine dv (AW.condF (decide ((((((ml.drop 0).take (((r5_.2.2).toNat) - 0)) ++ ((ml.drop ((r5_.2.2 + 1).toNat)).take (ml.length - ((r5_.2.2 + 1).toNat)))) ++ ((onR e6 e5.msg).2.2)).length : Int) > 30)) (by kernel_rfl) (decide_eq_false h13) ·) ?_
       refine dv (AW.skip ·) ?_
       refine dv (AW.g ·) ?_
       refine dv (At.a 2 ·) ?_
       refine dv (At.sI 48 ((k : Int) + 1) (by omega) ·) ?_
       refine dv (At.z 1 ·) ?_
       exact dw (fun _ h_ => AWL.weak (Sub.o [(0, 0), (122, 122), (246, 139)] [true, false, false, false, false, false, true, true, false, false, false, true, true, true]) h_) (ih2 (k + 1, (ns.set ((e5.to).toNat) ((onR e6 e5.msg).1)), ((((ml.drop 0).take (((r5_.2.2).toNat) - 0)) ++ ((ml.drop ((r5_.2.2 + 1).toNat)).take (ml.length - ((r5_.2.2 + 1).toNat)))) ++ ((onR e6 e5.msg).2.2)), r5_.1, r5_.2.1) (⟨by omega, by (try simp only [List.length_set]); omega, by exact NodesIn.set hns _ hnd, ⟨by (try simp only [List.length_append, List.length_take, List.length_drop, List.length_nil] at *); omega, by exact mail_app (mail_cut hml _ _ _) hmo⟩, by omega⟩) (by simp only; omega))
     refine dv (AW.condF (decide ((ml.length : Int) > 0)) (by kernel_rfl) (decide_eq_false h12) ·) ?_
     refine dv (AW.skip ·) ?_
     refine dv (AW.r ·) ?_
     refine dv (At.a 2 ·) ?_
     refine dv (At.append (t := 38) (d := 146) (e := 51) (es := 17) (bytes := 168) (s := .tmp 144) (x := .tmp 145) (S := .ref 139) (T := .ref 152) (xs := (ml.map encOutT)) (ys := []) 246 [139] [] (ml.map encOutT) (by kernel_rfl) (by kernel_rfl) (by kernel_rfl) (by kernel_rfl) ⟨by kernel_rfl, rfl⟩ ⟨by kernel_rfl, .inl ⟨rfl, (fun _ h => by cases h)⟩⟩ (by kernel_rfl) (by kernel_rfl) (by simp) (by omega) (by omega) ·) ?_
     refine dv (At.z 1 ·) ?_
     refine dv (AW.r ·) ?_
     refine dv (At.a 2 ·) ?_
     refine dv (At.sL 148 encOutT ml ·) ?_
     refine dv (At.z 1 ·) ?_
     by_cases h14 : (ml.length : Int) > 30
     · refine dv (AW.condT (decide ((ml.length : Int) > 30)) (by kernel_rfl) (decide_eq_true h14) ·) ?_
       refine dv (AW.g ·) ?_
       refine dv (At.a 1 ·) ?_
       refine dv (At.cutRef (t := 38) (d := 151) (e := 51) (es := 17) (i := 246) (x := .tmp 150) (lx := none) (hx := some (.const (.int .i64 30))) (xs := (ml.map encOutT)) (vl := .un) (vh := .int .i64 30) 251 30 ((ml.take 30).map encOutT) (by kernel_rfl) (by kernel_rfl) (by kernel_rfl) (by kernel_rfl) (by kernel_rfl) (by kernel_rfl) (by decide) (.inl ⟨rfl, rfl⟩) (.inr ⟨_, _, rfl, rfl⟩) (by omega) (by rw [List.map_take]) ·) ?_
       refine dv (At.z 1 ·) ?_
       refine dv (AW.g ·) ?_
       refine dv (At.a 2 ·) ?_
       refine dv (At.sI 48 ((k : Int) + 1) (by omega) ·) ?_
       refine dv (At.z 1 ·) ?_
       exact dw (fun _ h_ => AWL.weak (Sub.o [(0, 0), (122, 122), (251, 139)] [true, false, false, false, false, false, true, true, false, false, false, true, true, true]) h_) (ih2 (k + 1, ns, (ml.take 30), r4_.1, r4_.2.1) (⟨by omega, by (try simp only [List.length_set]); omega, by exact hns, ⟨by (try simp only [List.length_append, List.length_take, List.length_drop, List.length_nil] at *); omega, by exact mail_take hml _⟩, by omega⟩) (by simp only; omega))
     refine dv (AW.condF (decide ((ml.length : Int) > 30)) (by kernel_rfl) (decide_eq_false h14) ·) ?_
     refine dv (AW.skip ·) ?_
     refine dv (AW.g ·) ?_
     refine dv (At.a 2 ·) ?_
     refine dv (At.sI 48 ((k : Int) + 1) (by omega) ·) ?_
     refine dv (At.z 1 ·) ?_
     exact dw (fun _ h_ => AWL.weak (Sub.o [(0, 0), (122, 122), (246, 139)] [true, false, false, false, false, false, true, true, false, false, false, true, true, true]) h_) (ih2 (k + 1, ns, ml, r4_.1, r4_.2.1) (⟨by omega, by (try simp only [List.length_set]); omega, by exact hns, ⟨by (try simp only [List.length_append, List.length_take, List.length_drop, List.length_nil] at *); omega, by exact hml⟩, by omega⟩) (by simp only; omega))
   refine dv (AW.condF (r4_.2.2 == 1) (by kernel_rfl) (beq_eq_false_iff_ne.2 h5) ·) ?_
   refine dv (AW.gq 2 ·) ?_
   by_cases h15 : r4_.2.2 = 2
   · refine dv (AW.condT (r4_.2.2 == 2) (by kernel_rfl) (beq_iff_eq.2 h15) ·) ?_
     refine dv (AW.seq ·) ?_
     refine dv (AW.q 1 ·) ?_
     refine dv (AW.block ·) ?_
     refine DW.loopQ (fun (x : Nat × Int) => match x with | (j, i) => Go.Sy.mk [.ptr 0 0 0, .un, .un, .un, .un, .un, .int .i64 r1_.2.2, .ref 122, .un, .un, .un, .ref 139, .int .i64 r2_.2.2, .int .i64 (k : Int), .int .i64 i, .un, .int .i64 (j : Int)] [(0, .box 141 [.sl false 1 (c.data.map encU8), .int .i64 r4_.1, .int .i64 r4_.2.1]), (122, .arr 29 10 (ns.map encRaft)), (139, .arr 51 17 (ml.map encOutT))]) (fun (x : Nat × Int) => match x with | (j, i) => (j : Int) ≤ r1_.2.2 ∧ 0 ≤ i ∧ i < r1_.2.2) (fun (x : Nat × Int) => match x with | (j, i) => (r1_.2.2).toNat - j) (0, r3_.2.2) (by simp only; omega) (Sub.o [(0, 0), (122, 122), (139, 139)] [true, false, false, false, false, false, true, true, false, false, false, true, true, true, true, false, true]) ?_
     rintro ⟨j, i⟩ hj ih4
     refine dv (AW.seq ·) ?_
     refine dv (AW.q 3 ·) ?_
     by_cases h16 : (j : Int) < r1_.2.2
     · refine dv (AW.condT (decide ((j : Int) < r1_.2.2)) (by kernel_rfl) (decide_eq_true h16) ·) ?_
       refine dv (AW.skip ·) ?_
       refine dv (AW.seq ·) ?_
       refine dv (AW.block ·) ?_
       refine dv (AW.r ·) ?_
       refine dv (At.a 2 ·) ?_
       refine dv (At.iRf 142 117 (.tmp 115) (.tmp 116) 122 (ns.map encRaft) .i64 (j : Int) 29 10 (by omega) (by simp only [List.length_map]; omega) ·) ?_
       refine dv (At.a 1 ·) ?_
       refine Exists.elim (gE ns j (by omega)) fun e7 he7 => ?_
       have hye7 := hns _ (List.mem_of_getElem? he7)
       have hnne7 := hye7.nums
       have hsme7 := hnne7.2.2.2.2.2
       have hoke7 := hye7.1
       refine dv (At.ldP 3 119 (.tmp 118) 122 29 10 (ns.map encRaft) j 2 false 1 (encRaft e7) (.int .i64 e7.role) (mapGet he7) ·) ?_
       refine dv (At.z 1 ·) ?_
       by_cases h17 : e7.role = 3
       · refine dv (AW.condT (e7.role == 3) (by kernel_rfl) (beq_iff_eq.2 h17) ·) ?_
         refine dv (AW.gq 2 ·) ?_
         refine dv (AW.g ·) ?_
         refine dv (At.a 2 ·) ?_
         refine dv (At.sI 114 ((j : Int) + 1) (by omega) ·) ?_
         refine dv (At.z 1 ·) ?_
         exact dw (fun _ h_ => AWL.weak (Sub.o [(0, 0), (122, 122), (139, 139)] [true, false, false, false, false, false, true, true, false, false, false, true, true, true, true, false, true]) h_) (ih4 (j + 1, (j : Int)) (by simp only; omega) (by simp only; omega))
       refine dv (AW.condF (e7.role == 3) (by kernel_rfl) (beq_eq_false_iff_ne.2 h17) ·) ?_
       refine dv (AW.skip ·) ?_
       refine dv (AW.g ·) ?_
       refine dv (At.a 2 ·) ?_
       refine dv (At.sI 114 ((j : Int) + 1) (by omega) ·) ?_
       refine dv (At.z 1 ·) ?_
       exact dw (fun _ h_ => AWL.weak (Sub.o [(0, 0), (122, 122), (139, 139)] [true, false, false, false, false, false, true, true, false, false, false, true, true, true, true, false, true]) h_) (ih4 (j + 1, i) (by simp only; omega) (by simp only; omega))
     refine dv (AW.condF (decide ((j : Int) < r1_.2.2)) (by kernel_rfl) (decide_eq_false h16) ·) ?_
     refine dv (AW.exit ·) ?_
     refine Exists.elim (gE ns ((i).toNat) (by omega)) fun e8 he8 => ?_
     have hye8 := hns _ (List.mem_of_getElem? he8)
     have hnne8 := hye8.nums
     have hsme8 := hnne8.2.2.2.2.2
     have hoke8 := hye8.1
     refine dv (AW.weak (Sub.openL 122 ((i).toNat) 29 10 (ns.map encRaft) (encRaft e8) [(6, 5017), (7, 5018), (8, 5019), (9, 5020)] (by kernel_rfl) (mapGet he8) (by kernel_rfl)) ·) ?_
     refine dv (AW.gD Tryz_mix ·) ?_
     refine dv (At.a 4 ·) ?_
     refine dv (At.idxH 142 127 (.tmp 125) (.tmp 126) 122 ((ns.map encRaft).set ((i).toNat) (.agg [.int .i64 e8.id, .int .i64 e8.of_, .int .i64 e8.role, .int .i64 e8.commit, .int .i64 e8.hard.term, .int .i64 e8.hard.vote, .un, .un, .un, .un])) ((i).toNat) [(9, 5020), (8, 5019), (7, 5018), (6, 5017)] .i64 (i) 29 10 (by omega) (by rw [List.length_set, List.length_map]; omega) ·) ?_
     refine dv (At.ldH 29 128 (.tmp 127) 122 29 10 ((ns.map encRaft).set ((i).toNat) (.agg [.int .i64 e8.id, .int .i64 e8.of_, .int .i64 e8.role, .int .i64 e8.commit, .int .i64 e8.hard.term, .int .i64 e8.hard.vote, .un, .un, .un, .un])) ((i).toNat) [(9, 5020), (8, 5019), (7, 5018), (6, 5017)] 0 true 10 (.agg [.int .i64 e8.id, .int .i64 e8.of_, .int .i64 e8.role, .int .i64 e8.commit, .int .i64 e8.hard.term, .int .i64 e8.hard.vote, .un, .un, .un, .un]) (.agg [.int .i64 e8.id, .int .i64 e8.of_, .int .i64 e8.role, .int .i64 e8.commit, .int .i64 e8.hard.term, .int .i64 e8.hard.vote, .ref 5017, .ref 5018, .ref 5019, .ref 5020]) (setGet (mapGet he8)) ·) ?_
     refine dv (At.a 1 ·) ?_
     refine Exists.elim (spec_l5DrawRight_spec  (⟨c.data, r4_.1, r4_.2.1⟩ : Cur) (by dsimp only; omega)) fun r5_ hr5_ => ?_
     have qr5_ := hr5_.1
     try dsimp only at qr5_
     refine dv (At.c (hr5_.2) Tryz.call61 true [(0, 0)] [] [] trivial ·) ?_
     refine dv (At.c (spec_RaftPropose_spec  e8 r5_.2.2 (by assumption)) Tryz.call33 false [] [(3620, 0), (3621, 1), (3622, 2), (3623, 3), (3624, 4), (3625, 5)] [(5017, 6, (e8.hard.log.map encEnt)), (5018, 1, (e8.yes.map encI)), (5019, 1, (e8.next.map encI)), (5020, 1, (e8.match_.map encI))] ⟨rfl, ⟨45, (e8.hard.log.map encEnt), by kernel_rfl, FrzIs.same (allP_encEnt _)⟩, rfl, ⟨3, (e8.yes.map encI), by kernel_rfl, FrzIs.same (allP_encI _)⟩, rfl, ⟨3, (e8.next.map encI), by kernel_rfl, FrzIs.same (allP_encI _)⟩, rfl, ⟨3, (e8.match_.map encI), by kernel_rfl, FrzIs.same (allP_encI _)⟩, trivial⟩ ·) ?_
     have hou := prop_in r5_.2.2 hye8
     have hnd := hou.1
     have hle := hou.2.1
     have hmo : MailIn r1_.2.2 _ := hou.2.2
     refine dv (At.a 5 ·) ?_
     refine dv (At.idxH 142 136 (.tmp 123) (.tmp 124) 122 ((ns.map encRaft).set ((i).toNat) (.agg [.int .i64 e8.id, .int .i64 e8.of_, .int .i64 e8.role, .int .i64 e8.commit, .int .i64 e8.hard.term, .int .i64 e8.hard.vote, .un, .un, .un, .un])) ((i).toNat) [(9, 5020), (8, 5019), (7, 5018), (6, 5017)] .i64 (i) 29 10 (by omega) (by rw [List.length_set, List.length_map]; omega) ·) ?_
     refine dv (At.stH 29 122 29 10 ((i).toNat) (.tmp 136) (.tmp 132) ((ns.map encRaft).set ((i).toNat) (.agg [.int .i64 e8.id, .int .i64 e8.of_, .int .i64 e8.role, .int .i64 e8.commit, .int .i64 e8.hard.term, .int .i64 e8.hard.vote, .un, .un, .un, .un])) [.int .i64 ((propR e8 r5_.2.2).id), .int .i64 ((propR e8 r5_.2.2).of_), .int .i64 ((propR e8 r5_.2.2).role), .int .i64 ((propR e8 r5_.2.2).commit), .int .i64 ((propR e8 r5_.2.2).hard.term), .int .i64 ((propR e8 r5_.2.2).hard.vote), .ref 3620, .ref 3621, .ref 3622, .ref 3623] [.int .i64 e8.id, .int .i64 e8.of_, .int .i64 e8.role, .int .i64 e8.commit, .int .i64 e8.hard.term, .int .i64 e8.hard.vote, .un, .un, .un, .un] [(9, 5020), (8, 5019), (7, 5018), (6, 5017)] (setGet (mapGet he8)) ·) ?_
     refine dv (At.zD 1 ·) ?_
     refine dv (AW.seq ·) ?_
     refine dv (AW.weak (Sub.closeL 122 ((i).toNat) 29 10 (((ns.map encRaft).set ((i).toNat) (.agg [.int .i64 e8.id, .int .i64 e8.of_, .int .i64 e8.role, .int .i64 e8.commit, .int .i64 e8.hard.term, .int .i64 e8.hard.vote, .un, .un, .un, .un])).set ((i).toNat) (.agg [.int .i64 ((propR e8 r5_.2.2).id), .int .i64 ((propR e8 r5_.2.2).of_), .int .i64 ((propR e8 r5_.2.2).role), .int .i64 ((propR e8 r5_.2.2).commit), .int .i64 ((propR e8 r5_.2.2).hard.term), .int .i64 ((propR e8 r5_.2.2).hard.vote), .un, .un, .un, .un])) ((ns.set ((i).toNat) (propR e8 r5_.2.2)).map encRaft) [(6, 3620), (7, 3621), (8, 3622), (9, 3623)] (.agg [.int .i64 ((propR e8 r5_.2.2).id), .int .i64 ((propR e8 r5_.2.2).of_), .int .i64 ((propR e8 r5_.2.2).role), .int .i64 ((propR e8 r5_.2.2).commit), .int .i64 ((propR e8 r5_.2.2).hard.term), .int .i64 ((propR e8 r5_.2.2).hard.vote), .un, .un, .un, .un]) (encRaft (propR e8 r5_.2.2)) [(45, 6, (((propR e8 r5_.2.2).hard.log).map encEnt)), (3, 1, (((propR e8 r5_.2.2).yes).map encI)), (3, 1, (((propR e8 r5_.2.2).next).map encI)), (3, 1, (((propR e8 r5_.2.2).match_).map encI))] (by kernel_rfl) (setGet (setGet (mapGet he8))) (by kernel_rfl) (by kernel_rfl) (by intro p hp; simp only [List.mem_cons, List.not_mem_nil, or_false] at hp; rcases hp with rfl | rfl | rfl | rfl; all_goals first | exact flatEnts | exact flatInts | (intro x hx; cases hx)) (by kernel_rfl) (by kernel_rfl) (by rw [List.set_set, List.set_set]; exact setV.symm)) ·) ?_
     refine dv (AW.weak (Sub.frzIn 3625 51 17 ((propOuts e8 r5_.2.2).map encOut) ((propOuts e8 r5_.2.2).map encOutT) (by kernel_rfl) (frzOutT _)) ·) ?_
     refine dv (AW.g ·) ?_
     refine dv (At.a 2 ·) ?_
     refine dv (At.apC 146 51 17 168 246 139 3625 encOutT ml (propOuts e8 r5_.2.2) (by omega) (allP_encOutT _) ·) ?_
     refine dv (At.z 1 ·) ?_
     refine dv (AW.r ·) ?_
     refine dv (At.a 2 ·) ?_
     refine dv (At.sL 148 encOutT (ml ++ (propOuts e8 r5_.2.2)) ·) ?_
     refine dv (At.z 1 ·) ?_
     by_cases h18 : ((ml ++ (propOuts e8 r5_.2.2)).length : Int) > 30
     · refine dv (AW.condT (decide (((ml ++ (propOuts e8 r5_.2.2)).length : Int) > 30)) (by kernel_rfl) (decide_eq_true h18) ·) ?_
       refine dv (AW.g ·) ?_
       refine dv (At.a 1 ·) ?_
       refine dv (At.cutRef (t := 38) (d := 151) (e := 51) (es := 17) (i := 246) (x := .tmp 150) (lx := none) (hx := some (.const (.int .i64 30))) (xs := ((ml ++ (propOuts e8 r5_.2.2)).map encOutT)) (vl := .un) (vh := .int .i64 30) 251 30 (((ml ++ (propOuts e8 r5_.2.2)).take 30).map encOutT) (by kernel_rfl) (by kernel_rfl) (by kernel_rfl) (by kernel_rfl) (by kernel_rfl) (by kernel_rfl) (by decide) (.inl ⟨rfl, rfl⟩) (.inr ⟨_, _, rfl, rfl⟩) (by simp only [List.length_map]; omega) (by rw [List.map_take]) ·) ?_
       refine dv (At.z 1 ·) ?_
       refine dv (AW.g ·) ?_
       refine dv (At.a 2 ·) ?_
       refine dv (At.sI 48 ((k : Int) + 1) (by omega) ·) ?_
       refine dv (At.z 1 ·) ?_
       exact dw (fun _ h_ => AWL.weak (Sub.o [(0, 0), (122, 122), (251, 139)] [true, false, false, false, false, false, true, true, false, false, false, true, true, true]) h_) (ih2 (k + 1, (ns.set ((i).toNat) (propR e8 r5_.2.2)), ((ml ++ (propOuts e8 r5_.2.2)).take 30), r5_.1, r5_.2.1) (⟨by omega, by (try simp only [List.length_set]); omega, by exact NodesIn.set hns _ hnd, ⟨by (try simp only [List.length_append, List.length_take, List.length_drop, List.length_nil] at *); omega, by exact mail_take (mail_app hml hmo) _⟩, by omega⟩) (by simp only; omega))
     refine dv (AW.condF (decide (((ml ++ (propOuts e8 r5_.2.2)).length : Int) > 30)) (by kernel_rfl) (decide_eq_false h18) ·) ?_
     refine dv (AW.skip ·) ?_
     refine dv (AW.g ·) ?_
     refine dv (At.a 2 ·) ?_
     refine dv (At.sI 48 ((k : Int) + 1) (by omega) ·) ?_
     refine dv (At.z 1 ·) ?_
     exact dw (fun _ h_ => AWL.weak (Sub.o [(0, 0), (122, 122), (246, 139)] [true, false, false, false, false, false, true, true, false, false, false, true, true, true]) h_) (ih2 (k + 1, (ns.set ((i).toNat) (propR e8 r5_.2.2)), (ml ++ (propOuts e8 r5_.2.2)), r5_.1, r5_.2.1) (⟨by omega, by (try simp only [List.length_set]); omega, by exact NodesIn.set hns _ hnd, ⟨by (try simp only [List.length_append, List.length_take, List.length_drop, List.length_nil] at *); omega, by exact mail_app hml hmo⟩, by omega⟩) (by simp only; omega))
   refine dv (AW.condF (r4_.2.2 == 2) (by kernel_rfl) (beq_eq_false_iff_ne.2 h15) ·) ?_
   refine dv (AW.q 2 ·) ?_
   by_cases h19 : r4_.2.2 = 3
   · refine dv (AW.condT (r4_.2.2 == 3) (by kernel_rfl) (beq_iff_eq.2 h19) ·) ?_
     refine Exists.elim (gE ns ((r3_.2.2).toNat) (by omega)) fun e9 he9 => ?_
     have hye9 := hns _ (List.mem_of_getElem? he9)
     have hnne9 := hye9.nums
     have hsme9 := hnne9.2.2.2.2.2
     have hoke9 := hye9.1
     refine dv (AW.weak (Sub.openL 122 ((r3_.2.2).toNat) 29 10 (ns.map encRaft) (encRaft e9) [(6, 5021), (7, 5022), (8, 5023), (9, 5024)] (by kernel_rfl) (mapGet he9) (by kernel_rfl)) ·) ?_
     refine dv (AW.g ·) ?_
     refine dv (At.a 2 ·) ?_
     refine dv (At.idxH 142 141 (.tmp 139) (.tmp 140) 122 ((ns.map encRaft).set ((r3_.2.2).toNat) (.agg [.int .i64 e9.id, .int .i64 e9.of_, .int .i64 e9.role, .int .i64 e9.commit, .int .i64 e9.hard.term, .int .i64 e9.hard.vote, .un, .un, .un, .un])) ((r3_.2.2).toNat) [(9, 5024), (8, 5023), (7, 5022), (6, 5021)] .i64 (r3_.2.2) 29 10 (by omega) (by rw [List.length_set, List.length_map]; omega) ·) ?_
     refine dv (At.ldH 29 142 (.tmp 141) 122 29 10 ((ns.map encRaft).set ((r3_.2.2).toNat) (.agg [.int .i64 e9.id, .int .i64 e9.of_, .int .i64 e9.role, .int .i64 e9.commit, .int .i64 e9.hard.term, .int .i64 e9.hard.vote, .un, .un, .un, .un])) ((r3_.2.2).toNat) [(9, 5024), (8, 5023), (7, 5022), (6, 5021)] 0 true 10 (.agg [.int .i64 e9.id, .int .i64 e9.of_, .int .i64 e9.role, .int .i64 e9.commit, .int .i64 e9.hard.term, .int .i64 e9.hard.vote, .un, .un, .un, .un]) (.agg [.int .i64 e9.id, .int .i64 e9.of_, .int .i64 e9.role, .int .i64 e9.commit, .int .i64 e9.hard.term, .int .i64 e9.hard.vote, .ref 5021, .ref 5022, .ref 5023, .ref 5024]) (setGet (mapGet he9)) ·) ?_
     refine dv (At.c (spec_RaftBeat_spec  e9 (by assumption)) Tryz.call25 false [] [(3860, 0)] [(5021, 6, (e9.hard.log.map encEnt)), (5022, 1, (e9.yes.map encI)), (5023, 1, (e9.next.map encI)), (5024, 1, (e9.match_.map encI))] ⟨rfl, ⟨45, (e9.hard.log.map encEnt), by kernel_rfl, FrzIs.same (allP_encEnt _)⟩, rfl, ⟨3, (e9.yes.map encI), by kernel_rfl, FrzIs.same (allP_encI _)⟩, rfl, ⟨3, (e9.next.map encI), by kernel_rfl, FrzIs.same (allP_encI _)⟩, rfl, ⟨3, (e9.match_.map encI), by kernel_rfl, FrzIs.same (allP_encI _)⟩, trivial⟩ ·) ?_
     have hou := beat_in hye9
     have hle := hou.1
     have hmo : MailIn r1_.2.2 _ := hou.2
     refine dv (At.z 1 ·) ?_
     refine dv (AW.seq ·) ?_
     refine dv (AW.weak (Sub.closeL 122 ((r3_.2.2).toNat) 29 10 ((ns.map encRaft).set ((r3_.2.2).toNat) (.agg [.int .i64 e9.id, .int .i64 e9.of_, .int .i64 e9.role, .int .i64 e9.commit, .int .i64 e9.hard.term, .int .i64 e9.hard.vote, .un, .un, .un, .un])) (ns.map encRaft) [(9, 5024), (8, 5023), (7, 5022), (6, 5021)] (.agg [.int .i64 e9.id, .int .i64 e9.of_, .int .i64 e9.role, .int .i64 e9.commit, .int .i64 e9.hard.term, .int .i64 e9.hard.vote, .un, .un, .un, .un]) (encRaft e9) [(3, 1, (e9.match_.map encI)), (3, 1, (e9.next.map encI)), (3, 1, (e9.yes.map encI)), (45, 6, (e9.hard.log.map encEnt))] (by kernel_rfl) (setGet (mapGet he9)) (by kernel_rfl) (by kernel_rfl) (by intro p hp; simp only [List.mem_cons, List.not_mem_nil, or_false] at hp; rcases hp with rfl | rfl | rfl | rfl; all_goals first | exact flatEnts | exact flatInts | (intro x hx; cases hx)) (by kernel_rfl) (by kernel_rfl) (by rw [List.set_set]; exact set_self (mapGet he9))) ·) ?_
     refine dv (AW.weak (Sub.frzIn 3860 51 17 ((beat e9).map encOut) ((beat e9).map encOutT) (by kernel_rfl) (frzOutT _)) ·) ?_
     refine dv (AW.g ·) ?_
     refine dv (At.a 2 ·) ?_
     refine dv (At.apC 146 51 17 168 246 139 3860 encOutT ml (beat e9) (by omega) (allP_encOutT _) ·) ?_
     refine dv (At.z 1 ·) ?_
     refine dv (AW.r ·) ?_
     refine dv (At.a 2 ·) ?_
     refine dv (At.sL 148 encOutT (ml ++ (beat e9)) ·) ?_
     refine dv (At.z 1 ·) ?_
     by_cases h20 : ((ml ++ (beat e9)).length : Int) > 30
     · refine dv (AW.condT (decide (((ml ++ (beat e9)).length : Int) > 30)) (by kernel_rfl) (decide_eq_true h20) ·) ?_
       refine dv (AW.g ·) ?_
       refine dv (At.a 1 ·) ?_
       refine dv (At.cutRef (t := 38) (d := 151) (e := 51) (es := 17) (i := 246) (x := .tmp 150) (lx := none) (hx := some (.const (.int .i64 30))) (xs := ((ml ++ (beat e9)).map encOutT)) (vl := .un) (vh := .int .i64 30) 251 30 (((ml ++ (beat e9)).take 30).map encOutT) (by kernel_rfl) (by kernel_rfl) (by kernel_rfl) (by kernel_rfl) (by kernel_rfl) (by kernel_rfl) (by decide) (.inl ⟨rfl, rfl⟩) (.inr ⟨_, _, rfl, rfl⟩) (by simp only [List.length_map]; omega) (by rw [List.map_take]) ·) ?_
       refine dv (At.z 1 ·) ?_
       refine dv (AW.g ·) ?_
       refine dv (At.a 2 ·) ?_
       refine dv (At.sI 48 ((k : Int) + 1) (by omega) ·) ?_
       refine dv (At.z 1 ·) ?_
       exact dw (fun _ h_ => AWL.weak (Sub.o [(0, 0), (122, 122), (251, 139)] [true, false, false, false, false, false, true, true, false, false, false, true, true, true]) h_) (ih2 (k + 1, ns, ((ml ++ (beat e9)).take 30), r4_.1, r4_.2.1) (⟨by omega, by (try simp only [List.length_set]); omega, by exact hns, ⟨by (try simp only [List.length_append, List.length_take, List.length_drop, List.length_nil] at *); omega, by exact mail_take (mail_app hml hmo) _⟩, by omega⟩) (by simp only; omega))
     refine dv (AW.condF (decide (((ml ++ (beat e9)).length : Int) > 30)) (by kernel_rfl) (decide_eq_false h20) ·) ?_
     refine dv (AW.skip ·) ?_
     refine dv (AW.g ·) ?_
     refine dv (At.a 2 ·) ?_
     refine dv (At.sI 48 ((k : Int) + 1) (by omega) ·) ?_
     refine dv (At.z 1 ·) ?_
     exact dw (fun _ h_ => AWL.weak (Sub.o [(0, 0), (122, 122), (246, 139)] [true, false, false, false, false, false, true, true, false, false, false, true, true, true]) h_) (ih2 (k + 1, ns, (ml ++ (beat e9)), r4_.1, r4_.2.1) (⟨by omega, by (try simp only [List.length_set]); omega, by exact hns, ⟨by (try simp only [List.length_append, List.length_take, List.length_drop, List.length_nil] at *); omega, by exact mail_app hml hmo⟩, by omega⟩) (by simp only; omega))
   refine dv (AW.condF (r4_.2.2 == 3) (by kernel_rfl) (beq_eq_false_iff_ne.2 h19) ·) ?_
   refine dv (AW.r ·) ?_
   refine dv (At.a 2 ·) ?_
   refine dv (At.sL 56 encOutT ml ·) ?_
   refine dv (At.z 1 ·) ?_
   by_cases h21 : (ml.length : Int) > 0
   · refine dv (AW.condT (decide ((ml.length : Int) > 0)) (by kernel_rfl) (decide_eq_true h21) ·) ?_
     refine dv (AW.r ·) ?_
     refine dv (At.a 3 ·) ?_
     refine dv (At.sL 60 encOutT ml ·) ?_
     refine dv (At.c (spec_l1Min_spec  (ml.length : Int) 4 ) Tryz.call111 true [] [] [] trivial ·) ?_
     refine Exists.elim (spec_l1Below_spec  (⟨c.data, r4_.1, r4_.2.1⟩ : Cur) (min (ml.length : Int) 4) (by dsimp only; omega)) fun r5_ hr5_ => ?_
     have qr5_ := hr5_.1
     try dsimp only at qr5_
     refine dv (At.c (hr5_.2) Tryz.call143 true [(0, 0)] [] [] trivial ·) ?_
     refine dv (At.z 1 ·) ?_
     refine dv (AW.r ·) ?_
     refine dv (At.a 2 ·) ?_
     refine dv (At.iRf 38 65 (.tmp 63) (.tmp 64) 139 (ml.map encOutT) .i64 r5_.2.2 51 17 (by omega) (by simp only [List.length_map]; omega) ·) ?_
     refine Exists.elim (gE ml ((r5_.2.2).toNat) (by omega)) fun e10 he10 => ?_
     have hxe10 := hml _ (List.mem_of_getElem? he10)
     refine dv (At.lEl 51 66 (.tmp 65) 139 51 17 (ml.map encOutT) ((r5_.2.2).toNat) 0 true 17 (encOutT e10) (.agg [.int .i64 e10.to, .int .i64 e10.msg.kind, .int .i64 e10.msg.from_, .int .i64 e10.msg.term, .int .i64 e10.msg.at_, .int .i64 e10.msg.atTerm, .int .i64 e10.msg.commit, .bool e10.msg.yes, .int .i64 e10.msg.release, .int .i64 e10.msg.part, .str e10.msg.bytes, .int .i64 e10.msg.cmd.kind, .int .i64 e10.msg.cmd.release, .int .i64 e10.msg.cmd.node, .int .i64 e10.msg.cmd.size, .str e10.msg.cmd.digest, .sl true 6 (e10.msg.entries.map encEnt)]) (mapGet he10) ·) ?_
     refine dv (At.z 2 ·) ?_
     refine dv (AW.seq ·) ?_
     refine dv (AW.gD Tryz_mix ·) ?_
     refine dv (At.lit0 (t := 38) (d := 67) (e := 51) (es := 17) (bytes := 168) 167 (by kernel_rfl) (by kernel_rfl) (by kernel_rfl) (by kernel_rfl) ·) ?_
     refine dv (At.a 2 ·) ?_
     refine dv (At.sliceRef (t := 38) (d := 70) (e := 51) (es := 17) (i := 139) (x := .tmp 68) (lx := none) (hx := some (.tmp 69)) (xs := (ml.map encOutT)) (vl := .un) (vh := .int .i64 r5_.2.2) 0 ((r5_.2.2).toNat) (by kernel_rfl) (by kernel_rfl) (by kernel_rfl) (by kernel_rfl) (by kernel_rfl) (.inl ⟨rfl, rfl⟩) (.inr ⟨_, _, rfl, sayNat (by omega)⟩) (by omega) (by simp only [List.length_map]; omega) ·) ?_
     refine dv (At.append (t := 38) (d := 71) (e := 51) (es := 17) (bytes := 168) (s := .tmp 67) (x := .tmp 70) (S := .ref 167) (T := .sub 139 0 (((r5_.2.2).toNat) - 0)) (xs := []) (ys := (((ml.drop 0).take (((r5_.2.2).toNat) - 0)).map encOutT)) 171 [167] [] (((ml.drop 0).take (((r5_.2.2).toNat) - 0)).map encOutT) (by kernel_rfl) (by kernel_rfl) (by kernel_rfl) (by kernel_rfl) ⟨by kernel_rfl, rfl⟩ ⟨(ml.map encOutT), by kernel_rfl, by rw [List.length_map]; omega, (by simp [List.map_take, List.map_drop]), (allP_encOutT _), rfl⟩ (by kernel_rfl) (by kernel_rfl) (by simp) (by simp only [List.length_map, List.length_append, List.length_take, List.length_drop, List.length_replicate, List.length_set, List.length_cons, List.length_nil]; omega) (by simp only [List.length_map, List.length_append, List.length_take, List.length_drop, List.length_replicate, List.length_set, List.length_cons, List.length_nil]; omega) ·) ?_
     refine dv (At.a 3 ·) ?_
     refine dv (At.sI 74 (r5_.2.2 + 1) (by omega) ·) ?_
     refine dv (At.sliceRef (t := 38) (d := 75) (e := 51) (es := 17) (i := 139) (x := .tmp 72) (lx := some (.tmp 74)) (hx := none) (xs := (ml.map encOutT)) (vl := .int .i64 (r5_.2.2 + 1)) (vh := .un) ((r5_.2.2 + 1).toNat) ml.length (by kernel_rfl) (by kernel_rfl) (by kernel_rfl) (by kernel_rfl) (by kernel_rfl) (.inr ⟨_, _, rfl, sayNat (by omega)⟩) (.inl ⟨rfl, (List.length_map _).symm⟩) (by omega) (by simp only [List.length_map]; omega) ·) ?_
     refine dv (At.append (t := 38) (d := 76) (e := 51) (es := 17) (bytes := 168) (s := .tmp 71) (x := .tmp 75) (S := .ref 171) (T := .sub 139 ((r5_.2.2 + 1).toNat) (ml.length - ((r5_.2.2 + 1).toNat))) (xs := (((ml.drop 0).take (((r5_.2.2).toNat) - 0)).map encOutT)) (ys := (((ml.drop ((r5_.2.2 + 1).toNat)).take (ml.length - ((r5_.2.2 + 1).toNat))).map encOutT)) 176 [171] [] ((((ml.drop 0).take (((r5_.2.2).toNat) - 0)) ++ ((ml.drop ((r5_.2.2 + 1).toNat)).take (ml.length - ((r5_.2.2 + 1).toNat)))).map encOutT) (by kernel_rfl) (by kernel_rfl) (by kernel_rfl) (by kernel_rfl) ⟨by kernel_rfl, rfl⟩ ⟨(ml.map encOutT), by kernel_rfl, by rw [List.length_map]; omega, (by simp [List.map_take, List.map_drop]), (allP_encOutT _), rfl⟩ (by kernel_rfl) (by kernel_rfl) (by simp) (by simp only [List.length_map, List.length_append, List.length_take, List.length_drop, List.length_replicate, List.length_set, List.length_cons, List.length_nil]; omega) (by simp only [List.length_map, List.length_append, List.length_take, List.length_drop, List.length_replicate, List.length_set, List.length_cons, List.length_nil]; omega) ·) ?_
     refine dv (At.zD 1 ·) ?_
     refine Exists.elim (gE ns ((e10.to).toNat) (by omega)) fun e11 he11 => ?_
     have hye11 := hns _ (List.mem_of_getElem? he11)
     have hnne11 := hye11.nums
     have hsme11 := hnne11.2.2.2.2.2
     have hoke11 := hye11.1
     refine dv (AW.weak (Sub.openL 122 ((e10.to).toNat) 29 10 (ns.map encRaft) (encRaft e11) [(6, 5025), (7, 5026), (8, 5027), (9, 5028)] (by kernel_rfl) (mapGet he11) (by kernel_rfl)) ·) ?_
     refine dv (AW.gD Tryz_mix ·) ?_
     refine dv (At.a 6 ·) ?_
     refine dv (At.idxH 142 84 (.tmp 81) (.tmp 83) 122 ((ns.map encRaft).set ((e10.to).toNat) (.agg [.int .i64 e11.id, .int .i64 e11.of_, .int .i64 e11.role, .int .i64 e11.commit, .int .i64 e11.hard.term, .int .i64 e11.hard.vote, .un, .un, .un, .un])) ((e10.to).toNat) [(9, 5028), (8, 5027), (7, 5026), (6, 5025)] .i64 (e10.to) 29 10 (by omega) (by rw [List.length_set, List.length_map]; omega) ·) ?_
     refine dv (At.ldH 29 85 (.tmp 84) 122 29 10 ((ns.map encRaft).set ((e10.to).toNat) (.agg [.int .i64 e11.id, .int .i64 e11.of_, .int .i64 e11.role, .int .i64 e11.commit, .int .i64 e11.hard.term, .int .i64 e11.hard.vote, .un, .un, .un, .un])) ((e10.to).toNat) [(9, 5028), (8, 5027), (7, 5026), (6, 5025)] 0 true 10 (.agg [.int .i64 e11.id, .int .i64 e11.of_, .int .i64 e11.role, .int .i64 e11.commit, .int .i64 e11.hard.term, .int .i64 e11.hard.vote, .un, .un, .un, .un]) (.agg [.int .i64 e11.id, .int .i64 e11.of_, .int .i64 e11.role, .int .i64 e11.commit, .int .i64 e11.hard.term, .int .i64 e11.hard.vote, .ref 5025, .ref 5026, .ref 5027, .ref 5028]) (setGet (mapGet he11)) ·) ?_
     refine dv (At.a 2 ·) ?_
     refine dv (At.c (FnSpec.cv (As := [.agg [.int .i64 e11.id, .int .i64 e11.of_, .int .i64 e11.role, .int .i64 e11.commit, .int .i64 e11.hard.term, .int .i64 e11.hard.vote, .sl false 6 (e11.hard.log.map encEnt), .sl false 1 (e11.yes.map encI), .sl false 1 (e11.next.map encI), .sl false 1 (e11.match_.map encI)], .agg [.int .i64 e10.msg.kind, .int .i64 e10.msg.from_, .int .i64 e10.msg.term, .int .i64 e10.msg.at_, .int .i64 e10.msg.atTerm, .int .i64 e10.msg.commit, .bool e10.msg.yes, .int .i64 e10.msg.release, .int .i64 e10.msg.part, .str e10.msg.bytes, .int .i64 e10.msg.cmd.kind, .int .i64 e10.msg.cmd.release, .int .i64 e10.msg.cmd.node, .int .i64 e10.msg.cmd.size, .str e10.msg.cmd.digest, .sl true 6 (e10.msg.entries.map encEnt)]]) [0, 7] (spec_l10On_spec  e11 e10.msg (by assumption) (by omega) (by assumption))) Tryz.call169 false [] [(2760, 0), (2761, 1), (2762, 2), (2763, 3), (2764, 4), (2765, 5)] [(5025, 6, (e11.hard.log.map encEnt)), (5026, 1, (e11.yes.map encI)), (5027, 1, (e11.next.map encI)), (5028, 1, (e11.match_.map encI))] ⟨rfl, ⟨45, (e11.hard.log.map encEnt), by kernel_rfl, FrzIs.same (allP_encEnt _)⟩, rfl, ⟨3, (e11.yes.map encI), by kernel_rfl, FrzIs.same (allP_encI _)⟩, rfl, ⟨3, (e11.next.map encI), by kernel_rfl, FrzIs.same (allP_encI _)⟩, rfl, ⟨3, (e11.match_.map encI), by kernel_rfl, FrzIs.same (allP_encI _)⟩, trivial⟩ ·) ?_
     have hou := on_in e10.msg hye11
     have hnd := hou.1
     have hle := hou.2.1
     have hmo : MailIn r1_.2.2 _ := hou.2.2
     refine dv (At.a 4 ·) ?_
     refine dv (At.idxH 142 92 (.tmp 78) (.tmp 80) 122 ((ns.map encRaft).set ((e10.to).toNat) (.agg [.int .i64 e11.id, .int .i64 e11.of_, .int .i64 e11.role, .int .i64 e11.commit, .int .i64 e11.hard.term, .int .i64 e11.hard.vote, .un, .un, .un, .un])) ((e10.to).toNat) [(9, 5028), (8, 5027), (7, 5026), (6, 5025)] .i64 (e10.to) 29 10 (by omega) (by rw [List.length_set, List.length_map]; omega) ·) ?_
     refine dv (At.stH 29 122 29 10 ((e10.to).toNat) (.tmp 92) (.tmp 89) ((ns.map encRaft).set ((e10.to).toNat) (.agg [.int .i64 e11.id, .int .i64 e11.of_, .int .i64 e11.role, .int .i64 e11.commit, .int .i64 e11.hard.term, .int .i64 e11.hard.vote, .un, .un, .un, .un])) [.int .i64 (((onR e11 e10.msg).1).id), .int .i64 (((onR e11 e10.msg).1).of_), .int .i64 (((onR e11 e10.msg).1).role), .int .i64 (((onR e11 e10.msg).1).commit), .int .i64 (((onR e11 e10.msg).1).hard.term), .int .i64 (((onR e11 e10.msg).1).hard.vote), .ref 2760, .ref 2761, .ref 2762, .ref 2763] [.int .i64 e11.id, .int .i64 e11.of_, .int .i64 e11.role, .int .i64 e11.commit, .int .i64 e11.hard.term, .int .i64 e11.hard.vote, .un, .un, .un, .un] [(9, 5028), (8, 5027), (7, 5026), (6, 5025)] (setGet (mapGet he11)) ·) ?_
     refine dv (At.zD 1 ·) ?_
     refine dv (AW.seq ·) ?_
     refine dv (AW.weak (Sub.closeL 122 ((e10.to).toNat) 29 10 (((ns.map encRaft).set ((e10.to).toNat) (.agg [.int .i64 e11.id, .int .i64 e11.of_, .int .i64 e11.role, .int .i64 e11.commit, .int .i64 e11.hard.term, .int .i64 e11.hard.vote, .un, .un, .un, .un])).set ((e10.to).toNat) (.agg [.int .i64 (((onR e11 e10.msg).1).id), .int .i64 (((onR e11 e10.msg).1).of_), .int .i64 (((onR e11 e10.msg).1).role), .int .i64 (((onR e11 e10.msg).1).commit), .int .i64 (((onR e11 e10.msg).1).hard.term), .int .i64 (((onR e11 e10.msg).1).hard.vote), .un, .un, .un, .un])) ((ns.set ((e10.to).toNat) ((onR e11 e10.msg).1)).map encRaft) [(6, 2760), (7, 2761), (8, 2762), (9, 2763)] (.agg [.int .i64 (((onR e11 e10.msg).1).id), .int .i64 (((onR e11 e10.msg).1).of_), .int .i64 (((onR e11 e10.msg).1).role), .int .i64 (((onR e11 e10.msg).1).commit), .int .i64 (((onR e11 e10.msg).1).hard.term), .int .i64 (((onR e11 e10.msg).1).hard.vote), .un, .un, .un, .un]) (encRaft ((onR e11 e10.msg).1)) [(45, 6, ((((onR e11 e10.msg).1).hard.log).map encEnt)), (3, 1, ((((onR e11 e10.msg).1).yes).map encI)), (3, 1, ((((onR e11 e10.msg).1).next).map encI)), (3, 1, ((((onR e11 e10.msg).1).match_).map encI))] (by kernel_rfl) (setGet (setGet (mapGet he11))) (by kernel_rfl) (by kernel_rfl) (by intro p hp; simp only [List.mem_cons, List.not_mem_nil, or_false] at hp; rcases hp with rfl | rfl | rfl | rfl; all_goals first | exact flatEnts | exact flatInts | (intro x hx; cases hx)) (by kernel_rfl) (by kernel_rfl) (by rw [List.set_set, List.set_set]; exact setV.symm)) ·) ?_
     refine dv (AW.weak (Sub.frzIn 2765 51 17 (((onR e11 e10.msg).2.2).map encOut) (((onR e11 e10.msg).2.2).map encOutT) (by kernel_rfl) (frzOutT _)) ·) ?_
     refine dv (AW.g ·) ?_
     refine dv (At.a 2 ·) ?_
     refine dv (At.apC 146 51 17 168 246 176 2765 encOutT (((ml.drop 0).take (((r5_.2.2).toNat) - 0)) ++ ((ml.drop ((r5_.2.2 + 1).toNat)).take (ml.length - ((r5_.2.2 + 1).toNat)))) ((onR e11 e10.msg).2.2) (by simp only [List.length_map, List.length_append, List.length_take, List.length_drop, List.length_replicate, List.length_set, List.length_cons, List.length_nil]; omega) (allP_encOutT _) ·) ?_
     refine dv (At.z 1 ·) ?_
     refine dv (AW.r ·) ?_
     refine dv (At.a 2 ·) ?_
     refine dv (At.sL 148 encOutT ((((ml.drop 0).take (((r5_.2.2).toNat) - 0)) ++ ((ml.drop ((r5_.2.2 + 1).toNat)).take (ml.length - ((r5_.2.2 + 1).toNat)))) ++ ((onR e11 e10.msg).2.2)) ·) ?_
     refine dv (At.z 1 ·) ?_
     by_cases h22 : (((((ml.drop 0).take (((r5_.2.2).toNat) - 0)) ++ ((ml.drop ((r5_.2.2 + 1).toNat)).take (ml.length - ((r5_.2.2 + 1).toNat)))) ++ ((onR e11 e10.msg).2.2)).length : Int) > 30
     · refine dv (AW.condT (decide ((((((ml.drop 0).take (((r5_.2.2).toNat) - 0)) ++ ((ml.drop ((r5_.2.2 + 1).toNat)).take (ml.length - ((r5_.2.2 + 1).toNat)))) ++ ((onR e11 e10.msg).2.2)).length : Int) > 30)) (by kernel_rfl) (decide_eq_true h22) ·) ?_
       refine dv (AW.g ·) ?_
       refine dv (At.a 1 ·) ?_
       refine dv (At.cutRef (t := 38) (d := 151) (e := 51) (es := 17) (i := 246) (x := .tmp 150) (lx := none) (hx := some (.const (.int .i64 30))) (xs := (((((ml.drop 0).take (((r5_.2.2).toNat) - 0)) ++ ((ml.drop ((r5_.2.2 + 1).toNat)).take (ml.length - ((r5_.2.2 + 1).toNat)))) ++ ((onR e11 e10.msg).2.2)).map encOutT)) (vl := .un) (vh := .int .i64 30) 251 30 ((((((ml.drop 0).take (((r5_.2.2).toNat) - 0)) ++ ((ml.drop ((r5_.2.2 + 1).toNat)).take (ml.length - ((r5_.2.2 + 1).toNat)))) ++ ((onR e11 e10.msg).2.2)).take 30).map encOutT) (by kernel_rfl) (by kernel_rfl) (by kernel_rfl) (by kernel_rfl) (by kernel_rfl) (by kernel_rfl) (by decide) (.inl ⟨rfl, rfl⟩) (.inr ⟨_, _, rfl, rfl⟩) (by simp only [List.length_map]; omega) (by rw [List.map_take]) ·) ?_
       refine dv (At.z 1 ·) ?_
       refine dv (AW.g ·) ?_
       refine dv (At.a 2 ·) ?_
       refine dv (At.sI 48 ((k : Int) + 1) (by omega) ·) ?_
       refine dv (At.z 1 ·) ?_
       exact dw (fun _ h_ => AWL.weak (Sub.o [(0, 0), (122, 122), (251, 139)] [true, false, false, false, false, false, true, true, false, false, false, true, true, true]) h_) (ih2 (k + 1, (ns.set ((e10.to).toNat) ((onR e11 e10.msg).1)), (((((ml.drop 0).take (((r5_.2.2).toNat) - 0)) ++ ((ml.drop ((r5_.2.2 + 1).toNat)).take (ml.length - ((r5_.2.2 + 1).toNat)))) ++ ((onR e11 e10.msg).2.2)).take 30), r5_.1, r5_.2.1) (⟨by omega, by (try simp only [List.length_set]); omega, by exact NodesIn.set hns _ hnd, ⟨by (try simp only [List.length_append, List.length_take, List.length_drop, List.length_nil] at *); omega, by exact mail_take (mail_app (mail_cut hml _ _ _) hmo) _⟩, by omega⟩) (by simp only; omega))
     refine dv (AW.condF (decide ((((((ml.drop 0).take (((r5_.2.2).toNat) - 0)) ++ ((ml.drop ((r5_.2.2 + 1).toNat)).take (ml.length - ((r5_.2.2 + 1).toNat)))) ++ ((onR e11 e10.msg).2.2)).length : Int) > 30)) (by kernel_rfl) (decide_eq_false h22) ·) ?_
     refine dv (AW.skip ·) ?_
     refine dv (AW.g ·) ?_
     refine dv (At.a 2 ·) ?_
     refine dv (At.sI 48 ((k : Int) + 1) (by omega) ·) ?_
     refine dv (At.z 1 ·) ?_
     exact dw (fun _ h_ => AWL.weak (Sub.o [(0, 0), (122, 122), (246, 139)] [true, false, false, false, false, false, true, true, false, false, false, true, true, true]) h_) (ih2 (k + 1, (ns.set ((e10.to).toNat) ((onR e11 e10.msg).1)), ((((ml.drop 0).take (((r5_.2.2).toNat) - 0)) ++ ((ml.drop ((r5_.2.2 + 1).toNat)).take (ml.length - ((r5_.2.2 + 1).toNat)))) ++ ((onR e11 e10.msg).2.2)), r5_.1, r5_.2.1) (⟨by omega, by (try simp only [List.length_set]); omega, by exact NodesIn.set hns _ hnd, ⟨by (try simp only [List.length_append, List.length_take, List.length_drop, List.length_nil] at *); omega, by exact mail_app (mail_cut hml _ _ _) hmo⟩, by omega⟩) (by simp only; omega))
   refine dv (AW.condF (decide ((ml.length : Int) > 0)) (by kernel_rfl) (decide_eq_false h21) ·) ?_
   refine dv (AW.skip ·) ?_
   refine dv (AW.r ·) ?_
   refine dv (At.a 2 ·) ?_
   refine dv (At.append (t := 38) (d := 146) (e := 51) (es := 17) (bytes := 168) (s := .tmp 144) (x := .tmp 145) (S := .ref 139) (T := .ref 152) (xs := (ml.map encOutT)) (ys := []) 246 [139] [] (ml.map encOutT) (by kernel_rfl) (by kernel_rfl) (by kernel_rfl) (by kernel_rfl) ⟨by kernel_rfl, rfl⟩ ⟨by kernel_rfl, .inl ⟨rfl, (fun _ h => by cases h)⟩⟩ (by kernel_rfl) (by kernel_rfl) (by simp) (by simp only [List.length_map, List.length_append, List.length_take, List.length_drop, List.length_replicate, List.length_set, List.length_cons, List.length_nil]; omega) (by simp only [List.length_map, List.length_append, List.length_take, List.length_drop, List.length_replicate, List.length_set, List.length_cons, List.length_nil]; omega) ·) ?_
   refine dv (At.z 1 ·) ?_
   refine dv (AW.r ·) ?_
   refine dv (At.a 2 ·) ?_
   refine dv (At.sL 148 encOutT ml ·) ?_
   refine dv (At.z 1 ·) ?_
   by_cases h23 : (ml.length : Int) > 30
   · refine dv (AW.condT (decide ((ml.length : Int) > 30)) (by kernel_rfl) (decide_eq_true h23) ·) ?_
     refine dv (AW.g ·) ?_
     refine dv (At.a 1 ·) ?_
     refine dv (At.cutRef (t := 38) (d := 151) (e := 51) (es := 17) (i := 246) (x := .tmp 150) (lx := none) (hx := some (.const (.int .i64 30))) (xs := (ml.map encOutT)) (vl := .un) (vh := .int .i64 30) 251 30 ((ml.take 30).map encOutT) (by kernel_rfl) (by kernel_rfl) (by kernel_rfl) (by kernel_rfl) (by kernel_rfl) (by kernel_rfl) (by decide) (.inl ⟨rfl, rfl⟩) (.inr ⟨_, _, rfl, rfl⟩) (by omega) (by rw [List.map_take]) ·) ?_
     refine dv (At.z 1 ·) ?_
     refine dv (AW.g ·) ?_
     refine dv (At.a 2 ·) ?_
     refine dv (At.sI 48 ((k : Int) + 1) (by omega) ·) ?_
     refine dv (At.z 1 ·) ?_
     exact dw (fun _ h_ => AWL.weak (Sub.o [(0, 0), (122, 122), (251, 139)] [true, false, false, false, false, false, true, true, false, false, false, true, true, true]) h_) (ih2 (k + 1, ns, (ml.take 30), r4_.1, r4_.2.1) (⟨by omega, by (try simp only [List.length_set]); omega, by exact hns, ⟨by (try simp only [List.length_append, List.length_take, List.length_drop, List.length_nil] at *); omega, by exact mail_take hml _⟩, by omega⟩) (by simp only; omega))
   refine dv (AW.condF (decide ((ml.length : Int) > 30)) (by kernel_rfl) (decide_eq_false h23) ·) ?_
   refine dv (AW.skip ·) ?_
   refine dv (AW.g ·) ?_
   refine dv (At.a 2 ·) ?_
   refine dv (At.sI 48 ((k : Int) + 1) (by omega) ·) ?_
   refine dv (At.z 1 ·) ?_
   exact dw (fun _ h_ => AWL.weak (Sub.o [(0, 0), (122, 122), (246, 139)] [true, false, false, false, false, false, true, true, false, false, false, true, true, true]) h_) (ih2 (k + 1, ns, ml, r4_.1, r4_.2.1) (⟨by omega, by (try simp only [List.length_set]); omega, by exact hns, ⟨by (try simp only [List.length_append, List.length_take, List.length_drop, List.length_nil] at *); omega, by exact hml⟩, by omega⟩) (by simp only; omega))
 refine dv (AW.condF (decide ((k : Int) < r2_.2.2)) (by kernel_rfl) (decide_eq_false h2) ·) ?_
 refine dv (AW.exit ·) ?_
 refine dv (AW.q 4 ·) ?_
 refine dv (AW.ret ·) ?_
 refine dv (⟨_, Sub.refl _ _, ·⟩) ?_
 exact ⟨(p, s, ns, ml), ⟨by (try dsimp only); omega, by (try dsimp only); omega, _, hof, hl, hns, hm, hml⟩, KF.mk (.inr rfl) [(0, 0), (122, 1), (139, 2)] [.ref 122, .ref 139] (by kernel_rfl) (by kernel_rfl) (by kernel_rfl) (by kernel_rfl) (by kernel_rfl)⟩
theorem spec_l10Spoil_spec  (c : Cur) (r : Raft) (hp : 0 ≤ c.pos ∧ c.pos ≤ c.data.length ∧ c.data.length ≤ 1048576) (hr : raftOk r = true) : ∃ rho_ : Int × Int × Raft, (0 ≤ rho_.1 ∧ rho_.1 ≤ c.data.length ∧ SmallR rho_.2.2) ∧ FnSpec Tryz.prog 146 [.ptr 0 0 0, .agg [.int .i64 r.id, .int .i64 r.of_, .int .i64 r.role, .int .i64 r.commit, .int .i64 r.hard.term, .int .i64 r.hard.vote, .ref 1, .ref 2, .ref 3, .ref 4]] [.box 141 [.sl false 1 (c.data.map encU8), .int .i64 c.pos, .int .i64 c.seed], .arr 45 6 (r.hard.log.map encEnt), .arr 3 1 (r.yes.map encI), .arr 3 1 (r.next.map encI), .arr 3 1 (r.match_.map encI)] (.agg [.int .i64 rho_.2.2.id, .int .i64 rho_.2.2.of_, .int .i64 rho_.2.2.role, .int .i64 rho_.2.2.commit, .int .i64 rho_.2.2.hard.term, .int .i64 rho_.2.2.hard.vote, .ref 5, .ref 6, .ref 7, .ref 8]) [.box 141 [.sl false 1 (c.data.map encU8), .int .i64 rho_.1, .int .i64 rho_.2.1], .dead, .dead, .dead, .dead, .arr 45 6 (rho_.2.2.hard.log.map encEnt), .arr 3 1 (rho_.2.2.yes.map encI), .arr 3 1 (rho_.2.2.next.map encI), .arr 3 1 (rho_.2.2.match_.map encI)] := by
 have hnn := NodeIn.nums (n := r.of_) ⟨hr, rfl⟩
 obtain ⟨z1, z2, z3, z4⟩ := hnn.2.2.2.2.2
 have hnm := raftOk1_nums (raftOk_1 hr)
 have hln := raftOk_lens hr
 refine dv (fun h_ => FnSpec.of 60 Tryz.func146 rfl Tryz.ntmps146 (by simp) (AW.weakK h_)) ?_
 refine dv (AW.q 2 ·) ?_
 refine dv (AW.seq ·) ?_
 refine dv (AW.seq ·) ?_
 refine dv (AW.weak (Sub.nils [⟨true, 104, some 6, 5001, 45, 6⟩, ⟨true, 104, some 7, 5002, 3, 1⟩, ⟨true, 104, some 8, 5003, 3, 1⟩, ⟨true, 104, some 9, 5004, 3, 1⟩] (by kernel_rfl)) ·) ?_
 refine dv (AW.g ·) ?_
 refine dv (At.a 1 ·) ?_
 refine Exists.elim (spec_l1Below_spec  c 40 (by omega)) fun r1_ hr1_ => ?_
 have qr1_ := hr1_.1
 try dsimp only at qr1_
 refine dv (At.c (hr1_.2) Tryz.call143 true [(0, 0)] [] [] trivial ·) ?_
 refine dv (At.done rfl ·) ?_
 refine dv (AW.block ·) ?_
 refine dv (AW.q 2 ·) ?_
 by_cases h1 : r1_.2.2 = 0
 · refine dv (AW.condT (r1_.2.2 == 0) (by kernel_rfl) (beq_iff_eq.2 h1) ·) ?_
   refine dv (AW.g ·) ?_
   refine dv (At.a 1 ·) ?_
   refine Exists.elim (spec_l1Below_spec  (⟨c.data, r1_.1, r1_.2.1⟩ : Cur) 5 (by dsimp only; omega)) fun r2_ hr2_ => ?_
   have qr2_ := hr2_.1
   try dsimp only at qr2_
   refine dv (At.c (hr2_.2) Tryz.call143 true [(0, 0)] [] [] trivial ·) ?_
   refine dv (At.z 2 ·) ?_
   refine dv (AW.q 2 ·) ?_
   refine dv (AW.ret ·) ?_
   refine dv (⟨_, (Sub.trans (Sub.trans (Sub.trans (Sub.trans (Sub.refl _ _) (Sub.mv 1 8001 (by kernel_rfl) (by decide))) (Sub.mv 2 8002 (by kernel_rfl) (by decide))) (Sub.mv 3 8003 (by kernel_rfl) (by decide))) (Sub.mv 4 8004 (by kernel_rfl) (by decide))), ·⟩) ?_
   exact ⟨(r2_.1, r2_.2.1, (⟨r.id, r.of_, r2_.2.2, r.commit, r.hard, r.yes, r.next, r.match_⟩ : Raft)), (by (try dsimp only); refine ⟨by omega, by omega, ?_⟩; unfold SmallR; (try dsimp only); (try simp only [List.length_append, List.length_cons, List.length_nil]); omega), KF.mk (.inr rfl) [(0, 0), (1, 1), (2, 2), (3, 3), (4, 4), (8001, 5), (8002, 6), (8003, 7), (8004, 8)] [.agg [.int .i64 r.id, .int .i64 r.of_, .int .i64 r2_.2.2, .int .i64 r.commit, .int .i64 r.hard.term, .int .i64 r.hard.vote, .ref 8001, .ref 8002, .ref 8003, .ref 8004]] (by kernel_rfl) (by kernel_rfl) (by kernel_rfl) (by kernel_rfl) (by kernel_rfl)⟩
 refine dv (AW.condF (r1_.2.2 == 0) (by kernel_rfl) (beq_eq_false_iff_ne.2 h1) ·) ?_
 refine dv (AW.q 2 ·) ?_
 by_cases h2 : r1_.2.2 = 1
 · refine dv (AW.condT (r1_.2.2 == 1) (by kernel_rfl) (beq_iff_eq.2 h2) ·) ?_
   refine dv (AW.gD Tryz_mix ·) ?_
   refine dv (At.a 3 ·) ?_
   refine Exists.elim (spec_l1Below_spec  (⟨c.data, r1_.1, r1_.2.1⟩ : Cur) 3 (by dsimp only; omega)) fun r2_ hr2_ => ?_
   have qr2_ := hr2_.1
   try dsimp only at qr2_
   refine dv (At.c (hr2_.2) Tryz.call143 true [(0, 0)] [] [] trivial ·) ?_
   refine dv (At.a 1 ·) ?_
   refine dv (At.sI 18 (r.commit + r2_.2.2) (by omega) ·) ?_
   refine dv (At.a 1 ·) ?_
   refine dv (At.sI 19 ((r.commit + r2_.2.2) - 1) (by omega) ·) ?_
   refine dv (At.zD 2 ·) ?_
   refine dv (AW.q 2 ·) ?_
   refine dv (AW.ret ·) ?_
   refine dv (⟨_, (Sub.trans (Sub.trans (Sub.trans (Sub.trans (Sub.refl _ _) (Sub.mv 1 8001 (by kernel_rfl) (by decide))) (Sub.mv 2 8002 (by kernel_rfl) (by decide))) (Sub.mv 3 8003 (by kernel_rfl) (by decide))) (Sub.mv 4 8004 (by kernel_rfl) (by decide))), ·⟩) ?_
   exact ⟨(r2_.1, r2_.2.1, (⟨r.id, r.of_, r.role, (r.commit + r2_.2.2) - 1, r.hard, r.yes, r.next, r.match_⟩ : Raft)), (by (try dsimp only); refine ⟨by omega, by omega, ?_⟩; unfold SmallR; (try dsimp only); (try simp only [List.length_append, List.length_cons, List.length_nil]); omega), KF.mk (.inr rfl) [(0, 0), (1, 1), (2, 2), (3, 3), (4, 4), (8001, 5), (8002, 6), (8003, 7), (8004, 8)] [.agg [.int .i64 r.id, .int .i64 r.of_, .int .i64 r.role, .int .i64 ((r.commit + r2_.2.2) - 1), .int .i64 r.hard.term, .int .i64 r.hard.vote, .ref 8001, .ref 8002, .ref 8003, .ref 8004]] (by kernel_rfl) (by kernel_rfl) (by kernel_rfl) (by kernel_rfl) (by kernel_rfl)⟩
 refine dv (AW.condF (r1_.2.2 == 1) (by kernel_rfl) (beq_eq_false_iff_ne.2 h2) ·) ?_
 refine dv (AW.q 2 ·) ?_
 by_cases h3 : r1_.2.2 = 2
 · refine dv (AW.condT (r1_.2.2 == 2) (by kernel_rfl) (beq_iff_eq.2 h3) ·) ?_
   refine dv (AW.gD Tryz_mix ·) ?_
   refine dv (At.a 4 ·) ?_
   refine Exists.elim (spec_l1Below_spec  (⟨c.data, r1_.1, r1_.2.1⟩ : Cur) 3 (by dsimp only; omega)) fun r2_ hr2_ => ?_
   have qr2_ := hr2_.1
   try dsimp only at qr2_
   refine dv (At.c (hr2_.2) Tryz.call143 true [(0, 0)] [] [] trivial ·) ?_
   refine dv (At.a 1 ·) ?_
   refine dv (At.sI 28 (r.hard.term + r2_.2.2) (by omega) ·) ?_
   refine dv (At.a 1 ·) ?_
   refine dv (At.sI 29 ((r.hard.term + r2_.2.2) - 1) (by omega) ·) ?_
   refine dv (At.zD 3 ·) ?_
   refine dv (AW.q 2 ·) ?_
   refine dv (AW.ret ·) ?_
   refine dv (⟨_, (Sub.trans (Sub.trans (Sub.trans (Sub.trans (Sub.refl _ _) (Sub.mv 1 8001 (by kernel_rfl) (by decide))) (Sub.mv 2 8002 (by kernel_rfl) (by decide))) (Sub.mv 3 8003 (by kernel_rfl) (by decide))) (Sub.mv 4 8004 (by kernel_rfl) (by decide))), ·⟩) ?_
   exact ⟨(r2_.1, r2_.2.1, (⟨r.id, r.of_, r.role, r.commit, ⟨(r.hard.term + r2_.2.2) - 1, r.hard.vote, r.hard.log⟩, r.yes, r.next, r.match_⟩ : Raft)), (by (try dsimp only); refine ⟨by omega, by omega, ?_⟩; unfold SmallR; (try dsimp only); (try simp only [List.length_append, List.length_cons, List.length_nil]); omega), KF.mk (.inr rfl) [(0, 0), (1, 1), (2, 2), (3, 3), (4, 4), (8001, 5), (8002, 6), (8003, 7), (8004, 8)] [.agg [.int .i64 r.id, .int .i64 r.of_, .int .i64 r.role, .int .i64 r.commit, .int .i64 ((r.hard.term + r2_.2.2) - 1), .int .i64 r.hard.vote, .ref 8001, .ref 8002, .ref 8003, .ref 8004]] (by kernel_rfl) (by kernel_rfl) (by kernel_rfl) (by kernel_rfl) (by kernel_rfl)⟩
 refine dv (AW.condF (r1_.2.2 == 2) (by kernel_rfl) (beq_eq_false_iff_ne.2 h3) ·) ?_
 refine dv (AW.q 2 ·) ?_
 by_cases h4 : r1_.2.2 = 3
 · refine dv (AW.condT (r1_.2.2 == 3) (by kernel_rfl) (beq_iff_eq.2 h4) ·) ?_
   refine dv (AW.g ·) ?_
   refine dv (At.a 1 ·) ?_
   refine Exists.elim (spec_l1Below_spec  (⟨c.data, r1_.1, r1_.2.1⟩ : Cur) 7 (by dsimp only; omega)) fun r2_ hr2_ => ?_
   have qr2_ := hr2_.1
   try dsimp only at qr2_
   refine dv (At.c (hr2_.2) Tryz.call143 true [(0, 0)] [] [] trivial ·) ?_
   refine dv (At.z 3 ·) ?_
   refine dv (AW.q 2 ·) ?_
   refine dv (AW.ret ·) ?_
   refine dv (⟨_, (Sub.trans (Sub.trans (Sub.trans (Sub.trans (Sub.refl _ _) (Sub.mv 1 8001 (by kernel_rfl) (by decide))) (Sub.mv 2 8002 (by kernel_rfl) (by decide))) (Sub.mv 3 8003 (by kernel_rfl) (by decide))) (Sub.mv 4 8004 (by kernel_rfl) (by decide))), ·⟩) ?_
   exact ⟨(r2_.1, r2_.2.1, (⟨r.id, r.of_, r.role, r.commit, ⟨r.hard.term, r2_.2.2, r.hard.log⟩, r.yes, r.next, r.match_⟩ : Raft)), (by (try dsimp only); refine ⟨by omega, by omega, ?_⟩; unfold SmallR; (try dsimp only); (try simp only [List.length_append, List.length_cons, List.length_nil]); omega), KF.mk (.inr rfl) [(0, 0), (1, 1), (2, 2), (3, 3), (4, 4), (8001, 5), (8002, 6), (8003, 7), (8004, 8)] [.agg [.int .i64 r.id, .int .i64 r.of_, .int .i64 r.role, .int .i64 r.commit, .int .i64 r.hard.term, .int .i64 r2_.2.2, .ref 8001, .ref 8002, .ref 8003, .ref 8004]] (by kernel_rfl) (by kernel_rfl) (by kernel_rfl) (by kernel_rfl) (by kernel_rfl)⟩
 refine dv (AW.condF (r1_.2.2 == 3) (by kernel_rfl) (beq_eq_false_iff_ne.2 h4) ·) ?_
 refine dv (AW.q 2 ·) ?_
 by_cases h5 : r1_.2.2 = 4
 · refine dv (AW.condT (r1_.2.2 == 4) (by kernel_rfl) (beq_iff_eq.2 h5) ·) ?_
   refine dv (AW.gD Tryz_mix ·) ?_
   refine dv (At.a 3 ·) ?_
   refine Exists.elim (spec_l1Below_spec  (⟨c.data, r1_.1, r1_.2.1⟩ : Cur) 5 (by dsimp only; omega)) fun r2_ hr2_ => ?_
   have qr2_ := hr2_.1
   try dsimp only at qr2_
   refine dv (At.c (hr2_.2) Tryz.call143 true [(0, 0)] [] [] trivial ·) ?_
   refine dv (At.ll 44 3 1 144 (45, 6) (([r2_.2.2]).map encI) ·) ?_
   refine dv (At.apK 45 3 1 8 145 2 144 encI r.yes ([r2_.2.2]) (by simp only [List.length_map, List.length_append, List.length_take, List.length_drop, List.length_replicate, List.length_set, List.length_cons, List.length_nil]; omega) ·) ?_
   refine dv (At.zD 2 ·) ?_
   refine dv (AW.q 2 ·) ?_
   refine dv (AW.ret ·) ?_
   refine dv (⟨_, (Sub.trans (Sub.trans (Sub.trans (Sub.refl _ _) (Sub.mv 1 8001 (by kernel_rfl) (by decide))) (Sub.mv 3 8003 (by kernel_rfl) (by decide))) (Sub.mv 4 8004 (by kernel_rfl) (by decide))), ·⟩) ?_
   exact ⟨(r2_.1, r2_.2.1, (⟨r.id, r.of_, r.role, r.commit, r.hard, r.yes ++ ([r2_.2.2]), r.next, r.match_⟩ : Raft)), (by (try dsimp only); refine ⟨by omega, by omega, ?_⟩; unfold SmallR; (try dsimp only); (try simp only [List.length_append, List.length_cons, List.length_nil]); omega), KF.mk (.inr rfl) [(0, 0), (1, 1), (2, 2), (3, 3), (4, 4), (8001, 5), (145, 6), (8003, 7), (8004, 8)] [.agg [.int .i64 r.id, .int .i64 r.of_, .int .i64 r.role, .int .i64 r.commit, .int .i64 r.hard.term, .int .i64 r.hard.vote, .ref 8001, .ref 145, .ref 8003, .ref 8004]] (by kernel_rfl) (by kernel_rfl) (by kernel_rfl) (by kernel_rfl) (by kernel_rfl)⟩
 refine dv (AW.condF (r1_.2.2 == 4) (by kernel_rfl) (beq_eq_false_iff_ne.2 h5) ·) ?_
 refine dv (AW.q 2 ·) ?_
 by_cases h6 : r1_.2.2 = 5
 · refine dv (AW.condT (r1_.2.2 == 5) (by kernel_rfl) (beq_iff_eq.2 h6) ·) ?_
   refine dv (AW.g ·) ?_
   refine dv (At.a 2 ·) ?_
   refine dv (At.ll 51 3 1 151 (45, 6) (([1]).map encI) ·) ?_
   refine dv (At.apK 52 3 1 8 152 3 151 encI r.next ([1]) (by simp only [List.length_map, List.length_append, List.length_take, List.length_drop, List.length_replicate, List.length_set, List.length_cons, List.length_nil]; omega) ·) ?_
   refine dv (At.z 2 ·) ?_
   refine dv (AW.q 2 ·) ?_
   refine dv (AW.ret ·) ?_
   refine dv (⟨_, (Sub.trans (Sub.trans (Sub.trans (Sub.refl _ _) (Sub.mv 1 8001 (by kernel_rfl) (by decide))) (Sub.mv 2 8002 (by kernel_rfl) (by decide))) (Sub.mv 4 8004 (by kernel_rfl) (by decide))), ·⟩) ?_
   exact ⟨(r1_.1, r1_.2.1, (⟨r.id, r.of_, r.role, r.commit, r.hard, r.yes, r.next ++ ([1]), r.match_⟩ : Raft)), (by (try dsimp only); refine ⟨by omega, by omega, ?_⟩; unfold SmallR; (try dsimp only); (try simp only [List.length_append, List.length_cons, List.length_nil]); omega), KF.mk (.inr rfl) [(0, 0), (1, 1), (2, 2), (3, 3), (4, 4), (8001, 5), (8002, 6), (152, 7), (8004, 8)] [.agg [.int .i64 r.id, .int .i64 r.of_, .int .i64 r.role, .int .i64 r.commit, .int .i64 r.hard.term, .int .i64 r.hard.vote, .ref 8001, .ref 8002, .ref 152, .ref 8004]] (by kernel_rfl) (by kernel_rfl) (by kernel_rfl) (by kernel_rfl) (by kernel_rfl)⟩
 refine dv (AW.condF (r1_.2.2 == 5) (by kernel_rfl) (beq_eq_false_iff_ne.2 h6) ·) ?_
 refine dv (AW.q 2 ·) ?_
 by_cases h7 : r1_.2.2 = 6
 · refine dv (AW.condT (r1_.2.2 == 6) (by kernel_rfl) (beq_iff_eq.2 h7) ·) ?_
   refine dv (AW.g ·) ?_
   refine dv (At.a 1 ·) ?_
   refine Exists.elim (spec_l1Below_spec  (⟨c.data, r1_.1, r1_.2.1⟩ : Cur) 6 (by dsimp only; omega)) fun r2_ hr2_ => ?_
   have qr2_ := hr2_.1
   try dsimp only at qr2_
   refine dv (At.c (hr2_.2) Tryz.call143 true [(0, 0)] [] [] trivial ·) ?_
   refine dv (At.z 2 ·) ?_
   refine dv (AW.q 2 ·) ?_
   refine dv (AW.ret ·) ?_
   refine dv (⟨_, (Sub.trans (Sub.trans (Sub.trans (Sub.trans (Sub.refl _ _) (Sub.mv 1 8001 (by kernel_rfl) (by decide))) (Sub.mv 2 8002 (by kernel_rfl) (by decide))) (Sub.mv 3 8003 (by kernel_rfl) (by decide))) (Sub.mv 4 8004 (by kernel_rfl) (by decide))), ·⟩) ?_
   exact ⟨(r2_.1, r2_.2.1, (⟨r2_.2.2, r.of_, r.role, r.commit, r.hard, r.yes, r.next, r.match_⟩ : Raft)), (by (try dsimp only); refine ⟨by omega, by omega, ?_⟩; unfold SmallR; (try dsimp only); (try simp only [List.length_append, List.length_cons, List.length_nil]); omega), KF.mk (.inr rfl) [(0, 0), (1, 1), (2, 2), (3, 3), (4, 4), (8001, 5), (8002, 6), (8003, 7), (8004, 8)] [.agg [.int .i64 r2_.2.2, .int .i64 r.of_, .int .i64 r.role, .int .i64 r.commit, .int .i64 r.hard.term, .int .i64 r.hard.vote, .ref 8001, .ref 8002, .ref 8003, .ref 8004]] (by kernel_rfl) (by kernel_rfl) (by kernel_rfl) (by kernel_rfl) (by kernel_rfl)⟩
 refine dv (AW.condF (r1_.2.2 == 6) (by kernel_rfl) (beq_eq_false_iff_ne.2 h7) ·) ?_
 refine dv (AW.skip ·) ?_
 refine dv (AW.q 2 ·) ?_
 refine dv (AW.ret ·) ?_
 refine dv (⟨_, (Sub.trans (Sub.trans (Sub.trans (Sub.trans (Sub.refl _ _) (Sub.mv 1 8001 (by kernel_rfl) (by decide))) (Sub.mv 2 8002 (by kernel_rfl) (by decide))) (Sub.mv 3 8003 (by kernel_rfl) (by decide))) (Sub.mv 4 8004 (by kernel_rfl) (by decide))), ·⟩) ?_
 exact ⟨(r1_.1, r1_.2.1, r), (by (try dsimp only); refine ⟨by omega, by omega, ?_⟩; unfold SmallR; (try dsimp only); (try simp only [List.length_append, List.length_cons, List.length_nil]); omega), KF.mk (.inr rfl) [(0, 0), (1, 1), (2, 2), (3, 3), (4, 4), (8001, 5), (8002, 6), (8003, 7), (8004, 8)] [.agg [.int .i64 r.id, .int .i64 r.of_, .int .i64 r.role, .int .i64 r.commit, .int .i64 r.hard.term, .int .i64 r.hard.vote, .ref 8001, .ref 8002, .ref 8003, .ref 8004]] (by kernel_rfl) (by kernel_rfl) (by kernel_rfl) (by kernel_rfl) (by kernel_rfl)⟩
theorem spec_l10DrawLeader_spec  (code : List UInt8) (hc : code.length ≤ 1048576) : ∃ rho_ : Raft, (SmallR rho_) ∧ FnSpec Tryz.prog 79 [.sl false 1 (code.map encU8)] [] (.agg [.int .i64 rho_.id, .int .i64 rho_.of_, .int .i64 rho_.role, .int .i64 rho_.commit, .int .i64 rho_.hard.term, .int .i64 rho_.hard.vote, .ref 0, .ref 1, .ref 2, .ref 3]) [.arr 45 6 (rho_.hard.log.map encEnt), .arr 3 1 (rho_.yes.map encI), .arr 3 1 (rho_.next.map encI), .arr 3 1 (rho_.match_.map encI)] := by
 refine dv (fun h_ => FnSpec.of 43 Tryz.func79 rfl Tryz.ntmps79 (by simp) (AW.weakK h_)) ?_
 refine dv (AW.q 1 ·) ?_
 refine dv (AW.seq ·) ?_
 refine dv (AW.weak (Sub.nils [⟨true, 102, some 6, 5001, 45, 6⟩, ⟨true, 102, some 7, 5002, 3, 1⟩, ⟨true, 102, some 8, 5003, 3, 1⟩, ⟨true, 102, some 9, 5004, 3, 1⟩] (by kernel_rfl)) ·) ?_
 refine dv (AW.g ·) ?_
 refine dv (At.a 1 ·) ?_
 refine Exists.elim (spec_l1New_spec  code (by omega)) fun r1_ hr1_ => ?_
 have qr1_ := hr1_.1
 try dsimp only at qr1_
 refine dv (At.c (hr1_.2) Tryz.call56 true [] [(1180, 0)] [] trivial ·) ?_
 refine dv (At.z 1 ·) ?_
 refine dv (AW.r ·) ?_
 refine dv (At.a 2 ·) ?_
 refine dv (At.c (spec_l1Long_spec  code 40 90 (by omega) (by omega)) Tryz.call142 true [] [] [] trivial ·) ?_
 refine Exists.elim (spec_l10DrawNet_spec  (⟨code, 0, r1_⟩ : Cur) (min (40 + (code.length : Int) / 4) 90) (by dsimp only; omega) (by omega)) fun r2_ hr2_ => ?_
 have qr2_ := hr2_.1
 try dsimp only at qr2_
 refine dv (At.c (hr2_.2) Tryz.call141 true [(1180, 0)] [(1280, 1), (1281, 2)] [] trivial ·) ?_
 refine Exists.elim qr2_.2.2 fun n hne => ?_
 have hns := hne.2.2.1
 have hnl := hne.2.1
 have hno := hne.1
 refine dv (At.z 5 ·) ?_
 refine dv (AW.r ·) ?_
 refine dv (At.a 4 ·) ?_
 refine dv (At.sL 20 encRaft r2_.2.2.1 ·) ?_
 refine Exists.elim (spec_l1Below_spec  (⟨code, r2_.1, r2_.2.1⟩ : Cur) (r2_.2.2.1.length : Int) (by dsimp only; omega)) fun r3_ hr3_ => ?_
 have qr3_ := hr3_.1
 try dsimp only at qr3_
 refine dv (At.c (hr3_.2) Tryz.call143 true [(1180, 0)] [] [] trivial ·) ?_
 refine dv (At.iRf 142 22 (.tmp 17) (.tmp 21) 1280 (r2_.2.2.1.map encRaft) .i64 r3_.2.2 29 10 (by omega) (by simp only [List.length_map]; omega) ·) ?_
 refine Exists.elim (gE r2_.2.2.1 ((r3_.2.2).toNat) (by omega)) fun e1 he1 => ?_
 have hye1 := hns _ (List.mem_of_getElem? he1)
 have hnne1 := hye1.nums
 have hsme1 := hnne1.2.2.2.2.2
 have hoke1 := hye1.1
 refine dv (At.ldO 29 23 (.tmp 22) 1280 29 10 (r2_.2.2.1.map encRaft) ((r3_.2.2).toNat) [(6, 5005), (7, 5006), (8, 5007), (9, 5008)] true 10 (encRaft e1) (.agg [.int .i64 e1.id, .int .i64 e1.of_, .int .i64 e1.role, .int .i64 e1.commit, .int .i64 e1.hard.term, .int .i64 e1.hard.vote, .ref 5005, .ref 5006, .ref 5007, .ref 5008]) (mapGet he1) ·) ?_
 refine dv (At.z 2 ·) ?_
 refine dv (AW.seq ·) ?_
 refine dv (AW.q 1 ·) ?_
 refine dv (AW.block ·) ?_
 refine DW.loopQ (fun (x : Nat × Nat × Raft) => match x with | (i, j, q) => Go.Sy.mk [.un, .un, .ptr 102 0 0, .ptr 1180 0 0, .ref 1280, .un, .ptr 106 0 0, .int .i64 (i : Int)] [(102, .box 29 [.int .i64 0, .int .i64 0, .int .i64 0, .int .i64 0, .int .i64 0, .int .i64 0, .ref 5001, .ref 5002, .ref 5003, .ref 5004]), (106, .box 29 [.int .i64 q.id, .int .i64 q.of_, .int .i64 q.role, .int .i64 q.commit, .int .i64 q.hard.term, .int .i64 q.hard.vote, .ref 5005, .ref 5006, .ref 5007, .ref 5008]), (1180, .box 141 [.sl false 1 (code.map encU8), .int .i64 r3_.1, .int .i64 r3_.2.1]), (1280, .holes 29 10 ((r2_.2.2.1.map encRaft).set j (.agg [.int .i64 q.id, .int .i64 q.of_, .int .i64 q.role, .int .i64 q.commit, .int .i64 q.hard.term, .int .i64 q.hard.vote, .un, .un, .un, .un])) j [(9, 5008), (8, 5007), (7, 5006), (6, 5005)]), (5001, .arr 45 6 []), (5002, .arr 3 1 []), (5003, .arr 3 1 []), (5004, .arr 3 1 []), (5005, .arr 45 6 (q.hard.log.map encEnt)), (5006, .arr 3 1 (q.yes.map encI)), (5007, .arr 3 1 (q.next.map encI)), (5008, .arr 3 1 (q.match_.map encI))]) (fun (x : Nat × Nat × Raft) => match x with | (i, j, q) => i ≤ (r2_.2.2.1).length ∧ (r2_.2.2.1)[j]? = some q) (fun (x : Nat × Nat × Raft) => match x with | (i, j, q) => (r2_.2.2.1).length - i) (0, ((r3_.2.2).toNat), e1) ⟨by omega, he1⟩ (Sub.o [(102, 102), (106, 106), (1180, 1180), (1280, 1280), (5001, 5001), (5002, 5002), (5003, 5003), (5004, 5004), (5005, 5005), (5006, 5006), (5007, 5007), (5008, 5008)] [false, false, true, true, true, false, true, true]) ?_
 rintro ⟨i, j, q⟩ ⟨hq1, hq2⟩ ih1
 have hokq := (hns _ (List.mem_of_getElem? hq2)).1
 refine dv (AW.seq ·) ?_
 refine dv (AW.r ·) ?_
 refine dv (At.a 3 ·) ?_
 refine dv (At.say 26 (.int .i64 ((((r2_.2.2.1.map encRaft).set j (.agg [.int .i64 q.id, .int .i64 q.of_, .int .i64 q.role, .int .i64 q.commit, .int .i64 q.hard.term, .int .i64 q.hard.vote, .un, .un, .un, .un])).length : Nat) : Int)) (.int .i64 (r2_.2.2.1.length : Int)) (by kernel_rfl) (congrArg (V.int .i64) (by rw [List.length_set, List.length_map])) ·) ?_
 refine dv (At.z 1 ·) ?_
 by_cases h1 : (i : Int) < (r2_.2.2.1.length : Int)
 · refine dv (AW.condT (decide ((i : Int) < (r2_.2.2.1.length : Int))) (by kernel_rfl) (decide_eq_true h1) ·) ?_
   refine dv (AW.skip ·) ?_
   refine dv (AW.seq ·) ?_
   refine dv (AW.block ·) ?_
   refine dv (AW.r ·) ?_
   refine dv (At.a 2 ·) ?_
   refine dv (At.idxH 142 32 (.tmp 30) (.tmp 31) 1280 ((r2_.2.2.1.map encRaft).set j (.agg [.int .i64 q.id, .int .i64 q.of_, .int .i64 q.role, .int .i64 q.commit, .int .i64 q.hard.term, .int .i64 q.hard.vote, .un, .un, .un, .un])) j [(9, 5008), (8, 5007), (7, 5006), (6, 5005)] .i64 ((i : Int)) 29 10 (by omega) (by rw [List.length_set, List.length_map]; omega) ·) ?_
   refine dv (At.a 1 ·) ?_
   refine Exists.elim (gE r2_.2.2.1 i (by omega)) fun e2 he2 => ?_
   have hye2 := hns _ (List.mem_of_getElem? he2)
   have hnne2 := hye2.nums
   have hsme2 := hnne2.2.2.2.2.2
   have hoke2 := hye2.1
   refine Exists.elim (cell_at (f := encRaft) (y' := .agg [.int .i64 q.id, .int .i64 q.of_, .int .i64 q.role, .int .i64 q.commit, .int .i64 q.hard.term, .int .i64 q.hard.vote, .un, .un, .un, .un]) (m := 1) (off := 2) (v := .int .i64 e2.role) he2 hq2 (by kernel_rfl) (fun _ h => h)) fun y3 hy3 => ?_
   refine dv (At.ldHo 3 34 (.tmp 33) 1280 29 10 ((r2_.2.2.1.map encRaft).set j (.agg [.int .i64 q.id, .int .i64 q.of_, .int .i64 q.role, .int .i64 q.commit, .int .i64 q.hard.term, .int .i64 q.hard.vote, .un, .un, .un, .un])) j [(9, 5008), (8, 5007), (7, 5006), (6, 5005)] i 2 false 1 y3 (.int .i64 e2.role) hy3.1 · (hv := hy3.2)) ?_
   refine dv (At.z 1 ·) ?_
   by_cases h2 : e2.role = 3
   · refine dv (AW.condT (e2.role == 3) (by kernel_rfl) (beq_iff_eq.2 h2) ·) ?_
     refine dv (AW.weak (Sub.closeL 1280 j 29 10 ((r2_.2.2.1.map encRaft).set j (.agg [.int .i64 q.id, .int .i64 q.of_, .int .i64 q.role, .int .i64 q.commit, .int .i64 q.hard.term, .int .i64 q.hard.vote, .un, .un, .un, .un])) (r2_.2.2.1.map encRaft) [(9, 5008), (8, 5007), (7, 5006), (6, 5005)] (.agg [.int .i64 q.id, .int .i64 q.of_, .int .i64 q.role, .int .i64 q.commit, .int .i64 q.hard.term, .int .i64 q.hard.vote, .un, .un, .un, .un]) (encRaft q) [(3, 1, (q.match_.map encI)), (3, 1, (q.next.map encI)), (3, 1, (q.yes.map encI)), (45, 6, (q.hard.log.map encEnt))] (by kernel_rfl) (setGet (mapGet hq2)) (by kernel_rfl) (by kernel_rfl) (by intro p hp; simp only [List.mem_cons, List.not_mem_nil, or_false] at hp; rcases hp with rfl | rfl | rfl | rfl; all_goals first | exact flatEnts | exact flatInts | (intro x hx; cases hx)) (by kernel_rfl) (by kernel_rfl) (by rw [List.set_set]; exact set_self (mapGet hq2))) ·) ?_
     refine dv (AW.weak (Sub.openL 1280 i 29 10 (r2_.2.2.1.map encRaft) (encRaft e2) [(6, 5009), (7, 5010), (8, 5011), (9, 5012)] (by kernel_rfl) (mapGet he2) (by kernel_rfl)) ·) ?_
     refine dv (AW.g ·) ?_
     refine dv (At.a 2 ·) ?_
     refine dv (At.idxH 142 38 (.tmp 36) (.tmp 37) 1280 ((r2_.2.2.1.map encRaft).set i (.agg [.int .i64 e2.id, .int .i64 e2.of_, .int .i64 e2.role, .int .i64 e2.commit, .int .i64 e2.hard.term, .int .i64 e2.hard.vote, .un, .un, .un, .un])) i [(9, 5012), (8, 5011), (7, 5010), (6, 5009)] .i64 ((i : Int)) 29 10 (by omega) (by rw [List.length_set, List.length_map]; omega) ·) ?_
     refine dv (At.ldH 29 39 (.tmp 38) 1280 29 10 ((r2_.2.2.1.map encRaft).set i (.agg [.int .i64 e2.id, .int .i64 e2.of_, .int .i64 e2.role, .int .i64 e2.commit, .int .i64 e2.hard.term, .int .i64 e2.hard.vote, .un, .un, .un, .un])) i [(9, 5012), (8, 5011), (7, 5010), (6, 5009)] 0 true 10 (.agg [.int .i64 e2.id, .int .i64 e2.of_, .int .i64 e2.role, .int .i64 e2.commit, .int .i64 e2.hard.term, .int .i64 e2.hard.vote, .un, .un, .un, .un]) (.agg [.int .i64 e2.id, .int .i64 e2.of_, .int .i64 e2.role, .int .i64 e2.commit, .int .i64 e2.hard.term, .int .i64 e2.hard.vote, .ref 5009, .ref 5010, .ref 5011, .ref 5012]) (setGet (mapGet he2)) ·) ?_
     refine dv (At.z 1 ·) ?_
     refine dv (AW.g ·) ?_
     refine dv (At.a 2 ·) ?_
     refine dv (At.sI 29 ((i : Int) + 1) (by omega) ·) ?_
     refine dv (At.z 1 ·) ?_
     exact dw (fun _ h_ => AWL.weak (Sub.o [(102, 102), (106, 106), (1180, 1180), (1280, 1280), (5001, 5001), (5002, 5002), (5003, 5003), (5004, 5004), (5009, 5005), (5010, 5006), (5011, 5007), (5012, 5008)] [false, false, true, true, true, false, true, true]) h_) (ih1 (i + 1, i, e2) (⟨by omega, he2⟩) (by simp only; omega))
   refine dv (AW.condF (e2.role == 3) (by kernel_rfl) (beq_eq_false_iff_ne.2 h2) ·) ?_
   refine dv (AW.skip ·) ?_
   refine dv (AW.g ·) ?_
   refine dv (At.a 2 ·) ?_
   refine dv (At.sI 29 ((i : Int) + 1) (by omega) ·) ?_
   refine dv (At.z 1 ·) ?_
   exact dw (fun _ h_ => AWL.weak (Sub.o [(102, 102), (106, 106), (1180, 1180), (1280, 1280), (5001, 5001), (5002, 5002), (5003, 5003), (5004, 5004), (5005, 5005), (5006, 5006), (5007, 5007), (5008, 5008)] [false, false, true, true, true, false, true, true]) h_) (ih1 (i + 1, j, q) (⟨by omega, hq2⟩) (by simp only; omega))
 refine dv (AW.condF (decide ((i : Int) < (r2_.2.2.1.length : Int))) (by kernel_rfl) (decide_eq_false h1) ·) ?_
 refine dv (AW.exit ·) ?_
 refine dv (AW.r ·) ?_
 refine dv (At.a 2 ·) ?_
 refine Exists.elim (spec_l10Spoil_spec  (⟨code, r3_.1, r3_.2.1⟩ : Cur) q (by dsimp only; omega) (by assumption)) fun r4_ hr4_ => ?_
 have qr4_ := hr4_.1
 try dsimp only at qr4_
 refine dv (At.c (hr4_.2) Tryz.call146 true [(1180, 0), (5005, 1), (5006, 2), (5007, 3), (5008, 4)] [(1840, 5), (1841, 6), (1842, 7), (1843, 8)] [] trivial ·) ?_
 have hsp := qr4_.2.2
 refine dv (At.z 1 ·) ?_
 refine dv (AW.ret ·) ?_
 refine dv (⟨_, Sub.refl _ _, ·⟩) ?_
 exact ⟨(r4_.2.2), hsp, KF.mk (.inr rfl) [(1840, 0), (1841, 1), (1842, 2), (1843, 3)] [.agg [.int .i64 r4_.2.2.id, .int .i64 r4_.2.2.of_, .int .i64 r4_.2.2.role, .int .i64 r4_.2.2.commit, .int .i64 r4_.2.2.hard.term, .int .i64 r4_.2.2.hard.vote, .ref 1840, .ref 1841, .ref 1842, .ref 1843]] (by kernel_rfl) (by kernel_rfl) (by kernel_rfl) (by kernel_rfl) (by kernel_rfl)⟩
theorem spec_DrawRaftBeat_spec  (code : List UInt8) (hc : code.length ≤ 1048576) : ∃ rho_ : Raft, (SmallR rho_) ∧ FnSpec Tryz.prog 23 [.sl false 1 (code.map encU8)] [] (.agg [.int .i64 rho_.id, .int .i64 rho_.of_, .int .i64 rho_.role, .int .i64 rho_.commit, .int .i64 rho_.hard.term, .int .i64 rho_.hard.vote, .ref 0, .ref 1, .ref 2, .ref 3]) [.arr 45 6 (rho_.hard.log.map encEnt), .arr 3 1 (rho_.yes.map encI), .arr 3 1 (rho_.next.map encI), .arr 3 1 (rho_.match_.map encI)] := by
 refine dv (fun h_ => FnSpec.of 5 Tryz.func23 rfl Tryz.ntmps23 (by simp) (AW.weakK h_)) ?_
 refine dv (AW.q 1 ·) ?_
 refine dv (AW.seq ·) ?_
 refine dv (AW.weak (Sub.nils [⟨true, 102, some 6, 5001, 45, 6⟩, ⟨true, 102, some 7, 5002, 3, 1⟩, ⟨true, 102, some 8, 5003, 3, 1⟩, ⟨true, 102, some 9, 5004, 3, 1⟩] (by kernel_rfl)) ·) ?_
 refine dv (AW.g ·) ?_
 refine dv (At.a 1 ·) ?_
 refine Exists.elim (spec_l10DrawLeader_spec  code hc) fun r1_ hr1_ => ?_
 have qr1_ := hr1_.1
 try dsimp only at qr1_
 refine dv (At.c (hr1_.2) Tryz.call79 true [] [(1080, 0), (1081, 1), (1082, 2), (1083, 3)] [] trivial ·) ?_
 refine dv (At.z 1 ·) ?_
 refine dv (AW.ret ·) ?_
 refine dv (⟨_, Sub.refl _ _, ·⟩) ?_
 exact ⟨(r1_), (by exact qr1_), KF.mk (.inr rfl) [(1080, 0), (1081, 1), (1082, 2), (1083, 3)] [.agg [.int .i64 r1_.id, .int .i64 r1_.of_, .int .i64 r1_.role, .int .i64 r1_.commit, .int .i64 r1_.hard.term, .int .i64 r1_.hard.vote, .ref 1080, .ref 1081, .ref 1082, .ref 1083]] (by kernel_rfl) (by kernel_rfl) (by kernel_rfl) (by kernel_rfl) (by kernel_rfl)⟩
theorem impl_copyLog_spec  (l : List Ent) (hl : l.length ≤ 1048576) : FnSpec Tryz.prog 162 [.sl false 6 (l.map encEnt)] [] (.ref 0) [.arr 45 6 (l.map encEnt)] := by
 refine FnSpec.of 6 Tryz.func162 rfl Tryz.ntmps162 (by simp) (AW.weakK ?_)
 refine AW.q 1 ?_
 refine AW.r ?_
 refine At.lit0 (t := 24) (d := 3) (e := 45) (es := 6) (bytes := 56) 103 (by kernel_rfl) (by kernel_rfl) (by kernel_rfl) (by kernel_rfl) ?_
 refine At.a 1 ?_
 refine At.append (t := 24) (d := 5) (e := 45) (es := 6) (bytes := 56) (s := .tmp 3) (x := .tmp 4) (S := .ref 103) (T := .sl false 6 (l.map encEnt)) (xs := []) (ys := (l.map encEnt)) 105 [103] [] (l.map encEnt) (by kernel_rfl) (by kernel_rfl) (by kernel_rfl) (by kernel_rfl) ⟨by kernel_rfl, rfl⟩ ⟨rfl, rfl, (allP_encEnt _), rfl⟩ (by kernel_rfl) (by kernel_rfl) (by simp) (by simp only [List.length_map, List.length_append, List.length_take, List.length_drop, List.length_replicate, List.length_set, List.length_cons, List.length_nil]; omega) (by simp only [List.length_map, List.length_append, List.length_take, List.length_drop, List.length_replicate, List.length_set, List.length_cons, List.length_nil]; omega) ?_
 refine At.z 1 ?_
 exact AW.ret (rf (KF.n [(105, 0)]))
theorem impl_copyHard_spec  (h : Hard) (hl : h.log.length ≤ 1048576) : FnSpec Tryz.prog 175 [.agg [.int .i64 h.term, .int .i64 h.vote, .sl false 6 (h.log.map encEnt)]] [] (.agg [.int .i64 h.term, .int .i64 h.vote, .ref 0]) [.arr 45 6 (h.log.map encEnt)] := by
 refine FnSpec.of 8 Tryz.func175 rfl Tryz.ntmps175 (by simp) (AW.weakK ?_)
 refine AW.q 2 ?_
 refine AW.seq ?_
 refine AW.weak (Sub.nils [⟨true, 102, some 2, 5001, 45, 6⟩] (by kernel_rfl)) ?_
 refine AW.g ?_
 refine At.a 2 ?_
 refine At.c (impl_copyLog_spec  h.log (by omega)) Tryz.call162 true [] [(1100, 0)] [] trivial ?_
 refine At.z 2 ?_
 refine AW.q 2 ?_
 exact AW.ret (rf (KF.n [(1100, 0)]))
theorem impl_copyInts_spec  (l : List Int) (hl : l.length ≤ 1048576) : FnSpec Tryz.prog 176 [.sl false 1 (l.map encI)] [] (.ref 0) [.arr 3 1 (l.map encI)] := by
 refine FnSpec.of 6 Tryz.func176 rfl Tryz.ntmps176 (by simp) (AW.weakK ?_)
 refine AW.q 1 ?_
 refine AW.r ?_
 refine At.lit0 (t := 27) (d := 3) (e := 3) (es := 1) (bytes := 8) 103 (by kernel_rfl) (by kernel_rfl) (by kernel_rfl) (by kernel_rfl) ?_
 refine At.a 1 ?_
 refine At.append (t := 27) (d := 5) (e := 3) (es := 1) (bytes := 8) (s := .tmp 3) (x := .tmp 4) (S := .ref 103) (T := .sl false 1 (l.map encI)) (xs := []) (ys := (l.map encI)) 105 [103] [] (l.map encI) (by kernel_rfl) (by kernel_rfl) (by kernel_rfl) (by kernel_rfl) ⟨by kernel_rfl, rfl⟩ ⟨rfl, rfl, (allP_encI _), rfl⟩ (by kernel_rfl) (by kernel_rfl) (by simp) (by simp only [List.length_map, List.length_append, List.length_take, List.length_drop, List.length_replicate, List.length_set, List.length_cons, List.length_nil]; omega) (by simp only [List.length_map, List.length_append, List.length_take, List.length_drop, List.length_replicate, List.length_set, List.length_cons, List.length_nil]; omega) ?_
 refine At.z 1 ?_
 exact AW.ret (rf (KF.n [(105, 0)]))
theorem impl_copyRaft_spec  (r : Raft) (hz : SmallR r) : FnSpec Tryz.prog 157 [(raftA r)] [] (.agg [.int .i64 r.id, .int .i64 r.of_, .int .i64 r.role, .int .i64 r.commit, .int .i64 r.hard.term, .int .i64 r.hard.vote, .ref 0, .ref 1, .ref 2, .ref 3]) [.arr 45 6 (r.hard.log.map encEnt), .arr 3 1 (r.yes.map encI), .arr 3 1 (r.next.map encI), .arr 3 1 (r.match_.map encI)] := by
 obtain ⟨z1, z2, z3, z4⟩ := id hz
 refine FnSpec.of 20 Tryz.func157 rfl Tryz.ntmps157 (by simp) (AW.weakK ?_)
 refine AW.q 2 ?_
 refine AW.seq ?_
 refine AW.weak (Sub.nils [⟨true, 102, some 6, 5001, 45, 6⟩, ⟨true, 102, some 7, 5002, 3, 1⟩, ⟨true, 102, some 8, 5003, 3, 1⟩, ⟨true, 102, some 9, 5004, 3, 1⟩] (by kernel_rfl)) ?_
 refine AW.g ?_
 refine At.a 2 ?_
 refine At.c (impl_copyHard_spec  r.hard (by omega)) Tryz.call175 true [] [(1100, 0)] [] trivial ?_
 refine At.z 2 ?_
 refine AW.seq ?_
 refine AW.gD Tryz_mix ?_
 refine At.a 2 ?_
 refine At.c (impl_copyInts_spec  r.yes (by omega)) Tryz.call176 true [] [(1180, 0)] [] trivial ?_
 refine At.a 2 ?_
 refine At.c (impl_copyInts_spec  r.next (by omega)) Tryz.call176 true [] [(1240, 0)] [] trivial ?_
 refine At.a 2 ?_
 refine At.c (impl_copyInts_spec  r.match_ (by omega)) Tryz.call176 true [] [(1300, 0)] [] trivial ?_
 refine At.zD 6 ?_
 refine AW.q 2 ?_
 exact AW.ret (rf (KF.n [(1100, 0), (1180, 1), (1240, 2), (1300, 3)]))
theorem impl_stepOf_spec  (r : Raft) (hz : SmallR r) : FnSpec Tryz.prog 80 [(raftA r)] [] (.ptr 0 0 0) [.box 102 [.int .i64 r.id, .int .i64 r.of_, .int .i64 r.role, .int .i64 r.commit, .int .i64 r.hard.term, .int .i64 r.hard.vote, .ref 1, .ref 2, .ref 3, .ref 4, .int .i64 r.id, .int .i64 r.of_, .int .i64 r.role, .int .i64 r.commit, .int .i64 r.hard.term, .int .i64 r.hard.vote, .sl false 6 (r.hard.log.map encEnt), .sl false 1 (r.yes.map encI), .sl false 1 (r.next.map encI), .sl false 1 (r.match_.map encI), .ref 5, .ref 6], .arr 45 6 (r.hard.log.map encEnt), .arr 3 1 (r.yes.map encI), .arr 3 1 (r.next.map encI), .arr 3 1 (r.match_.map encI), .arr 47 10 [], .arr 51 17 []] := by
 obtain ⟨z1, z2, z3, z4⟩ := id hz
 refine FnSpec.of 8 Tryz.func80 rfl Tryz.ntmps80 (by simp) (AW.weakK ?_)
 refine AW.q 2 ?_
 refine AW.seq ?_
 refine AW.gD Tryz_mix ?_
 refine At.a 1 ?_
 refine At.c (impl_copyRaft_spec  r (by omega)) Tryz.call157 true [] [(1080, 0), (1081, 1), (1082, 2), (1083, 3)] [] trivial ?_
 refine At.zD 4 ?_
 refine AW.ret ?_
 refine ⟨_, Sub.nils [⟨true, 107, some 20, 5001, 47, 10⟩, ⟨true, 107, some 21, 5002, 51, 17⟩] (by kernel_rfl), ?_⟩
 exact KF.n [(107, 0), (1080, 1), (1081, 2), (1082, 3), (1083, 4), (5001, 5), (5002, 6)]
theorem impl_isOf_spec  (of : Int) : FnSpec Tryz.prog 68 [.int .i64 of] [] (.bool (ofOk of)) [] := by
 refine FnSpec.of 13 Tryz.func68 rfl Tryz.ntmps68 (by simp) (AW.weakK ?_)
 refine AW.q 1 ?_
 refine AW.r ?_
 refine At.a 3 ?_
 by_cases h1 : of = 1
 · refine At.sB 5 _ _ (sayET h1) ?_
   refine At.z 8 ?_
   refine AW.ret ?_
   refine ⟨_, Sub.refl _ _, ?_⟩
   refine KF.conv (fun w => .bool w) (fun w => []) (show (true) = (ofOk of) from by simp_all [ofOk]) ?_
   exact KF.n []
 refine At.sB 5 _ _ (sayEF h1) ?_
 refine At.a 4 ?_
 by_cases h2 : of = 3
 · refine At.sB 9 _ _ (sayET h2) ?_
   refine At.z 4 ?_
   refine AW.ret ?_
   refine ⟨_, Sub.refl _ _, ?_⟩
   refine KF.conv (fun w => .bool w) (fun w => []) (show (true) = (ofOk of) from by simp_all [ofOk]) ?_
   exact KF.n []
 refine At.sB 9 _ _ (sayEF h2) ?_
 refine At.z 4 ?_
 refine AW.ret ?_
 refine ⟨_, Sub.refl _ _, ?_⟩
 refine KF.conv (fun w => .bool w) (fun w => []) (show (of == 5) = (ofOk of) from by simp_all [ofOk]) ?_
 exact KF.n []
theorem impl_within_spec  (n : Int) (low : Int) (high : Int) : FnSpec Tryz.prog 69 [.int .i64 n, .int .i64 low, .int .i64 high] [] (.bool (inR n low high)) [] := by
 refine FnSpec.of 15 Tryz.func69 rfl Tryz.ntmps69 (by simp) (AW.weakK ?_)
 refine AW.q 1 ?_
 refine AW.r ?_
 refine At.a 4 ?_
 by_cases h1 : n ≥ low
 · refine At.sB 10 _ _ (sayT h1) ?_
   refine At.z 5 ?_
   refine AW.ret ?_
   refine ⟨_, Sub.refl _ _, ?_⟩
   refine KF.conv (fun w => .bool w) (fun w => []) (show (decide (n ≤ high)) = (inR n low high) from by simp [inR, *]) ?_
   exact KF.n []
 refine At.sB 10 _ _ (sayF h1) ?_
 refine At.z 5 ?_
 refine AW.ret ?_
 refine ⟨_, Sub.refl _ _, ?_⟩
 refine KF.conv (fun w => .bool w) (fun w => []) (show (false) = (inR n low high) from by simp [inR, *]) ?_
 exact KF.n []
theorem impl_isRelease_spec  (n : Int) : FnSpec Tryz.prog 153 [.int .i64 n] [] (.bool (inR n 1 1000)) [] := by
 refine FnSpec.of 5 Tryz.func153 rfl Tryz.ntmps153 (by simp) (AW.weakK ?_)
 refine AW.q 1 ?_
 refine AW.r ?_
 refine At.a 1 ?_
 refine At.c (impl_within_spec  n 1 1000 ) Tryz.call69 true [] [] [] trivial ?_
 refine At.z 1 ?_
 exact AW.ret (rf (KF.n []))
theorem impl_isSize_spec  (n : Int) : FnSpec Tryz.prog 154 [.int .i64 n] [] (.bool (inR n 0 1000)) [] := by
 refine FnSpec.of 5 Tryz.func154 rfl Tryz.ntmps154 (by simp) (AW.weakK ?_)
 refine AW.q 1 ?_
 refine AW.r ?_
 refine At.a 1 ?_
 refine At.c (impl_within_spec  n 0 1000 ) Tryz.call69 true [] [] [] trivial ?_
 refine At.z 1 ?_
 exact AW.ret (rf (KF.n []))
theorem impl_isNode_spec  (n : Int) : FnSpec Tryz.prog 152 [.int .i64 n] [] (.bool (inR n 0 4)) [] := by
 refine FnSpec.of 5 Tryz.func152 rfl Tryz.ntmps152 (by simp) (AW.weakK ?_)
 refine AW.q 1 ?_
 refine AW.r ?_
 refine At.a 1 ?_
 refine At.c (impl_within_spec  n 0 4 ) Tryz.call69 true [] [] [] trivial ?_
 refine At.z 1 ?_
 exact AW.ret (rf (KF.n []))
def K_impl_CmdOk (rs : List ResultVar) (c : Cmd) (w0_ : Bool) : Exit → Sg → Prop := KF Tryz.prog 0 rs (.bool w0_) []
theorem impl_CmdOk_spec  (c : Cmd) : FnSpec Tryz.prog 101 [.agg [.int .i64 c.kind, .int .i64 c.release, .int .i64 c.node, .int .i64 c.size, .str c.digest]] [] (.bool (cmdOk c)) [] := by
 refine FnSpec.of 52 Tryz.func101 rfl Tryz.ntmps101 (by simp) (AW.weakK ?_)
 refine AW.q 2 ?_
 refine AW.q 3 ?_
 refine AW.q 4 ?_
 refine AW.r ?_
 refine At.a 2 ?_
 refine At.c (impl_isRelease_spec  c.release ) Tryz.call153 true [] [] [] trivial ?_
 refine At.z 1 ?_
 refine AW.seq ?_
 refine AW.q 2 ?_
 refine AW.block ?_
 refine AW.q 2 ?_
 refine AW.cE c.kind (1 : Int) (fun h1 => ?_) (fun h1 => ?_)
 · refine AW.gq 4 ?_
   refine AW.r ?_
   refine At.a 2 ?_
   by_cases h2 : c.release = 0
   · refine At.sB 47 _ _ (sayET h2) ?_
     refine At.a 2 ?_
     refine At.eqA (t := 31) (u := 31) (d := 50) (op := .eql) (x := .tmp 48) (y := .tmp 49) (X := [.int .i64 0, .int .i64 0, .int .i64 c.node, .int .i64 c.size, .str c.digest]) (Y := [.int .i64 0, .int .i64 0, .int .i64 0, .int .i64 0, .str (⟨#[]⟩ : ByteArray)]) (cmdEq (⟨0, 0, c.node, c.size, c.digest⟩ : Cmd) (⟨0, 0, 0, 0, (⟨#[]⟩ : ByteArray)⟩ : Cmd)) (by kernel_rfl) (by kernel_rfl) (by kernel_rfl) (by kernel_rfl) (by kernel_rfl) (.bool (cmdEq (⟨0, 0, c.node, c.size, c.digest⟩ : Cmd) (⟨0, 0, 0, 0, (⟨#[]⟩ : ByteArray)⟩ : Cmd))) (.inl ⟨rfl, rfl⟩) ?_
     refine At.z 2 ?_
     exact AW.ret (rf (k1 (K_impl_CmdOk _ c) (show (cmdEq (⟨0, 0, c.node, c.size, c.digest⟩ : Cmd) (⟨0, 0, 0, 0, (⟨#[]⟩ : ByteArray)⟩ : Cmd)) = (cmdOk c) from by (try simp only [inR_iff, inR_not] at *); rw [Bool.eq_iff_iff]; simp only [cmdOk, cmdEq, noBytes]; (repeat' split) <;> (try simp [inR_iff]) <;> grind) (KF.n [])))
   refine At.sB 47 _ _ (sayEF h2) ?_
   refine At.z 5 ?_
   exact AW.ret (rf (k1 (K_impl_CmdOk _ c) (show (false) = (cmdOk c) from by (try simp only [inR_iff, inR_not] at *); rw [Bool.eq_iff_iff]; simp only [cmdOk, cmdEq, noBytes]; (repeat' split) <;> (try simp [inR_iff]) <;> grind) (KF.n [])))
 refine AW.q 2 ?_
 refine AW.cE c.kind (2 : Int) (fun h3 => ?_) (fun h3 => ?_)
 · refine AW.r ?_
   refine At.a 2 ?_
   by_cases h4 : (inR c.release 1 1000) = true
   · refine At.sB 21 (inR c.release 1 1000) true (sayB h4) ?_
     refine At.a 2 ?_
     refine At.c (impl_isSize_spec  c.size ) Tryz.call154 true [] [] [] trivial ?_
     refine At.a 2 ?_
     by_cases h5 : (inR c.size 0 1000) = true
     · refine At.sB 26 (inR c.size 0 1000) true (sayB h5) ?_
       refine At.z 6 ?_
       refine AW.gq 4 ?_
       refine AW.r ?_
       refine At.a 2 ?_
       by_cases h6 : (c.digest.size : Int) = 32
       · refine At.sB 47 _ _ (sayET h6) ?_
         refine At.a 2 ?_
         refine At.eqA (t := 31) (u := 31) (d := 50) (op := .eql) (x := .tmp 48) (y := .tmp 49) (X := [.int .i64 0, .int .i64 0, .int .i64 c.node, .int .i64 0, .str (⟨#[]⟩ : ByteArray)]) (Y := [.int .i64 0, .int .i64 0, .int .i64 0, .int .i64 0, .str (⟨#[]⟩ : ByteArray)]) (cmdEq (⟨0, 0, c.node, 0, (⟨#[]⟩ : ByteArray)⟩ : Cmd) (⟨0, 0, 0, 0, (⟨#[]⟩ : ByteArray)⟩ : Cmd)) (by kernel_rfl) (by kernel_rfl) (by kernel_rfl) (by kernel_rfl) (by kernel_rfl) (.bool (cmdEq (⟨0, 0, c.node, 0, (⟨#[]⟩ : ByteArray)⟩ : Cmd) (⟨0, 0, 0, 0, (⟨#[]⟩ : ByteArray)⟩ : Cmd))) (.inl ⟨rfl, rfl⟩) ?_
         refine At.z 2 ?_
         exact AW.ret (rf (k1 (K_impl_CmdOk _ c) (show (cmdEq (⟨0, 0, c.node, 0, (⟨#[]⟩ : ByteArray)⟩ : Cmd) (⟨0, 0, 0, 0, (⟨#[]⟩ : ByteArray)⟩ : Cmd)) = (cmdOk c) from by (try simp only [inR_iff, inR_not] at *); rw [Bool.eq_iff_iff]; simp only [cmdOk, cmdEq, noBytes]; (repeat' split) <;> (try simp [inR_iff]) <;> grind) (KF.n [])))
       refine At.sB 47 _ _ (sayEF h6) ?_
       refine At.z 5 ?_
       exact AW.ret (rf (k1 (K_impl_CmdOk _ c) (show (false) = (cmdOk c) from by (try simp only [inR_iff, inR_not] at *); rw [Bool.eq_iff_iff]; simp only [cmdOk, cmdEq, noBytes]; (repeat' split) <;> (try simp [inR_iff]) <;> grind) (KF.n [])))
     refine At.sB 26 (inR c.size 0 1000) false (sayB (Bool.eq_false_iff.2 h5)) ?_
     replace h5 := Bool.eq_false_iff.2 h5
     refine At.z 6 ?_
     refine AW.gq 4 ?_
     refine AW.q 7 ?_
     exact AW.ret (rf (k1 (K_impl_CmdOk _ c) (show (false) = (cmdOk c) from by (try simp only [inR_iff, inR_not] at *); rw [Bool.eq_iff_iff]; simp only [cmdOk, cmdEq, noBytes]; (repeat' split) <;> (try simp [inR_iff]) <;> grind) (KF.n [])))
   refine At.sB 21 (inR c.release 1 1000) false (sayB (Bool.eq_false_iff.2 h4)) ?_
   replace h4 := Bool.eq_false_iff.2 h4
   refine At.z 11 ?_
   refine AW.gq 4 ?_
   refine AW.q 7 ?_
   exact AW.ret (rf (k1 (K_impl_CmdOk _ c) (show (false) = (cmdOk c) from by (try simp only [inR_iff, inR_not] at *); rw [Bool.eq_iff_iff]; simp only [cmdOk, cmdEq, noBytes]; (repeat' split) <;> (try simp [inR_iff]) <;> grind) (KF.n [])))
 refine AW.q 2 ?_
 refine AW.cE c.kind (3 : Int) (fun h7 => ?_) (fun h7 => ?_)
 · refine AW.r ?_
   refine At.a 2 ?_
   by_cases h8 : (inR c.release 1 1000) = true
   · refine At.sB 37 (inR c.release 1 1000) true (sayB h8) ?_
     refine At.a 2 ?_
     refine At.c (impl_isNode_spec  c.node ) Tryz.call152 true [] [] [] trivial ?_
     refine At.z 2 ?_
     refine AW.gq 2 ?_
     refine AW.r ?_
     refine At.a 2 ?_
     by_cases h9 : (inR c.node 0 4) = true
     · refine At.sB 47 (inR c.node 0 4) true (sayB h9) ?_
       refine At.a 2 ?_
       refine At.eqA (t := 31) (u := 31) (d := 50) (op := .eql) (x := .tmp 48) (y := .tmp 49) (X := [.int .i64 0, .int .i64 0, .int .i64 0, .int .i64 c.size, .str c.digest]) (Y := [.int .i64 0, .int .i64 0, .int .i64 0, .int .i64 0, .str (⟨#[]⟩ : ByteArray)]) (cmdEq (⟨0, 0, 0, c.size, c.digest⟩ : Cmd) (⟨0, 0, 0, 0, (⟨#[]⟩ : ByteArray)⟩ : Cmd)) (by kernel_rfl) (by kernel_rfl) (by kernel_rfl) (by kernel_rfl) (by kernel_rfl) (.bool (cmdEq (⟨0, 0, 0, c.size, c.digest⟩ : Cmd) (⟨0, 0, 0, 0, (⟨#[]⟩ : ByteArray)⟩ : Cmd))) (.inl ⟨rfl, rfl⟩) ?_
       refine At.z 2 ?_
       exact AW.ret (rf (k1 (K_impl_CmdOk _ c) (show (cmdEq (⟨0, 0, 0, c.size, c.digest⟩ : Cmd) (⟨0, 0, 0, 0, (⟨#[]⟩ : ByteArray)⟩ : Cmd)) = (cmdOk c) from by (try simp only [inR_iff, inR_not] at *); rw [Bool.eq_iff_iff]; simp only [cmdOk, cmdEq, noBytes]; (repeat' split) <;> (try simp [inR_iff]) <;> grind) (KF.n [])))
     refine At.sB 47 (inR c.node 0 4) false (sayB (Bool.eq_false_iff.2 h9)) ?_
     replace h9 := Bool.eq_false_iff.2 h9
     refine At.z 5 ?_
     exact AW.ret (rf (k1 (K_impl_CmdOk _ c) (show (false) = (cmdOk c) from by (try simp only [inR_iff, inR_not] at *); rw [Bool.eq_iff_iff]; simp only [cmdOk, cmdEq, noBytes]; (repeat' split) <;> (try simp [inR_iff]) <;> grind) (KF.n [])))
   refine At.sB 37 (inR c.release 1 1000) false (sayB (Bool.eq_false_iff.2 h8)) ?_
   replace h8 := Bool.eq_false_iff.2 h8
   refine At.z 5 ?_
   refine AW.gq 2 ?_
   refine AW.q 7 ?_
   exact AW.ret (rf (k1 (K_impl_CmdOk _ c) (show (false) = (cmdOk c) from by (try simp only [inR_iff, inR_not] at *); rw [Bool.eq_iff_iff]; simp only [cmdOk, cmdEq, noBytes]; (repeat' split) <;> (try simp [inR_iff]) <;> grind) (KF.n [])))
 refine AW.seq ?_
 refine AW.q 2 ?_
 refine AW.cE c.kind (4 : Int) (fun h10 => ?_) (fun h10 => ?_)
 · refine AW.skip ?_
   refine AW.cE c.kind (4 : Int) (fun h11 => ?_) (fun h11 => ?_)
   · refine AW.skip ?_
     refine AW.r ?_
     refine At.a 2 ?_
     by_cases h12 : (inR c.release 1 1000) = true
     · refine At.sB 47 (inR c.release 1 1000) true (sayB h12) ?_
       refine At.a 2 ?_
       refine At.eqA (t := 31) (u := 31) (d := 50) (op := .eql) (x := .tmp 48) (y := .tmp 49) (X := [.int .i64 0, .int .i64 0, .int .i64 c.node, .int .i64 c.size, .str c.digest]) (Y := [.int .i64 0, .int .i64 0, .int .i64 0, .int .i64 0, .str (⟨#[]⟩ : ByteArray)]) (cmdEq (⟨0, 0, c.node, c.size, c.digest⟩ : Cmd) (⟨0, 0, 0, 0, (⟨#[]⟩ : ByteArray)⟩ : Cmd)) (by kernel_rfl) (by kernel_rfl) (by kernel_rfl) (by kernel_rfl) (by kernel_rfl) (.bool (cmdEq (⟨0, 0, c.node, c.size, c.digest⟩ : Cmd) (⟨0, 0, 0, 0, (⟨#[]⟩ : ByteArray)⟩ : Cmd))) (.inl ⟨rfl, rfl⟩) ?_
       refine At.z 2 ?_
       exact AW.ret (rf (k1 (K_impl_CmdOk _ c) (show (cmdEq (⟨0, 0, c.node, c.size, c.digest⟩ : Cmd) (⟨0, 0, 0, 0, (⟨#[]⟩ : ByteArray)⟩ : Cmd)) = (cmdOk c) from by (try simp only [inR_iff, inR_not] at *); rw [Bool.eq_iff_iff]; simp only [cmdOk, cmdEq, noBytes]; (repeat' split) <;> (try simp [inR_iff]) <;> grind) (KF.n [])))
     refine At.sB 47 (inR c.release 1 1000) false (sayB (Bool.eq_false_iff.2 h12)) ?_
     replace h12 := Bool.eq_false_iff.2 h12
     refine At.z 5 ?_
     exact AW.ret (rf (k1 (K_impl_CmdOk _ c) (show (false) = (cmdOk c) from by (try simp only [inR_iff, inR_not] at *); rw [Bool.eq_iff_iff]; simp only [cmdOk, cmdEq, noBytes]; (repeat' split) <;> (try simp [inR_iff]) <;> grind) (KF.n [])))
   refine AW.q 1 ?_
   exact AW.ret (rf (k1 (K_impl_CmdOk _ c) (show (false) = (cmdOk c) from by (try simp only [inR_iff, inR_not] at *); rw [Bool.eq_iff_iff]; simp only [cmdOk, cmdEq, noBytes]; (repeat' split) <;> (try simp [inR_iff]) <;> grind) (KF.n [])))
 refine AW.gq 2 ?_
 refine AW.cE c.kind (5 : Int) (fun h13 => ?_) (fun h13 => ?_)
 · refine AW.skip ?_
   refine AW.r ?_
   refine At.a 2 ?_
   by_cases h14 : (inR c.release 1 1000) = true
   · refine At.sB 47 (inR c.release 1 1000) true (sayB h14) ?_
     refine At.a 2 ?_
     refine At.eqA (t := 31) (u := 31) (d := 50) (op := .eql) (x := .tmp 48) (y := .tmp 49) (X := [.int .i64 0, .int .i64 0, .int .i64 c.node, .int .i64 c.size, .str c.digest]) (Y := [.int .i64 0, .int .i64 0, .int .i64 0, .int .i64 0, .str (⟨#[]⟩ : ByteArray)]) (cmdEq (⟨0, 0, c.node, c.size, c.digest⟩ : Cmd) (⟨0, 0, 0, 0, (⟨#[]⟩ : ByteArray)⟩ : Cmd)) (by kernel_rfl) (by kernel_rfl) (by kernel_rfl) (by kernel_rfl) (by kernel_rfl) (.bool (cmdEq (⟨0, 0, c.node, c.size, c.digest⟩ : Cmd) (⟨0, 0, 0, 0, (⟨#[]⟩ : ByteArray)⟩ : Cmd))) (.inl ⟨rfl, rfl⟩) ?_
     refine At.z 2 ?_
     exact AW.ret (rf (k1 (K_impl_CmdOk _ c) (show (cmdEq (⟨0, 0, c.node, c.size, c.digest⟩ : Cmd) (⟨0, 0, 0, 0, (⟨#[]⟩ : ByteArray)⟩ : Cmd)) = (cmdOk c) from by (try simp only [inR_iff, inR_not] at *); rw [Bool.eq_iff_iff]; simp only [cmdOk, cmdEq, noBytes]; (repeat' split) <;> (try simp [inR_iff]) <;> grind) (KF.n [])))
   refine At.sB 47 (inR c.release 1 1000) false (sayB (Bool.eq_false_iff.2 h14)) ?_
   replace h14 := Bool.eq_false_iff.2 h14
   refine At.z 5 ?_
   exact AW.ret (rf (k1 (K_impl_CmdOk _ c) (show (false) = (cmdOk c) from by (try simp only [inR_iff, inR_not] at *); rw [Bool.eq_iff_iff]; simp only [cmdOk, cmdEq, noBytes]; (repeat' split) <;> (try simp [inR_iff]) <;> grind) (KF.n [])))
 refine AW.q 1 ?_
 exact AW.ret (rf (k1 (K_impl_CmdOk _ c) (show (false) = (cmdOk c) from by (try simp only [inR_iff, inR_not] at *); rw [Bool.eq_iff_iff]; simp only [cmdOk, cmdEq, noBytes]; (repeat' split) <;> (try simp [inR_iff]) <;> grind) (KF.n [])))
theorem impl_lastTerm_spec  (l : List Ent) (hl : l.length ≤ 1048576) : FnSpec Tryz.prog 113 [.sl false 6 (l.map encEnt)] [] (.int .i64 (lastT l)) [] := by
 refine FnSpec.of 13 Tryz.func113 rfl Tryz.ntmps113 (by simp) (AW.weakK ?_)
 refine AW.q 1 ?_
 refine AW.seq ?_
 refine AW.r ?_
 refine At.a 2 ?_
 refine At.sL 4 encEnt l ?_
 refine At.z 1 ?_
 refine AW.cE (l.length : Int) (0 : Int) (fun h1 => ?_) (fun h1 => ?_)
 · refine AW.q 1 ?_
   refine AW.ret ?_
   refine ⟨_, Sub.refl _ _, ?_⟩
   refine KF.conv (fun w => .int .i64 w) (fun w => []) (show (0) = (lastT l) from by obtain rfl := List.length_eq_zero_iff.1 (show l.length = 0 by omega); rfl) ?_
   exact KF.n []
 refine AW.skip ?_
 refine AW.r ?_
 refine At.a 3 ?_
 refine At.sL 8 encEnt l ?_
 refine At.a 1 ?_
 refine At.sI 9 ((l.length : Int) - 1) (by omega) ?_
 refine At.iSl 24 10 (.tmp 6) (.tmp 9) false 6 (l.map encEnt) .i64 ((l.length : Int) - 1) 45 (by omega) (by simp only [List.length_map]; omega) ?_
 refine At.a 1 ?_
 refine Exists.elim (gE l (((l.length : Int) - 1).toNat) (by omega)) fun e1 he1 => ?_
 refine At.lVp 3 12 (.tmp 11) false 6 (l.map encEnt) (((l.length : Int) - 1).toNat) 0 false 1 (encEnt e1) (.int .i64 e1.term) (mapGet he1) ?_
 refine At.z 1 ?_
 refine AW.ret ?_
 refine ⟨_, Sub.refl _ _, ?_⟩
 refine KF.conv (fun w => .int .i64 w) (fun w => []) (show (e1.term) = (lastT l) from by rw [show ((l.length : Int) - 1).toNat = l.length - 1 from by omega] at he1; simp [lastT, he1]) ?_
 exact KF.n []
theorem impl_isWhole_spec  (n : Int) : FnSpec Tryz.prog 150 [.int .i64 n] [] (.bool (inR n 0 1000000000)) [] := by
 refine FnSpec.of 5 Tryz.func150 rfl Tryz.ntmps150 (by simp) (AW.weakK ?_)
 refine AW.q 1 ?_
 refine AW.r ?_
 refine At.a 1 ?_
 refine At.c (impl_within_spec  n 0 1000000000 ) Tryz.call69 true [] [] [] trivial ?_
 refine At.z 1 ?_
 exact AW.ret (rf (KF.n []))
theorem impl_HardOk_spec  (h : Hard) (hl : h.log.length ≤ 1048576) : FnSpec Tryz.prog 70 [.agg [.int .i64 h.term, .int .i64 h.vote, .sl false 6 (h.log.map encEnt)]] [] (.bool (hardOk h)) [] := by
 refine FnSpec.of 46 Tryz.func70 rfl Tryz.ntmps70 (by simp) (AW.weakK ?_)
 refine AW.q 2 ?_
 refine AW.seq ?_
 refine AW.r ?_
 refine At.a 3 ?_
 refine At.sL 7 encEnt h.log ?_
 refine At.z 1 ?_
 refine AW.block ?_
 refine AW.loopW (fun (k : Nat) => Go.Sy.mk [.un, .ptr 101 0 0, .un, .un, .un, .un, .sl false 6 (h.log.map encEnt), .int .i64 (h.log.length : Int), .int .i64 (k : Int)] [(101, .box 26 [.int .i64 h.term, .int .i64 h.vote, .sl false 6 (h.log.map encEnt)])]) (fun (k : Nat) => k ≤ h.log.length ∧ logOk h.term 0 h.log = logOk h.term (lastT (h.log.take k)) (h.log.drop k)) (fun (k : Nat) => h.log.length - k) 0 ⟨by omega, by simp [lastT]⟩ (Sub.o [(101, 101)] [false, true, false, false, false, false, true, true, true]) ?_
 rintro k ⟨hk, hR⟩
 refine AW.q 1 ?_
 refine AW.seq ?_
 refine AW.cD ((k : Int) < (h.log.length : Int)) (fun h1 => ?_) (fun h1 => ?_)
 · refine AW.skip ?_
   refine AW.seq ?_
   refine AW.block ?_
   refine AW.r ?_
   refine At.a 1 ?_
   refine At.iSl 24 11 (.tmp 6) (.tmp 8) false 6 (h.log.map encEnt) .i64 (k : Int) 45 (by omega) (by simp only [List.length_map]; omega) ?_
   refine Exists.elim (gE h.log k (by omega)) fun e1 he1 => ?_
   refine At.lVp 45 12 (.tmp 11) false 6 (h.log.map encEnt) k 0 true 6 (encEnt e1) (.agg [.int .i64 e1.term, .int .i64 e1.cmd.kind, .int .i64 e1.cmd.release, .int .i64 e1.cmd.node, .int .i64 e1.cmd.size, .str e1.cmd.digest]) (mapGet he1) ?_
   refine At.z 3 ?_
   refine AW.seq ?_
   refine AW.gD Tryz_mix ?_
   refine At.a 2 ?_
   refine At.c (impl_CmdOk_spec  e1.cmd ) Tryz.call101 true [] [] [] trivial ?_
   refine At.a 2 ?_
   by_cases h2 : (cmdOk e1.cmd) = true
   · refine At.sB 17 (!(cmdOk e1.cmd)) false (sayNF (sayB h2)) ?_
     refine At.a 5 ?_
     refine At.sliceSl (t := 24) (d := 23) (e := 45) (es := 6) (x := .tmp 21) (lx := none) (hx := some (.tmp 22)) (p := false) (xs := (h.log.map encEnt)) (vl := .un) (vh := .int .i64 (k : Int)) 0 k ((h.log.take k).map encEnt) (by kernel_rfl) (by kernel_rfl) (by kernel_rfl) (by kernel_rfl) (.inl ⟨rfl, rfl⟩) (.inr ⟨_, _, rfl, rfl⟩) (by omega) (by simp only [List.length_map]; omega) (by simp [List.map_take, List.map_drop]) ?_
     refine At.c (impl_lastTerm_spec  (h.log.take k) (by simp only [List.length_map, List.length_append, List.length_take, List.length_drop, List.length_replicate, List.length_set, List.length_cons, List.length_nil]; omega)) Tryz.call113 true [] [] [] trivial ?_
     refine At.mm (d := 25) (b := .max) (x := .const (.int .i64 1)) (y := .tmp 24) (ats := #[3, 3]) (q := .i64) (m := 1) (n := lastT (h.log.take k)) (if (lastT (h.log.take k)) > 1 then lastT (h.log.take k) else 1) (by kernel_rfl) (by kernel_rfl) (by kernel_rfl) (by kernel_rfl) (.inr ⟨rfl, rfl⟩) ?_
     refine At.say 25 (.int .i64 (if (lastT (h.log.take k)) > 1 then lastT (h.log.take k) else 1)) (.int .i64 (max 1 (lastT (h.log.take k)))) (by kernel_rfl) (congrArg (V.int .i64) (by omega)) ?_
     refine At.a 2 ?_
     refine At.c (impl_within_spec  e1.term (max 1 (lastT (h.log.take k))) h.term ) Tryz.call69 true [] [] [] trivial ?_
     refine At.zD 2 ?_
     refine AW.cNB (inR e1.term (max 1 (lastT (h.log.take k))) h.term) (fun h3 => ?_) (fun h3 => ?_)
     · refine AW.q 1 ?_
       refine AW.ret ?_
       refine ⟨_, Sub.refl _ _, ?_⟩
       refine KF.conv (fun w => .bool w) (fun w => []) (show (false) = (hardOk h) from by refine hardBad (hR.trans ?_); rw [dropCons he1]; first | exact logOk_bad0 (by assumption) | exact logOk_bad2 (by have := inR_not.1 (by assumption); omega)) ?_
       exact KF.n []
     have h3i := inR_iff.1 h3
     refine AW.skip ?_
     refine AW.g ?_
     refine At.a 1 ?_
     refine At.sI 31 ((k : Int) + 1) (by omega) ?_
     refine At.z 1 ?_
     exact ⟨k + 1, ⟨by omega, by rw [hR, dropCons he1, lastT_next he1]; exact logOk_step (by omega) (by omega) (by simp only [*]) (by omega)⟩, (by omega), Sub.o [(101, 101)] [false, true, false, false, false, false, true, true, true]⟩
   refine At.sB 17 (!(cmdOk e1.cmd)) true (sayNT (sayB (Bool.eq_false_iff.2 h2))) ?_
   replace h2 := Bool.eq_false_iff.2 h2
   refine At.zD 13 ?_
   refine AW.cond true (by kernel_rfl) (fun _ => ?_) (fun h => by cases h)
   refine AW.q 1 ?_
   refine AW.ret ?_
   refine ⟨_, Sub.refl _ _, ?_⟩
   refine KF.conv (fun w => .bool w) (fun w => []) (show (false) = (hardOk h) from by refine hardBad (hR.trans ?_); rw [dropCons he1]; first | exact logOk_bad0 (by assumption) | exact logOk_bad2 (by have := inR_not.1 (by assumption); omega)) ?_
   exact KF.n []
 refine AW.exit ?_
 refine AW.r ?_
 refine At.a 2 ?_
 refine At.c (impl_isWhole_spec  h.term ) Tryz.call150 true [] [] [] trivial ?_
 refine At.a 1 ?_
 by_cases h4 : (inR h.term 0 1000000000) = true
 · refine At.sB 35 (inR h.term 0 1000000000) true (sayB h4) ?_
   have h4i := inR_iff.1 h4
   refine At.a 2 ?_
   refine At.c (impl_within_spec  h.vote 0 5 ) Tryz.call69 true [] [] [] trivial ?_
   refine At.a 2 ?_
   by_cases h5 : (inR h.vote 0 5) = true
   · refine At.sB 40 (inR h.vote 0 5) true (sayB h5) ?_
     have h5i := inR_iff.1 h5
     refine At.a 3 ?_
     refine At.sL 43 encEnt h.log ?_
     refine At.z 3 ?_
     refine AW.ret ?_
     refine ⟨_, Sub.refl _ _, ?_⟩
     refine KF.conv (fun w => .bool w) (fun w => []) (show (decide ((h.log.length : Int) ≤ 80)) = (hardOk h) from by have q : logOk h.term 0 h.log = true := (by rw [hR, List.drop_of_length_le (by omega)]; rfl); grind [hardOk]) ?_
     exact KF.n []
   refine At.sB 40 (inR h.vote 0 5) false (sayB (Bool.eq_false_iff.2 h5)) ?_
   replace h5 := Bool.eq_false_iff.2 h5
   refine At.z 6 ?_
   refine AW.ret ?_
   refine ⟨_, Sub.refl _ _, ?_⟩
   refine KF.conv (fun w => .bool w) (fun w => []) (show (false) = (hardOk h) from by have q : logOk h.term 0 h.log = true := (by rw [hR, List.drop_of_length_le (by omega)]; rfl); grind [hardOk]) ?_
   exact KF.n []
 refine At.sB 35 (inR h.term 0 1000000000) false (sayB (Bool.eq_false_iff.2 h4)) ?_
 replace h4 := Bool.eq_false_iff.2 h4
 refine At.z 11 ?_
 refine AW.ret ?_
 refine ⟨_, Sub.refl _ _, ?_⟩
 refine KF.conv (fun w => .bool w) (fun w => []) (show (false) = (hardOk h) from by have q : logOk h.term 0 h.log = true := (by rw [hR, List.drop_of_length_le (by omega)]; rfl); grind [hardOk]) ?_
 exact KF.n []
theorem impl_nodesAscend_spec  (list : List Int) (of_ : Int) (hl : list.length ≤ 1048576) (ho : 0 ≤ of_ ∧ of_ ≤ 1000) : FnSpec Tryz.prog 71 [.sl false 1 (list.map encI), .int .i64 of_] [] (.bool (asc (of_ - 1) (-1) list)) [] := by
 refine FnSpec.of 33 Tryz.func71 rfl Tryz.ntmps71 (by simp) (AW.weakK ?_)
 refine AW.q 1 ?_
 refine AW.seq ?_
 refine AW.r ?_
 refine At.a 2 ?_
 refine At.sL 8 encI list ?_
 refine At.z 1 ?_
 refine AW.block ?_
 refine AW.loopW (fun (k : Nat) => Go.Sy.mk [.sl false 1 (list.map encI), .int .i64 of_, .un, .un, .un, .un, .un, .sl false 1 (list.map encI), .int .i64 (list.length : Int), .int .i64 (k : Int)] []) (fun (k : Nat) => k ≤ list.length ∧ ∃ p : Int, (k = 0 → p = -1) ∧ (∀ e, 0 < k → list[k - 1]? = some e → e = p) ∧ asc (of_ - 1) (-1) list = asc (of_ - 1) p (list.drop k)) (fun (k : Nat) => list.length - k) 0 ⟨by omega, -1, by omega, by omega, by rw [List.drop_zero]⟩ (Sub.o [] [true, true, false, false, false, false, false, true, true, true]) ?_
 rintro k ⟨hk, p, hp0, hp1, hR⟩
 refine AW.q 1 ?_
 refine AW.seq ?_
 refine AW.cD ((k : Int) < (list.length : Int)) (fun h1 => ?_) (fun h1 => ?_)
 · refine AW.skip ?_
   refine AW.seq ?_
   refine AW.block ?_
   refine AW.r ?_
   refine At.a 1 ?_
   refine At.iSl 27 12 (.tmp 7) (.tmp 9) false 1 (list.map encI) .i64 (k : Int) 3 (by omega) (by simp only [List.length_map]; omega) ?_
   refine Exists.elim (gE list k (by omega)) fun e1 he1 => ?_
   refine At.lVp 3 13 (.tmp 12) false 1 (list.map encI) k 0 false 1 (encI e1) (.int .i64 e1) (mapGet he1) ?_
   refine At.z 2 ?_
   refine AW.r ?_
   refine At.a 3 ?_
   refine At.sI 16 (of_ - 1) (by omega) ?_
   refine At.c (impl_within_spec  e1 0 (of_ - 1) ) Tryz.call69 true [] [] [] trivial ?_
   refine At.a 2 ?_
   by_cases h2 : (inR e1 0 (of_ - 1)) = true
   · refine At.sB 19 (!(inR e1 0 (of_ - 1))) false (sayNF (sayB h2)) ?_
     have h2i := inR_iff.1 h2
     refine At.a 3 ?_
     by_cases h3 : (k : Int) > 0
     · refine At.sB 22 _ _ (sayT h3) ?_
       refine At.a 3 ?_
       refine At.sI 25 ((k : Int) - 1) (by omega) ?_
       refine At.iSl 27 26 (.tmp 23) (.tmp 25) false 1 (list.map encI) .i64 ((k : Int) - 1) 3 (by omega) (by simp only [List.length_map]; omega) ?_
       refine Exists.elim (gE list (((k : Int) - 1).toNat) (by omega)) fun e2 he2 => ?_
       have qe2 := hp1 e2 (by omega) (by rw [show k - 1 = ((k : Int) - 1).toNat from by omega]; exact he2)
       refine At.lVp 3 27 (.tmp 26) false 1 (list.map encI) (((k : Int) - 1).toNat) 0 false 1 (encI e2) (.int .i64 e2) (mapGet he2) ?_
       refine At.z 4 ?_
       refine AW.cD (e2 ≥ e1) (fun h4 => ?_) (fun h4 => ?_)
       · refine AW.q 1 ?_
         refine AW.ret ?_
         refine ⟨_, Sub.refl _ _, ?_⟩
         refine KF.conv (fun w => .bool w) (fun w => []) (show (false) = (asc (of_ - 1) (-1) list) from by rw [hR, dropCons he1]; first | exact asc_bad1 (by assumption) | exact asc_bad2 (by omega)) ?_
         exact KF.n []
       refine AW.skip ?_
       refine AW.g ?_
       refine At.a 1 ?_
       refine At.sI 32 ((k : Int) + 1) (by omega) ?_
       refine At.z 1 ?_
       exact ⟨k + 1, ⟨by omega, e1, by omega, at_k he1, by have i1 := inR_iff.1 (show inR e1 0 (of_ - 1) = true by simpa using h2); rw [hR, dropCons he1]; exact asc_step (by simpa using h2) (by omega)⟩, (by omega), Sub.o [] [true, true, false, false, false, false, false, true, true, true]⟩
     refine At.sB 22 _ _ (sayF h3) ?_
     refine At.z 9 ?_
     refine AW.cond false (by kernel_rfl) (fun h => by cases h) (fun _ => ?_)
     refine AW.skip ?_
     refine AW.g ?_
     refine At.a 1 ?_
     refine At.sI 32 ((k : Int) + 1) (by omega) ?_
     refine At.z 1 ?_
     exact ⟨k + 1, ⟨by omega, e1, by omega, at_k he1, by have i1 := inR_iff.1 (show inR e1 0 (of_ - 1) = true by simpa using h2); rw [hR, dropCons he1]; exact asc_step (by simpa using h2) (by omega)⟩, (by omega), Sub.o [] [true, true, false, false, false, false, false, true, true, true]⟩
   refine At.sB 19 (!(inR e1 0 (of_ - 1))) true (sayNT (sayB (Bool.eq_false_iff.2 h2))) ?_
   replace h2 := Bool.eq_false_iff.2 h2
   refine At.z 12 ?_
   refine AW.cond true (by kernel_rfl) (fun _ => ?_) (fun h => by cases h)
   refine AW.q 1 ?_
   refine AW.ret ?_
   refine ⟨_, Sub.refl _ _, ?_⟩
   refine KF.conv (fun w => .bool w) (fun w => []) (show (false) = (asc (of_ - 1) (-1) list) from by rw [hR, dropCons he1]; first | exact asc_bad1 (by assumption) | exact asc_bad2 (by omega)) ?_
   exact KF.n []
 refine AW.exit ?_
 refine AW.q 1 ?_
 refine AW.ret ?_
 refine ⟨_, Sub.refl _ _, ?_⟩
 refine KF.conv (fun w => .bool w) (fun w => []) (show (true) = (asc (of_ - 1) (-1) list) from by rw [hR, List.drop_of_length_le (by omega)]; rfl) ?_
 exact KF.n []
theorem slices_Index_spec  (s : List Int) (v : Int) (hl : s.length ≤ 1048576) : FnSpec Tryz.prog 151 [.sl false 1 (s.map encI), .int .i64 v] [] (.int .i64 (idxI v 0 s)) [] := by
 refine FnSpec.of 19 Tryz.func151 rfl Tryz.ntmps151 (by simp) (AW.weakK ?_)
 refine AW.q 1 ?_
 refine AW.seq ?_
 refine AW.r ?_
 refine At.a 2 ?_
 refine At.sL 7 encI s ?_
 refine At.z 1 ?_
 refine AW.block ?_
 refine AW.loopW (fun (k : Nat) => Go.Sy.mk [.sl false 1 (s.map encI), .int .i64 v, .un, .un, .un, .un, .un, .int .i64 (s.length : Int), .int .i64 (k : Int)] []) (fun (k : Nat) => k ≤ s.length ∧ idxI v 0 s = idxI v k (s.drop k)) (fun (k : Nat) => s.length - k) 0 ⟨by omega, by rw [List.drop_zero]⟩ (Sub.o [] [true, true, false, false, false, false, false, true, true]) ?_
 rintro k ⟨hk, hR⟩
 refine AW.q 1 ?_
 refine AW.seq ?_
 refine AW.cD ((k : Int) < (s.length : Int)) (fun h1 => ?_) (fun h1 => ?_)
 · refine AW.skip ?_
   refine AW.seq ?_
   refine AW.block ?_
   refine AW.q 2 ?_
   refine AW.r ?_
   refine At.a 3 ?_
   refine At.iSl 27 14 (.tmp 12) (.tmp 13) false 1 (s.map encI) .i64 (k : Int) 3 (by omega) (by simp only [List.length_map]; omega) ?_
   refine Exists.elim (gE s k (by omega)) fun e1 he1 => ?_
   refine At.lVp 3 15 (.tmp 14) false 1 (s.map encI) k 0 false 1 (encI e1) (.int .i64 e1) (mapGet he1) ?_
   refine At.z 1 ?_
   refine AW.cE v e1 (fun h2 => ?_) (fun h2 => ?_)
   · refine AW.q 2 ?_
     refine AW.ret ?_
     refine ⟨_, Sub.refl _ _, ?_⟩
     refine KF.conv (fun w => .int .i64 w) (fun w => []) (show ((k : Int)) = (idxI v 0 s) from by rw [hR, dropCons he1, idxI, if_pos (by assumption)]) ?_
     exact KF.n []
   refine AW.skip ?_
   refine AW.g ?_
   refine At.a 1 ?_
   refine At.sI 18 ((k : Int) + 1) (by omega) ?_
   refine At.z 1 ?_
   exact ⟨k + 1, ⟨by omega, by rw [hR, dropCons he1, idxI, if_neg (by assumption)]⟩, (by omega), Sub.o [] [true, true, false, false, false, false, false, true, true]⟩
 refine AW.exit ?_
 refine AW.q 1 ?_
 refine AW.ret ?_
 refine ⟨_, Sub.refl _ _, ?_⟩
 refine KF.conv (fun w => .int .i64 w) (fun w => []) (show (-1) = (idxI v 0 s) from by rw [hR, List.drop_of_length_le (by omega)]; rfl) ?_
 exact KF.n []
theorem slices_Contains_spec  (s : List Int) (v : Int) (hl : s.length ≤ 1048576) : FnSpec Tryz.prog 72 [.sl false 1 (s.map encI), .int .i64 v] [] (.bool (hasI v s)) [] := by
 refine FnSpec.of 9 Tryz.func72 rfl Tryz.ntmps72 (by simp) (AW.weakK ?_)
 refine AW.q 1 ?_
 refine AW.r ?_
 refine At.a 2 ?_
 refine At.c (slices_Index_spec  s v (by omega)) Tryz.call151 true [] [] [] trivial ?_
 refine At.z 2 ?_
 refine AW.ret ?_
 refine ⟨_, Sub.refl _ _, ?_⟩
 refine KF.conv (fun w => .bool w) (fun w => []) (show (decide ((idxI v 0 s) ≥ 0)) = (hasI v s) from idxI_has v s 0) ?_
 exact KF.n []
end Go.Proofs.YtlmadhahghiedaaGreat
