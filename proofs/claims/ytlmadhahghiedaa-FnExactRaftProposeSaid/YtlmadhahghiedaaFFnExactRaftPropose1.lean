/- The contracts of the functions that FnExactRaftPropose reaches (each: what it answers, said over values), printed by a program of this session (wip/sy/g/gen.py). -/
import Derived.Test.YtlmadhahghiedaaSyX
import Derived.Test.YtlmadhahghiedaaProg
set_option linter.unusedVariables false
set_option linter.unusedSimpArgs false
namespace Go.Proofs.Ytlmadhahghiedaa
open Go Go.Sy Go.Proofs
def encOut (o : Out) : V := encOutWith (.own 88 6 (o.msg.entries.map encEnt)) o
theorem frzOut (l : List Out) : FrzIs (l.map encOut) (l.map encOutV) := frzOf _ (fun _ => ⟨rfl, frz17 _⟩)
theorem Try_mix : Try.prog.follows .mixedOrders = true := by kernel_rfl
set_option maxRecDepth 100000 in
set_option maxHeartbeats 4000000 in
theorem laws_szCmd_spec  (a : Cmd) (left : Int) (h0 : 0 ≤ left ∧ left ≤ 1048576) (hd : (a.digest.size : Int) ≤ big) : FnSpec Try.prog 16 [.agg [.int .i64 a.kind, .int .i64 a.release, .int .i64 a.node, .int .i64 a.size, .str a.digest], .int .i64 left] [] (.int .i64 (szB left a.digest.size)) [] := by
  unfold big at hd
  refine FnSpec.of 13 Try.func16 rfl Try.ntmps16 (by simp) (AW.weakK ?_)
  refine AW.seq ?_
  refine AW.region (At.start ?_)
  refine At.auto 2 (by kernel_rfl) ?_
  refine At.done rfl ?_
  refine AW.seq ?_
  refine AW.region (At.start ?_)
  refine At.auto 5 (by kernel_rfl) ?_
  refine At.say 9 (.int .i64 (IntKind.i64.wrap (left - (a.digest.size : Int)))) (.int .i64 (left - (a.digest.size : Int))) (by kernel_rfl) (sayI _ (by omega)) ?_
  refine At.auto 1 (by kernel_rfl) ?_
  refine At.done rfl ?_
  refine AW.seq ?_
  refine AW.seq ?_
  refine AW.region (At.start ?_)
  refine At.auto 2 (by kernel_rfl) ?_
  refine At.done rfl ?_
  refine AW.cond (decide ((left - (a.digest.size : Int)) < 0)) (by kernel_rfl) (fun hb => ?_) (fun hb => ?_)
  · have h1 : (left - (a.digest.size : Int)) < 0 := by simpa using hb
    clear hb
    refine AW.seq ?_
    refine AW.region (At.start ?_)
    refine At.auto 1 (by kernel_rfl) ?_
    refine At.done rfl ?_
    refine AW.ret ?_
    refine ⟨_, Sub.refl _ _, ?_⟩
    refine KF.conv (fun w => .int .i64 w) (fun w => []) (show (-1) = (szB left a.digest.size) from by unfold szB; omega) ?_
    exact KF.mk (.inr rfl) [] [.int .i64 (-1)] (by kernel_rfl) (by kernel_rfl) (by kernel_rfl) (by kernel_rfl) (by kernel_rfl)
  · have h1 : ¬ ((left - (a.digest.size : Int)) < 0) := by simpa using hb
    clear hb
    refine AW.skip ?_
    refine AW.seq ?_
    refine AW.region (At.start ?_)
    refine At.auto 2 (by kernel_rfl) ?_
    refine At.done rfl ?_
    refine AW.ret ?_
    refine ⟨_, Sub.refl _ _, ?_⟩
    refine KF.conv (fun w => .int .i64 w) (fun w => []) (show (left - (a.digest.size : Int)) = (szB left a.digest.size) from by unfold szB; omega) ?_
    exact KF.mk (.inr rfl) [] [.int .i64 (left - (a.digest.size : Int))] (by kernel_rfl) (by kernel_rfl) (by kernel_rfl) (by kernel_rfl) (by kernel_rfl)
set_option maxRecDepth 100000 in
set_option maxHeartbeats 4000000 in
theorem laws_szEntry_spec  (a : Ent) (left : Int) (h0 : 0 ≤ left ∧ left ≤ 1048576) (hd : (a.cmd.digest.size : Int) ≤ big) : FnSpec Try.prog 97 [.agg [.int .i64 a.term, .int .i64 a.cmd.kind, .int .i64 a.cmd.release, .int .i64 a.cmd.node, .int .i64 a.cmd.size, .str a.cmd.digest], .int .i64 left] [] (.int .i64 (szB left a.cmd.digest.size)) [] := by
  refine FnSpec.of 12 Try.func97 rfl Try.ntmps97 (by simp) (AW.weakK ?_)
  refine AW.seq ?_
  refine AW.region (At.start ?_)
  refine At.auto 2 (by kernel_rfl) ?_
  refine At.done rfl ?_
  refine AW.seq ?_
  refine AW.region (At.start ?_)
  refine At.auto 3 (by kernel_rfl) ?_
  refine At.call (laws_szCmd_spec  a.cmd left (by first | omega | (dsimp only; omega) | (simp only [List.length_map, List.length_append, List.length_take, List.length_drop, List.length_replicate, List.length_set, List.length_cons, List.length_nil]; omega)) (by first | omega | (dsimp only; omega) | (simp only [List.length_map, List.length_append, List.length_take, List.length_drop, List.length_replicate, List.length_set, List.length_cons, List.length_nil]; omega))) Try.call16 true [] [] [] (by kernel_rfl) (by kernel_rfl) (by kernel_rfl) (by kernel_rfl) (by kernel_rfl) trivial ?_
  refine At.auto 1 (by kernel_rfl) ?_
  refine At.done rfl ?_
  refine AW.seq ?_
  refine AW.seq ?_
  refine AW.region (At.start ?_)
  refine At.auto 2 (by kernel_rfl) ?_
  refine At.done rfl ?_
  refine AW.cond (decide ((szB left a.cmd.digest.size) < 0)) (by kernel_rfl) (fun hb => ?_) (fun hb => ?_)
  · have h1 : (szB left a.cmd.digest.size) < 0 := by simpa using hb
    clear hb
    refine AW.seq ?_
    refine AW.region (At.start ?_)
    refine At.auto 1 (by kernel_rfl) ?_
    refine At.done rfl ?_
    refine AW.ret ?_
    refine ⟨_, Sub.refl _ _, ?_⟩
    refine KF.conv (fun w => .int .i64 w) (fun w => []) (show (-1) = (szB left a.cmd.digest.size) from by have := szB_cases left a.cmd.digest.size; omega) ?_
    exact KF.mk (.inr rfl) [] [.int .i64 (-1)] (by kernel_rfl) (by kernel_rfl) (by kernel_rfl) (by kernel_rfl) (by kernel_rfl)
  · have h1 : ¬ ((szB left a.cmd.digest.size) < 0) := by simpa using hb
    clear hb
    have h1s := szB_small h1
    refine AW.skip ?_
    refine AW.seq ?_
    refine AW.region (At.start ?_)
    refine At.auto 2 (by kernel_rfl) ?_
    refine At.done rfl ?_
    refine AW.ret ?_
    refine ⟨_, Sub.refl _ _, ?_⟩
    exact KF.mk (.inr rfl) [] [.int .i64 (szB left a.cmd.digest.size)] (by kernel_rfl) (by kernel_rfl) (by kernel_rfl) (by kernel_rfl) (by kernel_rfl)
set_option maxRecDepth 100000 in
set_option maxHeartbeats 4000000 in
theorem laws_szEntryS_spec  (a : List Ent) (left : Int) (h0 : 0 ≤ left ∧ left ≤ 1048576) (hd : BigE a) : FnSpec Try.prog 66 [.sl false 6 (a.map encEnt), .int .i64 left] [] (.int .i64 (szEnts a left)) [] := by
  obtain ⟨hd1, hd2⟩ := id hd
  unfold big at hd1
  refine FnSpec.of 27 Try.func66 rfl Try.ntmps66 (by simp) (AW.weakK ?_)
  refine AW.seq ?_
  refine AW.region (At.start ?_)
  refine At.auto 1 (by kernel_rfl) ?_
  refine At.done rfl ?_
  refine AW.seq ?_
  refine AW.region (At.start ?_)
  refine At.auto 3 (by kernel_rfl) ?_
  refine At.say 8 (.int .i64 (((a.map encEnt).length : Nat) : Int)) (.int .i64 (a.length : Int)) (by kernel_rfl) (sayLen _ _) ?_
  refine At.auto 1 (by kernel_rfl) ?_
  refine At.say 9 (.int .i64 (IntKind.i64.wrap (left - (a.length : Int)))) (.int .i64 (left - (a.length : Int))) (by kernel_rfl) (sayI _ (by omega)) ?_
  refine At.auto 1 (by kernel_rfl) ?_
  refine At.done rfl ?_
  refine AW.seq ?_
  refine AW.seq ?_
  refine AW.region (At.start ?_)
  refine At.auto 2 (by kernel_rfl) ?_
  refine At.done rfl ?_
  refine AW.cond (decide ((left - (a.length : Int)) < 0)) (by kernel_rfl) (fun hb => ?_) (fun hb => ?_)
  · have h1 : (left - (a.length : Int)) < 0 := by simpa using hb
    clear hb
    refine AW.seq ?_
    refine AW.region (At.start ?_)
    refine At.auto 1 (by kernel_rfl) ?_
    refine At.done rfl ?_
    refine AW.ret ?_
    refine ⟨_, Sub.refl _ _, ?_⟩
    refine KF.conv (fun w => .int .i64 w) (fun w => []) (show (-1) = (szEnts a left) from by first | (unfold szEnts; rw [if_pos (by omega)]) | (rw [hR, dropCons he1, szGo]; have := szB_cases lf e1.cmd.digest.size; rw [if_pos (by omega)]) | (rw [hR, List.drop_of_length_le (by omega)]; rfl)) ?_
    exact KF.mk (.inr rfl) [] [.int .i64 (-1)] (by kernel_rfl) (by kernel_rfl) (by kernel_rfl) (by kernel_rfl) (by kernel_rfl)
  · have h1 : ¬ ((left - (a.length : Int)) < 0) := by simpa using hb
    clear hb
    refine AW.skip ?_
    refine AW.seq ?_
    refine AW.seq ?_
    refine AW.region (At.start ?_)
    refine At.auto 1 (by kernel_rfl) ?_
    refine At.done rfl ?_
    refine AW.block ?_
    refine AW.loopW (fun (x : Nat × Int) => match x with | (k, lf) => Go.Sy.mk [.sl false 6 (a.map encEnt), .int .i64 lf, .un, .un, .un, .int .i64 (k : Int)] []) (fun (x : Nat × Int) => match x with | (k, lf) => k ≤ a.length ∧ 0 ≤ lf ∧ lf ≤ 1048576 ∧ szEnts a left = szGo (a.drop k) lf) (fun (x : Nat × Int) => match x with | (k, lf) => a.length - k) (0, left - (a.length : Int)) ⟨by omega, by omega, by omega, by unfold szEnts; rw [if_neg (by omega)]; rfl⟩ (Sub.of [] [true, true, false, false, false, true] _ _ (by kernel_rfl) (by kernel_rfl) (by kernel_rfl)) ?_
    rintro ⟨k, lf⟩ ⟨hk, hl0, hl1, hR⟩
    refine AW.seq ?_
    refine AW.seq ?_
    refine AW.region (At.start ?_)
    refine At.auto 3 (by kernel_rfl) ?_
    refine At.say 14 (.int .i64 (((a.map encEnt).length : Nat) : Int)) (.int .i64 (a.length : Int)) (by kernel_rfl) (sayLen _ _) ?_
    refine At.auto 1 (by kernel_rfl) ?_
    refine At.done rfl ?_
    refine AW.cond (decide ((k : Int) < (a.length : Int))) (by kernel_rfl) (fun hb => ?_) (fun hb => ?_)
    · have h2 : (k : Int) < (a.length : Int) := by simpa using hb
      clear hb
      refine AW.skip ?_
      refine AW.seq ?_
      refine AW.block ?_
      refine AW.seq ?_
      refine AW.region (At.start ?_)
      refine At.auto 2 (by kernel_rfl) ?_
      refine At.idxSl (t := 22) (d := 20) (x := .tmp 18) (y := .tmp 19) (p := false) (es := 6) (xs := (a.map encEnt)) (kd := .i64) (i := (k : Int)) (e := 118) (by kernel_rfl) (by kernel_rfl) (by kernel_rfl) (by kernel_rfl) (by omega) (by first | omega | (simp only [List.length_map, List.length_append, List.length_take, List.length_drop, List.length_replicate, List.length_set, List.length_cons, List.length_nil]; omega)) ?_
      refine Exists.elim (show ∃ e, a[k]? = some e from ⟨_, List.getElem?_eq_getElem (by first | omega | (simp only [List.length_map, List.length_append, List.length_take, List.length_drop, List.length_replicate, List.length_set, List.length_cons, List.length_nil]; omega))⟩) fun e1 he1 => ?_
      refine At.ldVp (t := 118) (d := 21) (x := .tmp 20) (p := false) (es := 6) (xs := (a.map encEnt)) (j := k) (off := 0) (b := true) (m := 6) (encEnt e1) (.agg [.int .i64 e1.term, .int .i64 e1.cmd.kind, .int .i64 e1.cmd.release, .int .i64 e1.cmd.node, .int .i64 e1.cmd.size, .str e1.cmd.digest]) (by kernel_rfl) (by kernel_rfl) (by kernel_rfl) (by kernel_rfl) (mapGet he1) (by kernel_rfl) ?_
      refine At.auto 1 (by kernel_rfl) ?_
      refine At.call (laws_szEntry_spec  e1 lf (by first | omega | (dsimp only; omega) | (simp only [List.length_map, List.length_append, List.length_take, List.length_drop, List.length_replicate, List.length_set, List.length_cons, List.length_nil]; omega)) (hd2 _ (List.mem_of_getElem? he1))) Try.call97 true [] [] [] (by kernel_rfl) (by kernel_rfl) (by kernel_rfl) (by kernel_rfl) (by kernel_rfl) trivial ?_
      refine At.auto 1 (by kernel_rfl) ?_
      refine At.done rfl ?_
      refine AW.seq ?_
      refine AW.region (At.start ?_)
      refine At.auto 2 (by kernel_rfl) ?_
      refine At.done rfl ?_
      refine AW.cond (decide ((szB lf e1.cmd.digest.size) < 0)) (by kernel_rfl) (fun hb => ?_) (fun hb => ?_)
      · have h3 : (szB lf e1.cmd.digest.size) < 0 := by simpa using hb
        clear hb
        refine AW.seq ?_
        refine AW.region (At.start ?_)
        refine At.auto 1 (by kernel_rfl) ?_
        refine At.done rfl ?_
        refine AW.ret ?_
        refine ⟨_, Sub.refl _ _, ?_⟩
        refine KF.conv (fun w => .int .i64 w) (fun w => []) (show (-1) = (szEnts a left) from by first | (unfold szEnts; rw [if_pos (by omega)]) | (rw [hR, dropCons he1, szGo]; have := szB_cases lf e1.cmd.digest.size; rw [if_pos (by omega)]) | (rw [hR, List.drop_of_length_le (by omega)]; rfl)) ?_
        exact KF.mk (.inr rfl) [] [.int .i64 (-1)] (by kernel_rfl) (by kernel_rfl) (by kernel_rfl) (by kernel_rfl) (by kernel_rfl)
      · have h3 : ¬ ((szB lf e1.cmd.digest.size) < 0) := by simpa using hb
        clear hb
        have h3s := szB_small h3
        refine AW.skip ?_
        refine AW.region (At.start ?_)
        refine At.auto 2 (by kernel_rfl) ?_
        refine At.say 17 (.int .i64 (IntKind.i64.wrap ((k : Int) + 1))) (.int .i64 ((k : Int) + 1)) (by kernel_rfl) (sayI _ (by omega)) ?_
        refine At.auto 1 (by kernel_rfl) ?_
        refine At.done rfl ?_
        exact ⟨(k + 1, szB lf e1.cmd.digest.size), ⟨by omega, by have := szB_cases lf e1.cmd.digest.size; omega, by have := szB_cases lf e1.cmd.digest.size; omega, by have := szB_cases lf e1.cmd.digest.size; rw [hR, dropCons he1, szGo, if_neg (by omega)]; congr 1; omega⟩, by simp only; omega, Sub.of [] [true, true, false, false, false, true] _ _ (by kernel_rfl) (by kernel_rfl) (by kernel_rfl)⟩
    · have h2 : ¬ ((k : Int) < (a.length : Int)) := by simpa using hb
      clear hb
      refine AW.exit ?_
      refine AW.seq ?_
      refine AW.region (At.start ?_)
      refine At.auto 2 (by kernel_rfl) ?_
      refine At.done rfl ?_
      refine AW.ret ?_
      refine ⟨_, Sub.refl _ _, ?_⟩
      refine KF.conv (fun w => .int .i64 w) (fun w => []) (show (lf) = (szEnts a left) from by first | (unfold szEnts; rw [if_pos (by omega)]) | (rw [hR, dropCons he1, szGo]; have := szB_cases lf e1.cmd.digest.size; rw [if_pos (by omega)]) | (rw [hR, List.drop_of_length_le (by omega)]; rfl)) ?_
      exact KF.mk (.inr rfl) [] [.int .i64 lf] (by kernel_rfl) (by kernel_rfl) (by kernel_rfl) (by kernel_rfl) (by kernel_rfl)
set_option maxRecDepth 100000 in
set_option maxHeartbeats 4000000 in
theorem laws_szHard_spec  (a : Hard) (left : Int) (h0 : 0 ≤ left ∧ left ≤ 1048576) (hd : BigE a.log) : FnSpec Try.prog 32 [.agg [.int .i64 a.term, .int .i64 a.vote, .sl false 6 (a.log.map encEnt)], .int .i64 left] [] (.int .i64 (szEnts a.log left)) [] := by
  refine FnSpec.of 12 Try.func32 rfl Try.ntmps32 (by simp) (AW.weakK ?_)
  refine AW.seq ?_
  refine AW.region (At.start ?_)
  refine At.auto 2 (by kernel_rfl) ?_
  refine At.done rfl ?_
  refine AW.seq ?_
  refine AW.region (At.start ?_)
  refine At.auto 3 (by kernel_rfl) ?_
  refine At.call (laws_szEntryS_spec  a.log left (by first | omega | (dsimp only; omega) | (simp only [List.length_map, List.length_append, List.length_take, List.length_drop, List.length_replicate, List.length_set, List.length_cons, List.length_nil]; omega)) hd) Try.call66 true [] [] [] (by kernel_rfl) (by kernel_rfl) (by kernel_rfl) (by kernel_rfl) (by kernel_rfl) trivial ?_
  refine At.auto 1 (by kernel_rfl) ?_
  refine At.done rfl ?_
  refine AW.seq ?_
  refine AW.seq ?_
  refine AW.region (At.start ?_)
  refine At.auto 2 (by kernel_rfl) ?_
  refine At.done rfl ?_
  refine AW.cond (decide ((szEnts a.log left) < 0)) (by kernel_rfl) (fun hb => ?_) (fun hb => ?_)
  · have h1 : (szEnts a.log left) < 0 := by simpa using hb
    clear hb
    refine AW.seq ?_
    refine AW.region (At.start ?_)
    refine At.auto 1 (by kernel_rfl) ?_
    refine At.done rfl ?_
    refine AW.ret ?_
    refine ⟨_, Sub.refl _ _, ?_⟩
    refine KF.conv (fun w => .int .i64 w) (fun w => []) (show (-1) = (szEnts a.log left) from (szEnts_neg h1).symm) ?_
    exact KF.mk (.inr rfl) [] [.int .i64 (-1)] (by kernel_rfl) (by kernel_rfl) (by kernel_rfl) (by kernel_rfl) (by kernel_rfl)
  · have h1 : ¬ ((szEnts a.log left) < 0) := by simpa using hb
    clear hb
    have h1s := szEnts_small h1
    refine AW.skip ?_
    refine AW.seq ?_
    refine AW.region (At.start ?_)
    refine At.auto 2 (by kernel_rfl) ?_
    refine At.done rfl ?_
    refine AW.ret ?_
    refine ⟨_, Sub.refl _ _, ?_⟩
    exact KF.mk (.inr rfl) [] [.int .i64 (szEnts a.log left)] (by kernel_rfl) (by kernel_rfl) (by kernel_rfl) (by kernel_rfl) (by kernel_rfl)
set_option maxRecDepth 100000 in
set_option maxHeartbeats 4000000 in
theorem laws_szIntS_spec  (a : List Int) (left : Int) (h0 : 0 ≤ left ∧ left ≤ 1048576) (hd : (a.length : Int) ≤ big) : FnSpec Try.prog 33 [.sl false 1 (a.map encI), .int .i64 left] [] (.int .i64 (szB left a.length)) [] := by
  unfold big at hd
  refine FnSpec.of 12 Try.func33 rfl Try.ntmps33 (by simp) (AW.weakK ?_)
  refine AW.seq ?_
  refine AW.region (At.start ?_)
  refine At.auto 1 (by kernel_rfl) ?_
  refine At.done rfl ?_
  refine AW.seq ?_
  refine AW.region (At.start ?_)
  refine At.auto 3 (by kernel_rfl) ?_
  refine At.say 7 (.int .i64 (((a.map encI).length : Nat) : Int)) (.int .i64 (a.length : Int)) (by kernel_rfl) (sayLen _ _) ?_
  refine At.auto 1 (by kernel_rfl) ?_
  refine At.say 8 (.int .i64 (IntKind.i64.wrap (left - (a.length : Int)))) (.int .i64 (left - (a.length : Int))) (by kernel_rfl) (sayI _ (by omega)) ?_
  refine At.auto 1 (by kernel_rfl) ?_
  refine At.done rfl ?_
  refine AW.seq ?_
  refine AW.seq ?_
  refine AW.region (At.start ?_)
  refine At.auto 2 (by kernel_rfl) ?_
  refine At.done rfl ?_
  refine AW.cond (decide ((left - (a.length : Int)) < 0)) (by kernel_rfl) (fun hb => ?_) (fun hb => ?_)
  · have h1 : (left - (a.length : Int)) < 0 := by simpa using hb
    clear hb
    refine AW.seq ?_
    refine AW.region (At.start ?_)
    refine At.auto 1 (by kernel_rfl) ?_
    refine At.done rfl ?_
    refine AW.ret ?_
    refine ⟨_, Sub.refl _ _, ?_⟩
    refine KF.conv (fun w => .int .i64 w) (fun w => []) (show (-1) = (szB left a.length) from by unfold szB; omega) ?_
    exact KF.mk (.inr rfl) [] [.int .i64 (-1)] (by kernel_rfl) (by kernel_rfl) (by kernel_rfl) (by kernel_rfl) (by kernel_rfl)
  · have h1 : ¬ ((left - (a.length : Int)) < 0) := by simpa using hb
    clear hb
    refine AW.skip ?_
    refine AW.seq ?_
    refine AW.region (At.start ?_)
    refine At.auto 2 (by kernel_rfl) ?_
    refine At.done rfl ?_
    refine AW.ret ?_
    refine ⟨_, Sub.refl _ _, ?_⟩
    refine KF.conv (fun w => .int .i64 w) (fun w => []) (show (left - (a.length : Int)) = (szB left a.length) from by unfold szB; omega) ?_
    exact KF.mk (.inr rfl) [] [.int .i64 (left - (a.length : Int))] (by kernel_rfl) (by kernel_rfl) (by kernel_rfl) (by kernel_rfl) (by kernel_rfl)
set_option maxRecDepth 100000 in
set_option maxHeartbeats 4000000 in
theorem laws_szRaft_spec  (a : Raft) (left : Int) (h0 : 0 ≤ left ∧ left ≤ 1048576) (hd : BigR a) : FnSpec Try.prog 7 [.agg [.int .i64 a.id, .int .i64 a.of_, .int .i64 a.role, .int .i64 a.commit, .int .i64 a.hard.term, .int .i64 a.hard.vote, .sl false 6 (a.hard.log.map encEnt), .sl false 1 (a.yes.map encI), .sl false 1 (a.next.map encI), .sl false 1 (a.match_.map encI)], .int .i64 left] [] (.int .i64 (szRaft a left)) [] := by
  obtain ⟨d1, d2, d3, d4⟩ := id hd
  refine FnSpec.of 30 Try.func7 rfl Try.ntmps7 (by simp) (AW.weakK ?_)
  refine AW.seq ?_
  refine AW.region (At.start ?_)
  refine At.auto 2 (by kernel_rfl) ?_
  refine At.done rfl ?_
  refine AW.seq ?_
  refine AW.region (At.start ?_)
  refine At.auto 3 (by kernel_rfl) ?_
  refine At.call (laws_szHard_spec  a.hard left (by first | omega | (dsimp only; omega) | (simp only [List.length_map, List.length_append, List.length_take, List.length_drop, List.length_replicate, List.length_set, List.length_cons, List.length_nil]; omega)) d1) Try.call32 true [] [] [] (by kernel_rfl) (by kernel_rfl) (by kernel_rfl) (by kernel_rfl) (by kernel_rfl) trivial ?_
  refine At.auto 1 (by kernel_rfl) ?_
  refine At.done rfl ?_
  refine AW.seq ?_
  refine AW.seq ?_
  refine AW.region (At.start ?_)
  refine At.auto 2 (by kernel_rfl) ?_
  refine At.done rfl ?_
  refine AW.cond (decide ((szEnts a.hard.log left) < 0)) (by kernel_rfl) (fun hb => ?_) (fun hb => ?_)
  · have h1 : (szEnts a.hard.log left) < 0 := by simpa using hb
    clear hb
    refine AW.seq ?_
    refine AW.region (At.start ?_)
    refine At.auto 1 (by kernel_rfl) ?_
    refine At.done rfl ?_
    refine AW.ret ?_
    refine ⟨_, Sub.refl _ _, ?_⟩
    refine KF.conv (fun w => .int .i64 w) (fun w => []) (show (-1) = (szRaft a left) from by unfold szRaft; first | (simp [*]; done) | (simp only [*, if_false, if_true]; exact (szB_neg h4).symm)) ?_
    exact KF.mk (.inr rfl) [] [.int .i64 (-1)] (by kernel_rfl) (by kernel_rfl) (by kernel_rfl) (by kernel_rfl) (by kernel_rfl)
  · have h1 : ¬ ((szEnts a.hard.log left) < 0) := by simpa using hb
    clear hb
    have h1s := szEnts_small h1
    refine AW.skip ?_
    refine AW.seq ?_
    refine AW.region (At.start ?_)
    refine At.auto 3 (by kernel_rfl) ?_
    refine At.call (laws_szIntS_spec  a.yes (szEnts a.hard.log left) (by first | omega | (dsimp only; omega) | (simp only [List.length_map, List.length_append, List.length_take, List.length_drop, List.length_replicate, List.length_set, List.length_cons, List.length_nil]; omega)) (by first | omega | (dsimp only; omega) | (simp only [List.length_map, List.length_append, List.length_take, List.length_drop, List.length_replicate, List.length_set, List.length_cons, List.length_nil]; omega))) Try.call33 true [] [] [] (by kernel_rfl) (by kernel_rfl) (by kernel_rfl) (by kernel_rfl) (by kernel_rfl) trivial ?_
    refine At.auto 1 (by kernel_rfl) ?_
    refine At.done rfl ?_
    refine AW.seq ?_
    refine AW.seq ?_
    refine AW.region (At.start ?_)
    refine At.auto 2 (by kernel_rfl) ?_
    refine At.done rfl ?_
    refine AW.cond (decide ((szB (szEnts a.hard.log left) a.yes.length) < 0)) (by kernel_rfl) (fun hb => ?_) (fun hb => ?_)
    · have h2 : (szB (szEnts a.hard.log left) a.yes.length) < 0 := by simpa using hb
      clear hb
      refine AW.seq ?_
      refine AW.region (At.start ?_)
      refine At.auto 1 (by kernel_rfl) ?_
      refine At.done rfl ?_
      refine AW.ret ?_
      refine ⟨_, Sub.refl _ _, ?_⟩
      refine KF.conv (fun w => .int .i64 w) (fun w => []) (show (-1) = (szRaft a left) from by unfold szRaft; first | (simp [*]; done) | (simp only [*, if_false, if_true]; exact (szB_neg h4).symm)) ?_
      exact KF.mk (.inr rfl) [] [.int .i64 (-1)] (by kernel_rfl) (by kernel_rfl) (by kernel_rfl) (by kernel_rfl) (by kernel_rfl)
    · have h2 : ¬ ((szB (szEnts a.hard.log left) a.yes.length) < 0) := by simpa using hb
      clear hb
      have h2s := szB_small h2
      refine AW.skip ?_
      refine AW.seq ?_
      refine AW.region (At.start ?_)
      refine At.auto 3 (by kernel_rfl) ?_
      refine At.call (laws_szIntS_spec  a.next (szB (szEnts a.hard.log left) a.yes.length) (by first | omega | (dsimp only; omega) | (simp only [List.length_map, List.length_append, List.length_take, List.length_drop, List.length_replicate, List.length_set, List.length_cons, List.length_nil]; omega)) (by first | omega | (dsimp only; omega) | (simp only [List.length_map, List.length_append, List.length_take, List.length_drop, List.length_replicate, List.length_set, List.length_cons, List.length_nil]; omega))) Try.call33 true [] [] [] (by kernel_rfl) (by kernel_rfl) (by kernel_rfl) (by kernel_rfl) (by kernel_rfl) trivial ?_
      refine At.auto 1 (by kernel_rfl) ?_
      refine At.done rfl ?_
      refine AW.seq ?_
      refine AW.seq ?_
      refine AW.region (At.start ?_)
      refine At.auto 2 (by kernel_rfl) ?_
      refine At.done rfl ?_
      refine AW.cond (decide ((szB (szB (szEnts a.hard.log left) a.yes.length) a.next.length) < 0)) (by kernel_rfl) (fun hb => ?_) (fun hb => ?_)
      · have h3 : (szB (szB (szEnts a.hard.log left) a.yes.length) a.next.length) < 0 := by simpa using hb
        clear hb
        refine AW.seq ?_
        refine AW.region (At.start ?_)
        refine At.auto 1 (by kernel_rfl) ?_
        refine At.done rfl ?_
        refine AW.ret ?_
        refine ⟨_, Sub.refl _ _, ?_⟩
        refine KF.conv (fun w => .int .i64 w) (fun w => []) (show (-1) = (szRaft a left) from by unfold szRaft; first | (simp [*]; done) | (simp only [*, if_false, if_true]; exact (szB_neg h4).symm)) ?_
        exact KF.mk (.inr rfl) [] [.int .i64 (-1)] (by kernel_rfl) (by kernel_rfl) (by kernel_rfl) (by kernel_rfl) (by kernel_rfl)
      · have h3 : ¬ ((szB (szB (szEnts a.hard.log left) a.yes.length) a.next.length) < 0) := by simpa using hb
        clear hb
        have h3s := szB_small h3
        refine AW.skip ?_
        refine AW.seq ?_
        refine AW.region (At.start ?_)
        refine At.auto 3 (by kernel_rfl) ?_
        refine At.call (laws_szIntS_spec  a.match_ (szB (szB (szEnts a.hard.log left) a.yes.length) a.next.length) (by first | omega | (dsimp only; omega) | (simp only [List.length_map, List.length_append, List.length_take, List.length_drop, List.length_replicate, List.length_set, List.length_cons, List.length_nil]; omega)) (by first | omega | (dsimp only; omega) | (simp only [List.length_map, List.length_append, List.length_take, List.length_drop, List.length_replicate, List.length_set, List.length_cons, List.length_nil]; omega))) Try.call33 true [] [] [] (by kernel_rfl) (by kernel_rfl) (by kernel_rfl) (by kernel_rfl) (by kernel_rfl) trivial ?_
        refine At.auto 1 (by kernel_rfl) ?_
        refine At.done rfl ?_
        refine AW.seq ?_
        refine AW.seq ?_
        refine AW.region (At.start ?_)
        refine At.auto 2 (by kernel_rfl) ?_
        refine At.done rfl ?_
        refine AW.cond (decide ((szB (szB (szB (szEnts a.hard.log left) a.yes.length) a.next.length) a.match_.length) < 0)) (by kernel_rfl) (fun hb => ?_) (fun hb => ?_)
        · have h4 : (szB (szB (szB (szEnts a.hard.log left) a.yes.length) a.next.length) a.match_.length) < 0 := by simpa using hb
          clear hb
          refine AW.seq ?_
          refine AW.region (At.start ?_)
          refine At.auto 1 (by kernel_rfl) ?_
          refine At.done rfl ?_
          refine AW.ret ?_
          refine ⟨_, Sub.refl _ _, ?_⟩
          refine KF.conv (fun w => .int .i64 w) (fun w => []) (show (-1) = (szRaft a left) from by unfold szRaft; first | (simp [*]; done) | (simp only [*, if_false, if_true]; exact (szB_neg h4).symm)) ?_
          exact KF.mk (.inr rfl) [] [.int .i64 (-1)] (by kernel_rfl) (by kernel_rfl) (by kernel_rfl) (by kernel_rfl) (by kernel_rfl)
        · have h4 : ¬ ((szB (szB (szB (szEnts a.hard.log left) a.yes.length) a.next.length) a.match_.length) < 0) := by simpa using hb
          clear hb
          have h4s := szB_small h4
          refine AW.skip ?_
          refine AW.seq ?_
          refine AW.region (At.start ?_)
          refine At.auto 2 (by kernel_rfl) ?_
          refine At.done rfl ?_
          refine AW.ret ?_
          refine ⟨_, Sub.refl _ _, ?_⟩
          refine KF.conv (fun w => .int .i64 w) (fun w => []) (show (szB (szB (szB (szEnts a.hard.log left) a.yes.length) a.next.length) a.match_.length) = (szRaft a left) from by unfold szRaft; first | (simp [*]; done) | (simp only [*, if_false, if_true]; exact (szB_neg h4).symm)) ?_
          exact KF.mk (.inr rfl) [] [.int .i64 (szB (szB (szB (szEnts a.hard.log left) a.yes.length) a.next.length) a.match_.length)] (by kernel_rfl) (by kernel_rfl) (by kernel_rfl) (by kernel_rfl) (by kernel_rfl)
set_option maxRecDepth 100000 in
set_option maxHeartbeats 4000000 in
theorem laws_toCmd_spec  (a : Cmd) : FnSpec Try.prog 18 [.agg [.int .i64 a.kind, .int .i64 a.release, .int .i64 a.node, .int .i64 a.size, .str a.digest]] [] (.agg [.int .i64 a.kind, .int .i64 a.release, .int .i64 a.node, .int .i64 a.size, .str a.digest]) [] := by
  refine FnSpec.of 20 Try.func18 rfl Try.ntmps18 (by simp) (AW.weakK ?_)
  refine AW.seq ?_
  refine AW.region (At.start ?_)
  refine At.auto 2 (by kernel_rfl) ?_
  refine At.done rfl ?_
  refine AW.seq ?_
  refine AW.region (At.start ?_)
  refine At.auto 1 (by kernel_rfl) ?_
  refine At.done rfl ?_
  refine AW.seq ?_
  refine AW.region (At.start ?_)
  refine At.auto 4 (by kernel_rfl) ?_
  refine At.done rfl ?_
  refine AW.seq ?_
  refine AW.region (At.start ?_)
  refine At.auto 4 (by kernel_rfl) ?_
  refine At.done rfl ?_
  refine AW.seq ?_
  refine AW.region (At.start ?_)
  refine At.auto 4 (by kernel_rfl) ?_
  refine At.done rfl ?_
  refine AW.seq ?_
  refine AW.region (At.start ?_)
  refine At.auto 4 (by kernel_rfl) ?_
  refine At.done rfl ?_
  refine AW.seq ?_
  refine AW.region (At.start ?_)
  refine At.auto 4 (by kernel_rfl) ?_
  refine At.done rfl ?_
  refine AW.seq ?_
  refine AW.region (At.start ?_)
  refine At.auto 2 (by kernel_rfl) ?_
  refine At.done rfl ?_
  refine AW.ret ?_
  refine ⟨_, Sub.refl _ _, ?_⟩
  exact KF.mk (.inr rfl) [] [.agg [.int .i64 a.kind, .int .i64 a.release, .int .i64 a.node, .int .i64 a.size, .str a.digest]] (by kernel_rfl) (by kernel_rfl) (by kernel_rfl) (by kernel_rfl) (by kernel_rfl)
set_option maxRecDepth 100000 in
set_option maxHeartbeats 4000000 in
theorem laws_toEntry_spec  (a : Ent) : FnSpec Try.prog 100 [.agg [.int .i64 a.term, .int .i64 a.cmd.kind, .int .i64 a.cmd.release, .int .i64 a.cmd.node, .int .i64 a.cmd.size, .str a.cmd.digest]] [] (.agg [.int .i64 a.term, .int .i64 a.cmd.kind, .int .i64 a.cmd.release, .int .i64 a.cmd.node, .int .i64 a.cmd.size, .str a.cmd.digest]) [] := by
  refine FnSpec.of 12 Try.func100 rfl Try.ntmps100 (by simp) (AW.weakK ?_)
  refine AW.seq ?_
  refine AW.region (At.start ?_)
  refine At.auto 2 (by kernel_rfl) ?_
  refine At.done rfl ?_
  refine AW.seq ?_
  refine AW.region (At.start ?_)
  refine At.auto 1 (by kernel_rfl) ?_
  refine At.done rfl ?_
  refine AW.seq ?_
  refine AW.region (At.start ?_)
  refine At.auto 4 (by kernel_rfl) ?_
  refine At.done rfl ?_
  refine AW.seq ?_
  refine AW.region (At.start ?_)
  refine At.auto 2 (by kernel_rfl) ?_
  refine At.call (laws_toCmd_spec  a.cmd ) Try.call18 true [] [] [] (by kernel_rfl) (by kernel_rfl) (by kernel_rfl) (by kernel_rfl) (by kernel_rfl) trivial ?_
  refine At.auto 2 (by kernel_rfl) ?_
  refine At.done rfl ?_
  refine AW.seq ?_
  refine AW.region (At.start ?_)
  refine At.auto 2 (by kernel_rfl) ?_
  refine At.done rfl ?_
  refine AW.ret ?_
  refine ⟨_, Sub.refl _ _, ?_⟩
  exact KF.mk (.inr rfl) [] [.agg [.int .i64 a.term, .int .i64 a.cmd.kind, .int .i64 a.cmd.release, .int .i64 a.cmd.node, .int .i64 a.cmd.size, .str a.cmd.digest]] (by kernel_rfl) (by kernel_rfl) (by kernel_rfl) (by kernel_rfl) (by kernel_rfl)
set_option maxRecDepth 100000 in
set_option maxHeartbeats 4000000 in
theorem laws_toEntryS_spec  (a : List Ent) (ha : a.length ≤ 1048576) : FnSpec Try.prog 70 [.sl false 6 (a.map encEnt)] [] (.ref 0) [.arr 88 6 (a.map encEnt)] := by
  refine FnSpec.of 23 Try.func70 rfl Try.ntmps70 (by simp) (AW.weakK ?_)
  refine AW.seq ?_
  refine AW.region (At.start ?_)
  refine At.auto 1 (by kernel_rfl) ?_
  refine At.done rfl ?_
  refine AW.seq ?_
  refine AW.region (At.start ?_)
  refine At.auto 2 (by kernel_rfl) ?_
  refine At.say 6 (.int .i64 (((a.map encEnt).length : Nat) : Int)) (.int .i64 (a.length : Int)) (by kernel_rfl) (sayLen _ _) ?_
  refine At.make (t := 31) (d := 7) (e := 88) (es := 6) (bytes := 56) (x := .tmp 6) (y := .tmp 6) (ka := .i64) (kb := .i64) (zs := [.int .i64 0, .int .i64 0, .int .i64 0, .int .i64 0, .int .i64 0, .str (⟨#[]⟩)]) 107 a.length ((List.replicate a.length (⟨0, ⟨0, 0, 0, 0, ⟨#[]⟩⟩⟩ : Ent)).map encEnt) (by kernel_rfl) (by kernel_rfl) (by kernel_rfl) (by kernel_rfl) (by kernel_rfl) (by omega) (by omega) (by rw [List.map_replicate]; rfl) ?_
  refine At.auto 1 (by kernel_rfl) ?_
  refine At.done rfl ?_
  refine AW.seq ?_
  refine AW.seq ?_
  refine AW.region (At.start ?_)
  refine At.auto 1 (by kernel_rfl) ?_
  refine At.done rfl ?_
  refine AW.block ?_
  refine AW.loopW (fun (k : Nat) => Go.Sy.mk [.sl false 6 (a.map encEnt), .un, .un, .ref 107, .int .i64 (k : Int)] [(107, .arr 88 6 ((a.take k ++ List.replicate (a.length - k) zEnt).map encEnt))]) (fun (k : Nat) => k ≤ a.length) (fun (k : Nat) => a.length - k) 0 (by omega) (Sub.of [(107, 107)] [true, false, false, true, true] _ _ (by kernel_rfl) (by kernel_rfl) (by kernel_rfl)) ?_
  rintro k hk
  refine AW.seq ?_
  refine AW.seq ?_
  refine AW.region (At.start ?_)
  refine At.auto 3 (by kernel_rfl) ?_
  refine At.say 10 (.int .i64 (((a.map encEnt).length : Nat) : Int)) (.int .i64 (a.length : Int)) (by kernel_rfl) (sayLen _ _) ?_
  refine At.auto 1 (by kernel_rfl) ?_
  refine At.done rfl ?_
  refine AW.cond (decide ((k : Int) < (a.length : Int))) (by kernel_rfl) (fun hb => ?_) (fun hb => ?_)
  · have h1 : (k : Int) < (a.length : Int) := by simpa using hb
    clear hb
    refine AW.skip ?_
    refine AW.seq ?_
    refine AW.block ?_
    refine AW.region (At.start ?_)
    refine At.auto 4 (by kernel_rfl) ?_
    refine At.idxSl (t := 22) (d := 18) (x := .tmp 16) (y := .tmp 17) (p := false) (es := 6) (xs := (a.map encEnt)) (kd := .i64) (i := (k : Int)) (e := 118) (by kernel_rfl) (by kernel_rfl) (by kernel_rfl) (by kernel_rfl) (by omega) (by first | omega | (simp only [List.length_map, List.length_append, List.length_take, List.length_drop, List.length_replicate, List.length_set, List.length_cons, List.length_nil]; omega)) ?_
    refine Exists.elim (show ∃ e, a[k]? = some e from ⟨_, List.getElem?_eq_getElem (by first | omega | (simp only [List.length_map, List.length_append, List.length_take, List.length_drop, List.length_replicate, List.length_set, List.length_cons, List.length_nil]; omega))⟩) fun e1 he1 => ?_
    refine At.ldVp (t := 118) (d := 19) (x := .tmp 18) (p := false) (es := 6) (xs := (a.map encEnt)) (j := k) (off := 0) (b := true) (m := 6) (encEnt e1) (.agg [.int .i64 e1.term, .int .i64 e1.cmd.kind, .int .i64 e1.cmd.release, .int .i64 e1.cmd.node, .int .i64 e1.cmd.size, .str e1.cmd.digest]) (by kernel_rfl) (by kernel_rfl) (by kernel_rfl) (by kernel_rfl) (mapGet he1) (by kernel_rfl) ?_
    refine At.call (laws_toEntry_spec  e1 ) Try.call100 true [] [] [] (by kernel_rfl) (by kernel_rfl) (by kernel_rfl) (by kernel_rfl) (by kernel_rfl) trivial ?_
    refine At.idxRef (t := 31) (d := 21) (x := .tmp 14) (y := .tmp 15) (j := 107) (xs := ((a.take k ++ List.replicate (a.length - k) zEnt).map encEnt)) (kd := .i64) (i := (k : Int)) (e := 88) (es := 6) (by kernel_rfl) (by kernel_rfl) (by kernel_rfl) (by kernel_rfl) (by kernel_rfl) (by omega) (by first | omega | (simp only [List.length_map, List.length_append, List.length_take, List.length_drop, List.length_replicate, List.length_set, List.length_cons, List.length_nil]; omega)) ?_
    refine Exists.elim (show ∃ e, (a.take k ++ List.replicate (a.length - k) zEnt)[k]? = some e from ⟨_, List.getElem?_eq_getElem (by first | omega | (simp only [List.length_map, List.length_append, List.length_take, List.length_drop, List.length_replicate, List.length_set, List.length_cons, List.length_nil]; omega))⟩) fun e2 he2 => ?_
    refine At.stEl (t := 88) (i := 107) (e := 88) (es := 6) (j := k) (off := 0) (x := .tmp 21) (y := .tmp 20) (xs := ((a.take k ++ List.replicate (a.length - k) zEnt).map encEnt)) (xs' := ((a.take (k + 1) ++ List.replicate (a.length - (k + 1)) zEnt).map encEnt)) (ys := [.int .i64 e1.term, .int .i64 e1.cmd.kind, .int .i64 e1.cmd.release, .int .i64 e1.cmd.node, .int .i64 e1.cmd.size, .str e1.cmd.digest]) (v := .agg [.int .i64 e1.term, .int .i64 e1.cmd.kind, .int .i64 e1.cmd.release, .int .i64 e1.cmd.node, .int .i64 e1.cmd.size, .str e1.cmd.digest]) (encEnt e2) (encEnt e1) (by kernel_rfl) (by kernel_rfl) (by kernel_rfl) (by kernel_rfl) (by kernel_rfl) (mapGet he2) (by kernel_rfl) (stepToV (by assumption)) ?_
    refine At.done rfl ?_
    refine AW.region (At.start ?_)
    refine At.auto 2 (by kernel_rfl) ?_
    refine At.say 13 (.int .i64 (IntKind.i64.wrap ((k : Int) + 1))) (.int .i64 ((k : Int) + 1)) (by kernel_rfl) (sayI _ (by omega)) ?_
    refine At.auto 1 (by kernel_rfl) ?_
    refine At.done rfl ?_
    exact ⟨k + 1, (by omega), (by omega), Sub.of [(107, 107)] [true, false, false, true, true] _ _ (by kernel_rfl) (by kernel_rfl) (by kernel_rfl)⟩
  · have h1 : ¬ ((k : Int) < (a.length : Int)) := by simpa using hb
    clear hb
    refine AW.exit ?_
    refine AW.seq ?_
    refine AW.region (At.start ?_)
    refine At.auto 2 (by kernel_rfl) ?_
    refine At.done rfl ?_
    refine AW.ret ?_
    refine ⟨_, Sub.refl _ _, ?_⟩
    refine KF.conv (fun w => .ref 0) (fun w => [.arr 88 6 (w.map encEnt)]) (show (a.take k ++ List.replicate (a.length - k) zEnt) = (a) from endTo (by omega)) ?_
    exact KF.mk (.inr rfl) [(107, 0)] [.ref 107] (by kernel_rfl) (by kernel_rfl) (by kernel_rfl) (by kernel_rfl) (by kernel_rfl)
set_option maxRecDepth 100000 in
set_option maxHeartbeats 4000000 in
theorem laws_toHard_spec  (a : Hard) (ha : a.log.length ≤ 1048576) : FnSpec Try.prog 37 [.agg [.int .i64 a.term, .int .i64 a.vote, .sl false 6 (a.log.map encEnt)]] [] (.agg [.int .i64 a.term, .int .i64 a.vote, .ref 0]) [.arr 88 6 (a.log.map encEnt)] := by
  refine FnSpec.of 15 Try.func37 rfl Try.ntmps37 (by simp) (AW.weakK ?_)
  refine AW.seq ?_
  refine AW.region (At.start ?_)
  refine At.auto 2 (by kernel_rfl) ?_
  refine At.done rfl ?_
  refine AW.seq ?_
  refine AW.weak (Sub.nils [⟨true, 102, some 2, 5001, 88, 6⟩] (by kernel_rfl)) ?_
  refine AW.region (At.start ?_)
  refine At.auto 1 (by kernel_rfl) ?_
  refine At.done rfl ?_
  refine AW.seq ?_
  refine AW.weak (Sub.nils [⟨true, 103, some 2, 5002, 88, 6⟩] (by kernel_rfl)) ?_
  refine AW.region (At.start ?_)
  refine At.auto 4 (by kernel_rfl) ?_
  refine At.done rfl ?_
  refine AW.seq ?_
  refine AW.region (At.start ?_)
  refine At.auto 4 (by kernel_rfl) ?_
  refine At.done rfl ?_
  refine AW.seq ?_
  refine AW.region (At.start ?_)
  refine At.auto 2 (by kernel_rfl) ?_
  refine At.call (laws_toEntryS_spec  a.log (by first | omega | (dsimp only; omega) | (simp only [List.length_map, List.length_append, List.length_take, List.length_drop, List.length_replicate, List.length_set, List.length_cons, List.length_nil]; omega))) Try.call70 true [] [(1240, 0)] [] (by kernel_rfl) (by kernel_rfl) (by kernel_rfl) (by kernel_rfl) (by kernel_rfl) trivial ?_
  refine At.auto 2 (by kernel_rfl) ?_
  refine At.done rfl ?_
  refine AW.seq ?_
  refine AW.region (At.start ?_)
  refine At.auto 2 (by kernel_rfl) ?_
  refine At.done rfl ?_
  refine AW.ret ?_
  refine ⟨_, Sub.refl _ _, ?_⟩
  exact KF.mk (.inr rfl) [(1240, 0)] [.agg [.int .i64 a.term, .int .i64 a.vote, .ref 1240]] (by kernel_rfl) (by kernel_rfl) (by kernel_rfl) (by kernel_rfl) (by kernel_rfl)
set_option maxRecDepth 100000 in
set_option maxHeartbeats 4000000 in
theorem laws_toIntS_spec  (a : List Int) (ha : a.length ≤ 1048576) : FnSpec Try.prog 38 [.sl false 1 (a.map encI)] [] (.ref 0) [.arr 3 1 (a.map encI)] := by
  refine FnSpec.of 22 Try.func38 rfl Try.ntmps38 (by simp) (AW.weakK ?_)
  refine AW.seq ?_
  refine AW.region (At.start ?_)
  refine At.auto 1 (by kernel_rfl) ?_
  refine At.done rfl ?_
  refine AW.seq ?_
  refine AW.region (At.start ?_)
  refine At.auto 2 (by kernel_rfl) ?_
  refine At.say 6 (.int .i64 (((a.map encI).length : Nat) : Int)) (.int .i64 (a.length : Int)) (by kernel_rfl) (sayLen _ _) ?_
  refine At.make (t := 25) (d := 7) (e := 3) (es := 1) (bytes := 8) (x := .tmp 6) (y := .tmp 6) (ka := .i64) (kb := .i64) (zs := [.int .i64 0]) 107 a.length ((List.replicate a.length 0).map encI) (by kernel_rfl) (by kernel_rfl) (by kernel_rfl) (by kernel_rfl) (by kernel_rfl) (by omega) (by omega) (by rw [List.map_replicate]; rfl) ?_
  refine At.auto 1 (by kernel_rfl) ?_
  refine At.done rfl ?_
  refine AW.seq ?_
  refine AW.seq ?_
  refine AW.region (At.start ?_)
  refine At.auto 1 (by kernel_rfl) ?_
  refine At.done rfl ?_
  refine AW.block ?_
  refine AW.loopW (fun (k : Nat) => Go.Sy.mk [.sl false 1 (a.map encI), .un, .un, .ref 107, .int .i64 (k : Int)] [(107, .arr 3 1 ((a.take k ++ List.replicate (a.length - k) (0 : Int)).map encI))]) (fun (k : Nat) => k ≤ a.length) (fun (k : Nat) => a.length - k) 0 (by omega) (Sub.of [(107, 107)] [true, false, false, true, true] _ _ (by kernel_rfl) (by kernel_rfl) (by kernel_rfl)) ?_
  rintro k hk
  refine AW.seq ?_
  refine AW.seq ?_
  refine AW.region (At.start ?_)
  refine At.auto 3 (by kernel_rfl) ?_
  refine At.say 10 (.int .i64 (((a.map encI).length : Nat) : Int)) (.int .i64 (a.length : Int)) (by kernel_rfl) (sayLen _ _) ?_
  refine At.auto 1 (by kernel_rfl) ?_
  refine At.done rfl ?_
  refine AW.cond (decide ((k : Int) < (a.length : Int))) (by kernel_rfl) (fun hb => ?_) (fun hb => ?_)
  · have h1 : (k : Int) < (a.length : Int) := by simpa using hb
    clear hb
    refine AW.skip ?_
    refine AW.seq ?_
    refine AW.block ?_
    refine AW.region (At.start ?_)
    refine At.auto 4 (by kernel_rfl) ?_
    refine At.idxSl (t := 25) (d := 18) (x := .tmp 16) (y := .tmp 17) (p := false) (es := 1) (xs := (a.map encI)) (kd := .i64) (i := (k : Int)) (e := 3) (by kernel_rfl) (by kernel_rfl) (by kernel_rfl) (by kernel_rfl) (by omega) (by first | omega | (simp only [List.length_map, List.length_append, List.length_take, List.length_drop, List.length_replicate, List.length_set, List.length_cons, List.length_nil]; omega)) ?_
    refine Exists.elim (show ∃ e, a[k]? = some e from ⟨_, List.getElem?_eq_getElem (by first | omega | (simp only [List.length_map, List.length_append, List.length_take, List.length_drop, List.length_replicate, List.length_set, List.length_cons, List.length_nil]; omega))⟩) fun e1 he1 => ?_
    refine At.ldVp (t := 3) (d := 19) (x := .tmp 18) (p := false) (es := 1) (xs := (a.map encI)) (j := k) (off := 0) (b := false) (m := 1) (encI e1) (.int .i64 e1) (by kernel_rfl) (by kernel_rfl) (by kernel_rfl) (by kernel_rfl) (mapGet he1) (by kernel_rfl) ?_
    refine At.idxRef (t := 25) (d := 20) (x := .tmp 14) (y := .tmp 15) (j := 107) (xs := ((a.take k ++ List.replicate (a.length - k) (0 : Int)).map encI)) (kd := .i64) (i := (k : Int)) (e := 3) (es := 1) (by kernel_rfl) (by kernel_rfl) (by kernel_rfl) (by kernel_rfl) (by kernel_rfl) (by omega) (by first | omega | (simp only [List.length_map, List.length_append, List.length_take, List.length_drop, List.length_replicate, List.length_set, List.length_cons, List.length_nil]; omega)) ?_
    refine Exists.elim (show ∃ e, (a.take k ++ List.replicate (a.length - k) (0 : Int))[k]? = some e from ⟨_, List.getElem?_eq_getElem (by first | omega | (simp only [List.length_map, List.length_append, List.length_take, List.length_drop, List.length_replicate, List.length_set, List.length_cons, List.length_nil]; omega))⟩) fun e2 he2 => ?_
    refine At.stEl (t := 3) (i := 107) (e := 3) (es := 1) (j := k) (off := 0) (x := .tmp 20) (y := .tmp 19) (xs := ((a.take k ++ List.replicate (a.length - k) (0 : Int)).map encI)) (xs' := ((a.take (k + 1) ++ List.replicate (a.length - (k + 1)) (0 : Int)).map encI)) (ys := [.int .i64 e1]) (v := .int .i64 e1) (encI e2) (encI e1) (by kernel_rfl) (by kernel_rfl) (by kernel_rfl) (by kernel_rfl) (by kernel_rfl) (mapGet he2) (by kernel_rfl) (stepToV (by assumption)) ?_
    refine At.done rfl ?_
    refine AW.region (At.start ?_)
    refine At.auto 2 (by kernel_rfl) ?_
    refine At.say 13 (.int .i64 (IntKind.i64.wrap ((k : Int) + 1))) (.int .i64 ((k : Int) + 1)) (by kernel_rfl) (sayI _ (by omega)) ?_
    refine At.auto 1 (by kernel_rfl) ?_
    refine At.done rfl ?_
    exact ⟨k + 1, (by omega), (by omega), Sub.of [(107, 107)] [true, false, false, true, true] _ _ (by kernel_rfl) (by kernel_rfl) (by kernel_rfl)⟩
  · have h1 : ¬ ((k : Int) < (a.length : Int)) := by simpa using hb
    clear hb
    refine AW.exit ?_
    refine AW.seq ?_
    refine AW.region (At.start ?_)
    refine At.auto 2 (by kernel_rfl) ?_
    refine At.done rfl ?_
    refine AW.ret ?_
    refine ⟨_, Sub.refl _ _, ?_⟩
    refine KF.conv (fun w => .ref 0) (fun w => [.arr 3 1 (w.map encI)]) (show (a.take k ++ List.replicate (a.length - k) (0 : Int)) = (a) from endTo (by omega)) ?_
    exact KF.mk (.inr rfl) [(107, 0)] [.ref 107] (by kernel_rfl) (by kernel_rfl) (by kernel_rfl) (by kernel_rfl) (by kernel_rfl)
set_option maxRecDepth 100000 in
set_option maxHeartbeats 4000000 in
theorem laws_toRaft_spec  (a : Raft) (hz : SmallR a) : FnSpec Try.prog 9 [.agg [.int .i64 a.id, .int .i64 a.of_, .int .i64 a.role, .int .i64 a.commit, .int .i64 a.hard.term, .int .i64 a.hard.vote, .sl false 6 (a.hard.log.map encEnt), .sl false 1 (a.yes.map encI), .sl false 1 (a.next.map encI), .sl false 1 (a.match_.map encI)]] [] (.agg [.int .i64 a.id, .int .i64 a.of_, .int .i64 a.role, .int .i64 a.commit, .int .i64 a.hard.term, .int .i64 a.hard.vote, .ref 0, .ref 1, .ref 2, .ref 3]) [.arr 88 6 (a.hard.log.map encEnt), .arr 3 1 (a.yes.map encI), .arr 3 1 (a.next.map encI), .arr 3 1 (a.match_.map encI)] := by
  obtain ⟨z1, z2, z3, z4⟩ := id hz
  refine FnSpec.of 33 Try.func9 rfl Try.ntmps9 (by simp) (AW.weakK ?_)
  refine AW.seq ?_
  refine AW.region (At.start ?_)
  refine At.auto 2 (by kernel_rfl) ?_
  refine At.done rfl ?_
  refine AW.seq ?_
  refine AW.weak (Sub.nils [⟨true, 102, some 6, 5001, 88, 6⟩, ⟨true, 102, some 7, 5002, 3, 1⟩, ⟨true, 102, some 8, 5003, 3, 1⟩, ⟨true, 102, some 9, 5004, 3, 1⟩] (by kernel_rfl)) ?_
  refine AW.region (At.start ?_)
  refine At.auto 1 (by kernel_rfl) ?_
  refine At.done rfl ?_
  refine AW.seq ?_
  refine AW.weak (Sub.nils [⟨true, 103, some 6, 5005, 88, 6⟩, ⟨true, 103, some 7, 5006, 3, 1⟩, ⟨true, 103, some 8, 5007, 3, 1⟩, ⟨true, 103, some 9, 5008, 3, 1⟩] (by kernel_rfl)) ?_
  refine AW.region (At.start ?_)
  refine At.auto 4 (by kernel_rfl) ?_
  refine At.done rfl ?_
  refine AW.seq ?_
  refine AW.region (At.start ?_)
  refine At.auto 4 (by kernel_rfl) ?_
  refine At.done rfl ?_
  refine AW.seq ?_
  refine AW.region (At.start ?_)
  refine At.auto 4 (by kernel_rfl) ?_
  refine At.done rfl ?_
  refine AW.seq ?_
  refine AW.region (At.start ?_)
  refine At.auto 4 (by kernel_rfl) ?_
  refine At.done rfl ?_
  refine AW.seq ?_
  refine AW.region (At.start ?_)
  refine At.auto 2 (by kernel_rfl) ?_
  refine At.call (laws_toHard_spec  a.hard (by first | omega | (dsimp only; omega) | (simp only [List.length_map, List.length_append, List.length_take, List.length_drop, List.length_replicate, List.length_set, List.length_cons, List.length_nil]; omega))) Try.call37 true [] [(1360, 0)] [] (by kernel_rfl) (by kernel_rfl) (by kernel_rfl) (by kernel_rfl) (by kernel_rfl) trivial ?_
  refine At.auto 2 (by kernel_rfl) ?_
  refine At.done rfl ?_
  refine AW.seq ?_
  refine AW.region (At.start ?_)
  refine At.auto 2 (by kernel_rfl) ?_
  refine At.call (laws_toIntS_spec  a.yes (by first | omega | (dsimp only; omega) | (simp only [List.length_map, List.length_append, List.length_take, List.length_drop, List.length_replicate, List.length_set, List.length_cons, List.length_nil]; omega))) Try.call38 true [] [(1440, 0)] [] (by kernel_rfl) (by kernel_rfl) (by kernel_rfl) (by kernel_rfl) (by kernel_rfl) trivial ?_
  refine At.auto 2 (by kernel_rfl) ?_
  refine At.done rfl ?_
  refine AW.seq ?_
  refine AW.region (At.start ?_)
  refine At.auto 2 (by kernel_rfl) ?_
  refine At.call (laws_toIntS_spec  a.next (by first | omega | (dsimp only; omega) | (simp only [List.length_map, List.length_append, List.length_take, List.length_drop, List.length_replicate, List.length_set, List.length_cons, List.length_nil]; omega))) Try.call38 true [] [(1520, 0)] [] (by kernel_rfl) (by kernel_rfl) (by kernel_rfl) (by kernel_rfl) (by kernel_rfl) trivial ?_
  refine At.auto 2 (by kernel_rfl) ?_
  refine At.done rfl ?_
  refine AW.seq ?_
  refine AW.region (At.start ?_)
  refine At.auto 2 (by kernel_rfl) ?_
  refine At.call (laws_toIntS_spec  a.match_ (by first | omega | (dsimp only; omega) | (simp only [List.length_map, List.length_append, List.length_take, List.length_drop, List.length_replicate, List.length_set, List.length_cons, List.length_nil]; omega))) Try.call38 true [] [(1600, 0)] [] (by kernel_rfl) (by kernel_rfl) (by kernel_rfl) (by kernel_rfl) (by kernel_rfl) trivial ?_
  refine At.auto 2 (by kernel_rfl) ?_
  refine At.done rfl ?_
  refine AW.seq ?_
  refine AW.region (At.start ?_)
  refine At.auto 2 (by kernel_rfl) ?_
  refine At.done rfl ?_
  refine AW.ret ?_
  refine ⟨_, Sub.refl _ _, ?_⟩
  exact KF.mk (.inr rfl) [(1360, 0), (1440, 1), (1520, 2), (1600, 3)] [.agg [.int .i64 a.id, .int .i64 a.of_, .int .i64 a.role, .int .i64 a.commit, .int .i64 a.hard.term, .int .i64 a.hard.vote, .ref 1360, .ref 1440, .ref 1520, .ref 1600]] (by kernel_rfl) (by kernel_rfl) (by kernel_rfl) (by kernel_rfl) (by kernel_rfl)
set_option maxRecDepth 100000 in
set_option maxHeartbeats 4000000 in
theorem spec_l7Of_spec  (of : Int) : FnSpec Try.prog 77 [.int .i64 of] [] (.bool (ofOk of)) [] := by
  refine FnSpec.of 13 Try.func77 rfl Try.ntmps77 (by simp) (AW.weakK ?_)
  refine AW.seq ?_
  refine AW.region (At.start ?_)
  refine At.auto 1 (by kernel_rfl) ?_
  refine At.done rfl ?_
  refine AW.seq ?_
  refine AW.region (At.start ?_)
  refine At.auto 3 (by kernel_rfl) ?_
  by_cases h1 : of = 1
  · refine At.say 5 (.bool (of == 1)) (.bool true) (by kernel_rfl) (sayET h1) ?_
    refine At.auto 8 (by kernel_rfl) ?_
    refine At.done rfl ?_
    refine AW.ret ?_
    refine ⟨_, Sub.refl _ _, ?_⟩
    refine KF.conv (fun w => .bool w) (fun w => []) (show (true) = (ofOk of) from by simp_all [ofOk]) ?_
    exact KF.mk (.inr rfl) [] [.bool true] (by kernel_rfl) (by kernel_rfl) (by kernel_rfl) (by kernel_rfl) (by kernel_rfl)
  · refine At.say 5 (.bool (of == 1)) (.bool false) (by kernel_rfl) (sayEF h1) ?_
    refine At.auto 4 (by kernel_rfl) ?_
    by_cases h2 : of = 3
    · refine At.say 9 (.bool (of == 3)) (.bool true) (by kernel_rfl) (sayET h2) ?_
      refine At.auto 4 (by kernel_rfl) ?_
      refine At.done rfl ?_
      refine AW.ret ?_
      refine ⟨_, Sub.refl _ _, ?_⟩
      refine KF.conv (fun w => .bool w) (fun w => []) (show (true) = (ofOk of) from by simp_all [ofOk]) ?_
      exact KF.mk (.inr rfl) [] [.bool true] (by kernel_rfl) (by kernel_rfl) (by kernel_rfl) (by kernel_rfl) (by kernel_rfl)
    · refine At.say 9 (.bool (of == 3)) (.bool false) (by kernel_rfl) (sayEF h2) ?_
      refine At.auto 4 (by kernel_rfl) ?_
      refine At.done rfl ?_
      refine AW.ret ?_
      refine ⟨_, Sub.refl _ _, ?_⟩
      refine KF.conv (fun w => .bool w) (fun w => []) (show (of == 5) = (ofOk of) from by simp_all [ofOk]) ?_
      exact KF.mk (.inr rfl) [] [.bool (of == 5)] (by kernel_rfl) (by kernel_rfl) (by kernel_rfl) (by kernel_rfl) (by kernel_rfl)
set_option maxRecDepth 100000 in
set_option maxHeartbeats 4000000 in
theorem spec_l1In_spec  (x : Int) (lo : Int) (hi : Int) : FnSpec Try.prog 78 [.int .i64 x, .int .i64 lo, .int .i64 hi] [] (.bool (inR x lo hi)) [] := by
  refine FnSpec.of 15 Try.func78 rfl Try.ntmps78 (by simp) (AW.weakK ?_)
  refine AW.seq ?_
  refine AW.region (At.start ?_)
  refine At.auto 1 (by kernel_rfl) ?_
  refine At.done rfl ?_
  refine AW.seq ?_
  refine AW.region (At.start ?_)
  refine At.auto 4 (by kernel_rfl) ?_
  by_cases h1 : x ≥ lo
  · refine At.say 10 (.bool (decide (x ≥ lo))) (.bool true) (by kernel_rfl) (sayT h1) ?_
    refine At.auto 5 (by kernel_rfl) ?_
    refine At.done rfl ?_
    refine AW.ret ?_
    refine ⟨_, Sub.refl _ _, ?_⟩
    refine KF.conv (fun w => .bool w) (fun w => []) (show (decide (x ≤ hi)) = (inR x lo hi) from by simp [inR, *]) ?_
    exact KF.mk (.inr rfl) [] [.bool (decide (x ≤ hi))] (by kernel_rfl) (by kernel_rfl) (by kernel_rfl) (by kernel_rfl) (by kernel_rfl)
  · refine At.say 10 (.bool (decide (x ≥ lo))) (.bool false) (by kernel_rfl) (sayF h1) ?_
    refine At.auto 5 (by kernel_rfl) ?_
    refine At.done rfl ?_
    refine AW.ret ?_
    refine ⟨_, Sub.refl _ _, ?_⟩
    refine KF.conv (fun w => .bool w) (fun w => []) (show (false) = (inR x lo hi) from by simp [inR, *]) ?_
    exact KF.mk (.inr rfl) [] [.bool false] (by kernel_rfl) (by kernel_rfl) (by kernel_rfl) (by kernel_rfl) (by kernel_rfl)
set_option maxRecDepth 100000 in
set_option maxHeartbeats 4000000 in
theorem spec_l1Whole_spec  (x : Int) : FnSpec Try.prog 103 [.int .i64 x] [] (.bool (inR x 0 1000000000)) [] := by
  refine FnSpec.of 5 Try.func103 rfl Try.ntmps103 (by simp) (AW.weakK ?_)
  refine AW.seq ?_
  refine AW.region (At.start ?_)
  refine At.auto 1 (by kernel_rfl) ?_
  refine At.done rfl ?_
  refine AW.seq ?_
  refine AW.region (At.start ?_)
  refine At.auto 1 (by kernel_rfl) ?_
  refine At.call (spec_l1In_spec  x 0 1000000000 ) Try.call78 true [] [] [] (by kernel_rfl) (by kernel_rfl) (by kernel_rfl) (by kernel_rfl) (by kernel_rfl) trivial ?_
  refine At.auto 1 (by kernel_rfl) ?_
  refine At.done rfl ?_
  refine AW.ret ?_
  refine ⟨_, Sub.refl _ _, ?_⟩
  exact KF.mk (.inr rfl) [] [.bool (inR x 0 1000000000)] (by kernel_rfl) (by kernel_rfl) (by kernel_rfl) (by kernel_rfl) (by kernel_rfl)
set_option maxRecDepth 100000 in
set_option maxHeartbeats 4000000 in
theorem spec_CmdOk_spec  (c : Cmd) : FnSpec Try.prog 52 [.agg [.int .i64 c.kind, .int .i64 c.release, .int .i64 c.node, .int .i64 c.size, .str c.digest]] [] (.bool (cmdOk c)) [] := by
  refine FnSpec.of 60 Try.func52 rfl Try.ntmps52 (by simp) (AW.weakK ?_)
  refine AW.seq ?_
  refine AW.region (At.start ?_)
  refine At.auto 2 (by kernel_rfl) ?_
  refine At.done rfl ?_
  refine AW.seq ?_
  refine AW.region (At.start ?_)
  refine At.auto 5 (by kernel_rfl) ?_
  refine At.done rfl ?_
  refine AW.seq ?_
  refine AW.seq ?_
  refine AW.region (At.start ?_)
  refine At.auto 3 (by kernel_rfl) ?_
  refine At.done rfl ?_
  refine AW.cond (c.kind == 1) (by kernel_rfl) (fun hb => ?_) (fun hb => ?_)
  · have h1 : c.kind = 1 := by simpa using hb
    clear hb
    refine AW.seq ?_
    refine AW.region (At.start ?_)
    refine At.auto 2 (by kernel_rfl) ?_
    refine At.eqA (t := 48) (u := 48) (d := 12) (op := .eql) (x := .tmp 10) (y := .tmp 11) (X := [.int .i64 c.kind, .int .i64 c.release, .int .i64 c.node, .int .i64 c.size, .str c.digest]) (Y := [.int .i64 c.kind, .int .i64 0, .int .i64 0, .int .i64 0, .str (⟨#[]⟩)]) (cmdEq c (⟨c.kind, 0, 0, 0, ⟨#[]⟩⟩ : Cmd)) (by kernel_rfl) (by kernel_rfl) (by kernel_rfl) (by kernel_rfl) (by kernel_rfl) (.bool (cmdEq c (⟨c.kind, 0, 0, 0, ⟨#[]⟩⟩ : Cmd))) (.inl ⟨rfl, rfl⟩) ?_
    refine At.auto 1 (by kernel_rfl) ?_
    refine At.done rfl ?_
    refine AW.ret ?_
    refine ⟨_, Sub.refl _ _, ?_⟩
    refine KF.conv (fun w => .bool w) (fun w => []) (show (cmdEq c (⟨c.kind, 0, 0, 0, ⟨#[]⟩⟩ : Cmd)) = (cmdOk c) from by (try simp only [inR_iff, inR_not] at *); rw [Bool.eq_iff_iff]; simp only [cmdOk, cmdEq, noBytes]; (repeat' split) <;> (try simp [inR_iff]) <;> grind) ?_
    exact KF.mk (.inr rfl) [] [.bool (cmdEq c (⟨c.kind, 0, 0, 0, ⟨#[]⟩⟩ : Cmd))] (by kernel_rfl) (by kernel_rfl) (by kernel_rfl) (by kernel_rfl) (by kernel_rfl)
  · have h1 : ¬ (c.kind = 1) := by simpa using hb
    clear hb
    refine AW.skip ?_
    refine AW.seq ?_
    refine AW.seq ?_
    refine AW.region (At.start ?_)
    refine At.auto 2 (by kernel_rfl) ?_
    refine At.call (spec_l1In_spec  c.kind 2 5 ) Try.call78 true [] [] [] (by kernel_rfl) (by kernel_rfl) (by kernel_rfl) (by kernel_rfl) (by kernel_rfl) trivial ?_
    refine At.auto 2 (by kernel_rfl) ?_
    by_cases h2 : (inR c.kind 2 5) = true
    · refine At.say 17 (.bool (!(inR c.kind 2 5))) (.bool false) (by kernel_rfl) (sayNF (sayB h2)) ?_
      refine At.auto 2 (by kernel_rfl) ?_
      refine At.call (spec_l1In_spec  c.release 1 1000 ) Try.call78 true [] [] [] (by kernel_rfl) (by kernel_rfl) (by kernel_rfl) (by kernel_rfl) (by kernel_rfl) trivial ?_
      refine At.auto 2 (by kernel_rfl) ?_
      refine At.done rfl ?_
      refine AW.cond (!(inR c.release 1 1000)) (by kernel_rfl) (fun hb => ?_) (fun hb => ?_)
      · have h3 : (inR c.release 1 1000) = false := by simpa using hb
        clear hb
        refine AW.seq ?_
        refine AW.region (At.start ?_)
        refine At.auto 1 (by kernel_rfl) ?_
        refine At.done rfl ?_
        refine AW.ret ?_
        refine ⟨_, Sub.refl _ _, ?_⟩
        refine KF.conv (fun w => .bool w) (fun w => []) (show (false) = (cmdOk c) from by (try simp only [inR_iff, inR_not] at *); rw [Bool.eq_iff_iff]; simp only [cmdOk, cmdEq, noBytes]; (repeat' split) <;> (try simp [inR_iff]) <;> grind) ?_
        exact KF.mk (.inr rfl) [] [.bool false] (by kernel_rfl) (by kernel_rfl) (by kernel_rfl) (by kernel_rfl) (by kernel_rfl)
      · have h3 : (inR c.release 1 1000) = true := by simpa using hb
        clear hb
        refine AW.skip ?_
        refine AW.seq ?_
        refine AW.region (At.start ?_)
        refine At.auto 4 (by kernel_rfl) ?_
        refine At.done rfl ?_
        refine AW.seq ?_
        refine AW.seq ?_
        refine AW.region (At.start ?_)
        refine At.auto 2 (by kernel_rfl) ?_
        refine At.done rfl ?_
        refine AW.block ?_
        refine AW.seq ?_
        refine AW.region (At.start ?_)
        refine At.auto 2 (by kernel_rfl) ?_
        refine At.done rfl ?_
        refine AW.cond (c.kind == 2) (by kernel_rfl) (fun hb => ?_) (fun hb => ?_)
        · have h4 : c.kind = 2 := by simpa using hb
          clear hb
          refine AW.seq ?_
          refine AW.region (At.start ?_)
          refine At.auto 2 (by kernel_rfl) ?_
          refine At.call (spec_l1In_spec  c.size 0 1000 ) Try.call78 true [] [] [] (by kernel_rfl) (by kernel_rfl) (by kernel_rfl) (by kernel_rfl) (by kernel_rfl) trivial ?_
          refine At.auto 1 (by kernel_rfl) ?_
          by_cases h5 : (inR c.size 0 1000) = true
          · refine At.say 33 (.bool (inR c.size 0 1000)) (.bool true) (by kernel_rfl) (sayB h5) ?_
            refine At.auto 6 (by kernel_rfl) ?_
            by_cases h6 : (c.digest.size : Int) = 32
            · refine At.say 39 (.bool ((c.digest.size : Int) == 32)) (.bool true) (by kernel_rfl) (sayET h6) ?_
              refine At.auto 5 (by kernel_rfl) ?_
              refine At.done rfl ?_
              refine AW.ret ?_
              refine ⟨_, Sub.refl _ _, ?_⟩
              refine KF.conv (fun w => .bool w) (fun w => []) (show (c.node == 0) = (cmdOk c) from by (try simp only [inR_iff, inR_not] at *); rw [Bool.eq_iff_iff]; simp only [cmdOk, cmdEq, noBytes]; (repeat' split) <;> (try simp [inR_iff]) <;> grind) ?_
              exact KF.mk (.inr rfl) [] [.bool (c.node == 0)] (by kernel_rfl) (by kernel_rfl) (by kernel_rfl) (by kernel_rfl) (by kernel_rfl)
            · refine At.say 39 (.bool ((c.digest.size : Int) == 32)) (.bool false) (by kernel_rfl) (sayEF h6) ?_
              refine At.auto 5 (by kernel_rfl) ?_
              refine At.done rfl ?_
              refine AW.ret ?_
              refine ⟨_, Sub.refl _ _, ?_⟩
              refine KF.conv (fun w => .bool w) (fun w => []) (show (false) = (cmdOk c) from by (try simp only [inR_iff, inR_not] at *); rw [Bool.eq_iff_iff]; simp only [cmdOk, cmdEq, noBytes]; (repeat' split) <;> (try simp [inR_iff]) <;> grind) ?_
              exact KF.mk (.inr rfl) [] [.bool false] (by kernel_rfl) (by kernel_rfl) (by kernel_rfl) (by kernel_rfl) (by kernel_rfl)
          · refine At.say 33 (.bool (inR c.size 0 1000)) (.bool false) (by kernel_rfl) (sayB (Bool.eq_false_iff.2 h5)) ?_
            replace h5 := Bool.eq_false_iff.2 h5
            refine At.auto 11 (by kernel_rfl) ?_
            refine At.done rfl ?_
            refine AW.ret ?_
            refine ⟨_, Sub.refl _ _, ?_⟩
            refine KF.conv (fun w => .bool w) (fun w => []) (show (false) = (cmdOk c) from by (try simp only [inR_iff, inR_not] at *); rw [Bool.eq_iff_iff]; simp only [cmdOk, cmdEq, noBytes]; (repeat' split) <;> (try simp [inR_iff]) <;> grind) ?_
            exact KF.mk (.inr rfl) [] [.bool false] (by kernel_rfl) (by kernel_rfl) (by kernel_rfl) (by kernel_rfl) (by kernel_rfl)
        · have h4 : ¬ (c.kind = 2) := by simpa using hb
          clear hb
          refine AW.seq ?_
          refine AW.region (At.start ?_)
          refine At.auto 2 (by kernel_rfl) ?_
          refine At.done rfl ?_
          refine AW.cond (c.kind == 3) (by kernel_rfl) (fun hb => ?_) (fun hb => ?_)
          · have h7 : c.kind = 3 := by simpa using hb
            clear hb
            refine AW.seq ?_
            refine AW.region (At.start ?_)
            refine At.auto 4 (by kernel_rfl) ?_
            refine At.done rfl ?_
            refine AW.seq ?_
            refine AW.region (At.start ?_)
            refine At.auto 2 (by kernel_rfl) ?_
            refine At.call (spec_l1In_spec  c.node 0 4 ) Try.call78 true [] [] [] (by kernel_rfl) (by kernel_rfl) (by kernel_rfl) (by kernel_rfl) (by kernel_rfl) trivial ?_
            refine At.auto 1 (by kernel_rfl) ?_
            by_cases h8 : (inR c.node 0 4) = true
            · refine At.say 52 (.bool (inR c.node 0 4)) (.bool true) (by kernel_rfl) (sayB h8) ?_
              refine At.auto 2 (by kernel_rfl) ?_
              refine At.eqA (t := 48) (u := 48) (d := 55) (op := .eql) (x := .tmp 53) (y := .tmp 54) (X := [.int .i64 c.kind, .int .i64 c.release, .int .i64 c.node, .int .i64 c.size, .str c.digest]) (Y := [.int .i64 c.kind, .int .i64 c.release, .int .i64 c.node, .int .i64 0, .str (⟨#[]⟩)]) (cmdEq c (⟨c.kind, c.release, c.node, 0, ⟨#[]⟩⟩ : Cmd)) (by kernel_rfl) (by kernel_rfl) (by kernel_rfl) (by kernel_rfl) (by kernel_rfl) (.bool (cmdEq c (⟨c.kind, c.release, c.node, 0, ⟨#[]⟩⟩ : Cmd))) (.inl ⟨rfl, rfl⟩) ?_
              refine At.auto 2 (by kernel_rfl) ?_
              refine At.done rfl ?_
              refine AW.ret ?_
              refine ⟨_, Sub.refl _ _, ?_⟩
              refine KF.conv (fun w => .bool w) (fun w => []) (show (cmdEq c (⟨c.kind, c.release, c.node, 0, ⟨#[]⟩⟩ : Cmd)) = (cmdOk c) from by (try simp only [inR_iff, inR_not] at *); rw [Bool.eq_iff_iff]; simp only [cmdOk, cmdEq, noBytes]; (repeat' split) <;> (try simp [inR_iff]) <;> grind) ?_
              exact KF.mk (.inr rfl) [] [.bool (cmdEq c (⟨c.kind, c.release, c.node, 0, ⟨#[]⟩⟩ : Cmd))] (by kernel_rfl) (by kernel_rfl) (by kernel_rfl) (by kernel_rfl) (by kernel_rfl)
            · refine At.say 52 (.bool (inR c.node 0 4)) (.bool false) (by kernel_rfl) (sayB (Bool.eq_false_iff.2 h8)) ?_
              replace h8 := Bool.eq_false_iff.2 h8
              refine At.auto 5 (by kernel_rfl) ?_
              refine At.done rfl ?_
              refine AW.ret ?_
              refine ⟨_, Sub.refl _ _, ?_⟩
              refine KF.conv (fun w => .bool w) (fun w => []) (show (false) = (cmdOk c) from by (try simp only [inR_iff, inR_not] at *); rw [Bool.eq_iff_iff]; simp only [cmdOk, cmdEq, noBytes]; (repeat' split) <;> (try simp [inR_iff]) <;> grind) ?_
              exact KF.mk (.inr rfl) [] [.bool false] (by kernel_rfl) (by kernel_rfl) (by kernel_rfl) (by kernel_rfl) (by kernel_rfl)
          · have h7 : ¬ (c.kind = 3) := by simpa using hb
            clear hb
            refine AW.skip ?_
            refine AW.seq ?_
            refine AW.region (At.start ?_)
            refine At.auto 2 (by kernel_rfl) ?_
            refine At.eqA (t := 48) (u := 48) (d := 59) (op := .eql) (x := .tmp 57) (y := .tmp 58) (X := [.int .i64 c.kind, .int .i64 c.release, .int .i64 c.node, .int .i64 c.size, .str c.digest]) (Y := [.int .i64 c.kind, .int .i64 c.release, .int .i64 0, .int .i64 0, .str (⟨#[]⟩)]) (cmdEq c (⟨c.kind, c.release, 0, 0, ⟨#[]⟩⟩ : Cmd)) (by kernel_rfl) (by kernel_rfl) (by kernel_rfl) (by kernel_rfl) (by kernel_rfl) (.bool (cmdEq c (⟨c.kind, c.release, 0, 0, ⟨#[]⟩⟩ : Cmd))) (.inl ⟨rfl, rfl⟩) ?_
            refine At.auto 1 (by kernel_rfl) ?_
            refine At.done rfl ?_
            refine AW.ret ?_
            refine ⟨_, Sub.refl _ _, ?_⟩
            refine KF.conv (fun w => .bool w) (fun w => []) (show (cmdEq c (⟨c.kind, c.release, 0, 0, ⟨#[]⟩⟩ : Cmd)) = (cmdOk c) from by (try simp only [inR_iff, inR_not] at *); rw [Bool.eq_iff_iff]; simp only [cmdOk, cmdEq, noBytes]; (repeat' split) <;> (try simp [inR_iff]) <;> grind) ?_
            exact KF.mk (.inr rfl) [] [.bool (cmdEq c (⟨c.kind, c.release, 0, 0, ⟨#[]⟩⟩ : Cmd))] (by kernel_rfl) (by kernel_rfl) (by kernel_rfl) (by kernel_rfl) (by kernel_rfl)
    · refine At.say 17 (.bool (!(inR c.kind 2 5))) (.bool true) (by kernel_rfl) (sayNT (sayB (Bool.eq_false_iff.2 h2))) ?_
      replace h2 := Bool.eq_false_iff.2 h2
      refine At.auto 5 (by kernel_rfl) ?_
      refine At.done rfl ?_
      refine AW.cond true (by kernel_rfl) (fun _ => ?_) (fun h => by cases h)
      refine AW.seq ?_
      refine AW.region (At.start ?_)
      refine At.auto 1 (by kernel_rfl) ?_
      refine At.done rfl ?_
      refine AW.ret ?_
      refine ⟨_, Sub.refl _ _, ?_⟩
      refine KF.conv (fun w => .bool w) (fun w => []) (show (false) = (cmdOk c) from by (try simp only [inR_iff, inR_not] at *); rw [Bool.eq_iff_iff]; simp only [cmdOk, cmdEq, noBytes]; (repeat' split) <;> (try simp [inR_iff]) <;> grind) ?_
      exact KF.mk (.inr rfl) [] [.bool false] (by kernel_rfl) (by kernel_rfl) (by kernel_rfl) (by kernel_rfl) (by kernel_rfl)
set_option maxRecDepth 100000 in
set_option maxHeartbeats 4000000 in
theorem spec_l6Entry_spec  (e : Ent) : FnSpec Try.prog 104 [.agg [.int .i64 e.term, .int .i64 e.cmd.kind, .int .i64 e.cmd.release, .int .i64 e.cmd.node, .int .i64 e.cmd.size, .str e.cmd.digest]] [] (.bool (entOk e)) [] := by
  refine FnSpec.of 11 Try.func104 rfl Try.ntmps104 (by simp) (AW.weakK ?_)
  refine AW.seq ?_
  refine AW.region (At.start ?_)
  refine At.auto 2 (by kernel_rfl) ?_
  refine At.done rfl ?_
  refine AW.seq ?_
  refine AW.region (At.start ?_)
  refine At.auto 2 (by kernel_rfl) ?_
  refine At.call (spec_l1In_spec  e.term 1 1000000000 ) Try.call78 true [] [] [] (by kernel_rfl) (by kernel_rfl) (by kernel_rfl) (by kernel_rfl) (by kernel_rfl) trivial ?_
  refine At.auto 1 (by kernel_rfl) ?_
  by_cases h1 : (inR e.term 1 1000000000) = true
  · refine At.say 6 (.bool (inR e.term 1 1000000000)) (.bool true) (by kernel_rfl) (sayB h1) ?_
    have h1i := inR_iff.1 h1
    refine At.auto 2 (by kernel_rfl) ?_
    refine At.call (spec_CmdOk_spec  e.cmd ) Try.call52 true [] [] [] (by kernel_rfl) (by kernel_rfl) (by kernel_rfl) (by kernel_rfl) (by kernel_rfl) trivial ?_
    refine At.auto 2 (by kernel_rfl) ?_
    refine At.done rfl ?_
    refine AW.ret ?_
    refine ⟨_, Sub.refl _ _, ?_⟩
    refine KF.conv (fun w => .bool w) (fun w => []) (show (cmdOk e.cmd) = (entOk e) from by (try simp only [inR_iff, inR_not] at *); rw [Bool.eq_iff_iff]; simp only [entOk, noBytes]; (repeat' split) <;> (try simp [inR_iff]) <;> grind) ?_
    exact KF.mk (.inr rfl) [] [.bool (cmdOk e.cmd)] (by kernel_rfl) (by kernel_rfl) (by kernel_rfl) (by kernel_rfl) (by kernel_rfl)
  · refine At.say 6 (.bool (inR e.term 1 1000000000)) (.bool false) (by kernel_rfl) (sayB (Bool.eq_false_iff.2 h1)) ?_
    replace h1 := Bool.eq_false_iff.2 h1
    refine At.auto 5 (by kernel_rfl) ?_
    refine At.done rfl ?_
    refine AW.ret ?_
    refine ⟨_, Sub.refl _ _, ?_⟩
    refine KF.conv (fun w => .bool w) (fun w => []) (show (false) = (entOk e) from by (try simp only [inR_iff, inR_not] at *); rw [Bool.eq_iff_iff]; simp only [entOk, noBytes]; (repeat' split) <;> (try simp [inR_iff]) <;> grind) ?_
    exact KF.mk (.inr rfl) [] [.bool false] (by kernel_rfl) (by kernel_rfl) (by kernel_rfl) (by kernel_rfl) (by kernel_rfl)
set_option maxRecDepth 100000 in
set_option maxHeartbeats 4000000 in
theorem spec_HardOk_spec  (h : Hard) (hl : h.log.length ≤ 1048576) : FnSpec Try.prog 79 [.agg [.int .i64 h.term, .int .i64 h.vote, .sl false 6 (h.log.map encEnt)]] [] (.bool (hardOk h)) [] := by
  refine FnSpec.of 65 Try.func79 rfl Try.ntmps79 (by simp) (AW.weakK ?_)
  refine AW.seq ?_
  refine AW.region (At.start ?_)
  refine At.auto 2 (by kernel_rfl) ?_
  refine At.done rfl ?_
  refine AW.seq ?_
  refine AW.seq ?_
  refine AW.region (At.start ?_)
  refine At.auto 2 (by kernel_rfl) ?_
  refine At.call (spec_l1Whole_spec  h.term ) Try.call103 true [] [] [] (by kernel_rfl) (by kernel_rfl) (by kernel_rfl) (by kernel_rfl) (by kernel_rfl) trivial ?_
  refine At.auto 2 (by kernel_rfl) ?_
  by_cases h1 : (inR h.term 0 1000000000) = true
  · refine At.say 8 (.bool (!(inR h.term 0 1000000000))) (.bool false) (by kernel_rfl) (sayNF (sayB h1)) ?_
    have h1i := inR_iff.1 h1
    refine At.auto 2 (by kernel_rfl) ?_
    refine At.call (spec_l1In_spec  h.vote 0 5 ) Try.call78 true [] [] [] (by kernel_rfl) (by kernel_rfl) (by kernel_rfl) (by kernel_rfl) (by kernel_rfl) trivial ?_
    refine At.auto 3 (by kernel_rfl) ?_
    by_cases h2 : (inR h.vote 0 5) = true
    · refine At.say 14 (.bool (!(inR h.vote 0 5))) (.bool false) (by kernel_rfl) (sayNF (sayB h2)) ?_
      have h2i := inR_iff.1 h2
      refine At.auto 3 (by kernel_rfl) ?_
      refine At.say 17 (.int .i64 (((h.log.map encEnt).length : Nat) : Int)) (.int .i64 (h.log.length : Int)) (by kernel_rfl) (sayLen _ _) ?_
      refine At.auto 2 (by kernel_rfl) ?_
      refine At.done rfl ?_
      refine AW.cond (decide ((h.log.length : Int) > 80)) (by kernel_rfl) (fun hb => ?_) (fun hb => ?_)
      · have h3 : (h.log.length : Int) > 80 := by simpa using hb
        clear hb
        refine AW.seq ?_
        refine AW.region (At.start ?_)
        refine At.auto 1 (by kernel_rfl) ?_
        refine At.done rfl ?_
        refine AW.ret ?_
        refine ⟨_, Sub.refl _ _, ?_⟩
        refine KF.conv (fun w => .bool w) (fun w => []) (show (false) = (hardOk h) from by first | (refine hardBad (hR.trans ?_); rw [dropCons he1]; first | exact logOk_bad1 (by omega) (by assumption) | exact logOk_bad2 (by first | omega | (rw [lastT_before (by assumption) he2]; omega))) | (have q : logOk h.term 0 h.log = true := (by rw [hR, List.drop_of_length_le (by omega)]; rfl); have : h.log.length ≤ 80 := (by omega); simp only [hardOk, q, this, h1, h2, decide_true, Bool.and_self]) | (have : ¬ h.log.length ≤ 80 := (by omega); simp [hardOk, this]; done) | (simp [hardOk, *]; done)) ?_
        exact KF.mk (.inr rfl) [] [.bool false] (by kernel_rfl) (by kernel_rfl) (by kernel_rfl) (by kernel_rfl) (by kernel_rfl)
      · have h3 : ¬ ((h.log.length : Int) > 80) := by simpa using hb
        clear hb
        refine AW.skip ?_
        refine AW.seq ?_
        refine AW.seq ?_
        refine AW.region (At.start ?_)
        refine At.auto 1 (by kernel_rfl) ?_
        refine At.done rfl ?_
        refine AW.block ?_
        refine AW.loopW (fun (k : Nat) => Go.Sy.mk [.un, .ptr 101 0 0, .un, .int .i64 (k : Int)] [(101, .box 33 [.int .i64 h.term, .int .i64 h.vote, .sl false 6 (h.log.map encEnt)])]) (fun (k : Nat) => k ≤ h.log.length ∧ logOk h.term 0 h.log = logOk h.term (lastT (h.log.take k)) (h.log.drop k)) (fun (k : Nat) => h.log.length - k) 0 ⟨by omega, by simp [lastT]⟩ (Sub.of [(101, 101)] [false, true, false, true] _ _ (by kernel_rfl) (by kernel_rfl) (by kernel_rfl)) ?_
        rintro k ⟨hk, hR⟩
        refine AW.seq ?_
        refine AW.seq ?_
        refine AW.region (At.start ?_)
        refine At.auto 4 (by kernel_rfl) ?_
        refine At.say 23 (.int .i64 (((h.log.map encEnt).length : Nat) : Int)) (.int .i64 (h.log.length : Int)) (by kernel_rfl) (sayLen _ _) ?_
        refine At.auto 1 (by kernel_rfl) ?_
        refine At.done rfl ?_
        refine AW.cond (decide ((k : Int) < (h.log.length : Int))) (by kernel_rfl) (fun hb => ?_) (fun hb => ?_)
        · have h4 : (k : Int) < (h.log.length : Int) := by simpa using hb
          clear hb
          refine AW.skip ?_
          refine AW.seq ?_
          refine AW.block ?_
          refine AW.seq ?_
          refine AW.regionD Try_mix (At.start ?_)
          refine At.auto 3 (by kernel_rfl) ?_
          refine At.idxSl (t := 31) (d := 30) (x := .tmp 28) (y := .tmp 29) (p := false) (es := 6) (xs := (h.log.map encEnt)) (kd := .i64) (i := (k : Int)) (e := 88) (by kernel_rfl) (by kernel_rfl) (by kernel_rfl) (by kernel_rfl) (by omega) (by first | omega | (simp only [List.length_map, List.length_append, List.length_take, List.length_drop, List.length_replicate, List.length_set, List.length_cons, List.length_nil]; omega)) ?_
          refine Exists.elim (show ∃ e, h.log[k]? = some e from ⟨_, List.getElem?_eq_getElem (by first | omega | (simp only [List.length_map, List.length_append, List.length_take, List.length_drop, List.length_replicate, List.length_set, List.length_cons, List.length_nil]; omega))⟩) fun e1 he1 => ?_
          refine At.ldVp (t := 88) (d := 31) (x := .tmp 30) (p := false) (es := 6) (xs := (h.log.map encEnt)) (j := k) (off := 0) (b := true) (m := 6) (encEnt e1) (.agg [.int .i64 e1.term, .int .i64 e1.cmd.kind, .int .i64 e1.cmd.release, .int .i64 e1.cmd.node, .int .i64 e1.cmd.size, .str e1.cmd.digest]) (by kernel_rfl) (by kernel_rfl) (by kernel_rfl) (by kernel_rfl) (mapGet he1) (by kernel_rfl) ?_
          refine At.call (spec_l6Entry_spec  e1 ) Try.call104 true [] [] [] (by kernel_rfl) (by kernel_rfl) (by kernel_rfl) (by kernel_rfl) (by kernel_rfl) trivial ?_
          refine At.auto 2 (by kernel_rfl) ?_
          by_cases h5 : (entOk e1) = true
          · refine At.say 34 (.bool (!(entOk e1))) (.bool false) (by kernel_rfl) (sayNF (sayB h5)) ?_
            have h5n := entOk_nums h5
            refine At.auto 3 (by kernel_rfl) ?_
            refine At.idxSl (t := 31) (d := 38) (x := .tmp 36) (y := .tmp 37) (p := false) (es := 6) (xs := (h.log.map encEnt)) (kd := .i64) (i := (k : Int)) (e := 88) (by kernel_rfl) (by kernel_rfl) (by kernel_rfl) (by kernel_rfl) (by omega) (by first | omega | (simp only [List.length_map, List.length_append, List.length_take, List.length_drop, List.length_replicate, List.length_set, List.length_cons, List.length_nil]; omega)) ?_
            refine At.auto 1 (by kernel_rfl) ?_
            refine At.ldVp (t := 3) (d := 40) (x := .tmp 39) (p := false) (es := 6) (xs := (h.log.map encEnt)) (j := k) (off := 0) (b := false) (m := 1) (encEnt e1) (.int .i64 e1.term) (by kernel_rfl) (by kernel_rfl) (by kernel_rfl) (by kernel_rfl) (mapGet he1) (by kernel_rfl) ?_
            refine At.auto 5 (by kernel_rfl) ?_
            by_cases h6 : e1.term > h.term
            · refine At.say 45 (.bool (decide (e1.term > h.term))) (.bool true) (by kernel_rfl) (sayT h6) ?_
              refine At.auto 19 (by kernel_rfl) ?_
              refine At.done rfl ⟨by kernel_rfl, ?_⟩
              refine AW.cond true (by kernel_rfl) (fun _ => ?_) (fun h => by cases h)
              refine AW.seq ?_
              refine AW.region (At.start ?_)
              refine At.auto 1 (by kernel_rfl) ?_
              refine At.done rfl ?_
              refine AW.ret ?_
              refine ⟨_, Sub.refl _ _, ?_⟩
              refine KF.conv (fun w => .bool w) (fun w => []) (show (false) = (hardOk h) from by first | (refine hardBad (hR.trans ?_); rw [dropCons he1]; first | exact logOk_bad1 (by omega) (by assumption) | exact logOk_bad2 (by first | omega | (rw [lastT_before (by assumption) he2]; omega))) | (have q : logOk h.term 0 h.log = true := (by rw [hR, List.drop_of_length_le (by omega)]; rfl); have : h.log.length ≤ 80 := (by omega); simp only [hardOk, q, this, h1, h2, decide_true, Bool.and_self]) | (have : ¬ h.log.length ≤ 80 := (by omega); simp [hardOk, this]; done) | (simp [hardOk, *]; done)) ?_
              exact KF.mk (.inr rfl) [] [.bool false] (by kernel_rfl) (by kernel_rfl) (by kernel_rfl) (by kernel_rfl) (by kernel_rfl)
            · refine At.say 45 (.bool (decide (e1.term > h.term))) (.bool false) (by kernel_rfl) (sayF h6) ?_
              refine At.auto 3 (by kernel_rfl) ?_
              by_cases h7 : (k : Int) > 0
              · refine At.say 48 (.bool (decide ((k : Int) > 0))) (.bool true) (by kernel_rfl) (sayT h7) ?_
                refine At.auto 3 (by kernel_rfl) ?_
                refine At.idxSl (t := 31) (d := 52) (x := .tmp 50) (y := .tmp 51) (p := false) (es := 6) (xs := (h.log.map encEnt)) (kd := .i64) (i := (k : Int)) (e := 88) (by kernel_rfl) (by kernel_rfl) (by kernel_rfl) (by kernel_rfl) (by omega) (by first | omega | (simp only [List.length_map, List.length_append, List.length_take, List.length_drop, List.length_replicate, List.length_set, List.length_cons, List.length_nil]; omega)) ?_
                refine At.auto 1 (by kernel_rfl) ?_
                refine At.ldVp (t := 3) (d := 54) (x := .tmp 53) (p := false) (es := 6) (xs := (h.log.map encEnt)) (j := k) (off := 0) (b := false) (m := 1) (encEnt e1) (.int .i64 e1.term) (by kernel_rfl) (by kernel_rfl) (by kernel_rfl) (by kernel_rfl) (mapGet he1) (by kernel_rfl) ?_
                refine At.auto 4 (by kernel_rfl) ?_
                refine At.say 58 (.int .i64 (IntKind.i64.wrap ((k : Int) - 1))) (.int .i64 ((k : Int) - 1)) (by kernel_rfl) (sayI _ (by omega)) ?_
                refine At.idxSl (t := 31) (d := 59) (x := .tmp 56) (y := .tmp 58) (p := false) (es := 6) (xs := (h.log.map encEnt)) (kd := .i64) (i := (k : Int) - 1) (e := 88) (by kernel_rfl) (by kernel_rfl) (by kernel_rfl) (by kernel_rfl) (by omega) (by first | omega | (simp only [List.length_map, List.length_append, List.length_take, List.length_drop, List.length_replicate, List.length_set, List.length_cons, List.length_nil]; omega)) ?_
                refine At.auto 1 (by kernel_rfl) ?_
                refine Exists.elim (show ∃ e, h.log[((k : Int) - 1).toNat]? = some e from ⟨_, List.getElem?_eq_getElem (by first | omega | (simp only [List.length_map, List.length_append, List.length_take, List.length_drop, List.length_replicate, List.length_set, List.length_cons, List.length_nil]; omega))⟩) fun e2 he2 => ?_
                refine At.ldVp (t := 3) (d := 61) (x := .tmp 60) (p := false) (es := 6) (xs := (h.log.map encEnt)) (j := ((k : Int) - 1).toNat) (off := 0) (b := false) (m := 1) (encEnt e2) (.int .i64 e2.term) (by kernel_rfl) (by kernel_rfl) (by kernel_rfl) (by kernel_rfl) (mapGet he2) (by kernel_rfl) ?_
                refine At.auto 3 (by kernel_rfl) ?_
                refine At.done rfl ⟨by kernel_rfl, ?_⟩
                refine AW.cond (decide (e1.term < e2.term)) (by kernel_rfl) (fun hb => ?_) (fun hb => ?_)
                · have h8 : e1.term < e2.term := by simpa using hb
                  clear hb
                  refine AW.seq ?_
                  refine AW.region (At.start ?_)
                  refine At.auto 1 (by kernel_rfl) ?_
                  refine At.done rfl ?_
                  refine AW.ret ?_
                  refine ⟨_, Sub.refl _ _, ?_⟩
                  refine KF.conv (fun w => .bool w) (fun w => []) (show (false) = (hardOk h) from by first | (refine hardBad (hR.trans ?_); rw [dropCons he1]; first | exact logOk_bad1 (by omega) (by assumption) | exact logOk_bad2 (by first | omega | (rw [lastT_before (by assumption) he2]; omega))) | (have q : logOk h.term 0 h.log = true := (by rw [hR, List.drop_of_length_le (by omega)]; rfl); have : h.log.length ≤ 80 := (by omega); simp only [hardOk, q, this, h1, h2, decide_true, Bool.and_self]) | (have : ¬ h.log.length ≤ 80 := (by omega); simp [hardOk, this]; done) | (simp [hardOk, *]; done)) ?_
                  exact KF.mk (.inr rfl) [] [.bool false] (by kernel_rfl) (by kernel_rfl) (by kernel_rfl) (by kernel_rfl) (by kernel_rfl)
                · have h8 : ¬ (e1.term < e2.term) := by simpa using hb
                  clear hb
                  refine AW.skip ?_
                  refine AW.region (At.start ?_)
                  refine At.auto 2 (by kernel_rfl) ?_
                  refine At.say 26 (.int .i64 (IntKind.i64.wrap ((k : Int) + 1))) (.int .i64 ((k : Int) + 1)) (by kernel_rfl) (sayI _ (by omega)) ?_
                  refine At.auto 1 (by kernel_rfl) ?_
                  refine At.done rfl ?_
                  exact ⟨k + 1, ⟨by omega, by rw [hR, dropCons he1, lastT_next he1]; exact logOk_step (by omega) (by omega) h5n.2.2 (by first | (rw [lastT_before (by assumption) he2]; omega) | (obtain rfl : k = 0 := (by omega); show (0 : Int) ≤ _; omega))⟩, (by omega), Sub.of [(101, 101)] [false, true, false, true] _ _ (by kernel_rfl) (by kernel_rfl) (by kernel_rfl)⟩
              · refine At.say 48 (.bool (decide ((k : Int) > 0))) (.bool false) (by kernel_rfl) (sayF h7) ?_
                refine At.auto 16 (by kernel_rfl) ?_
                refine At.done rfl ⟨by kernel_rfl, ?_⟩
                refine AW.cond false (by kernel_rfl) (fun h => by cases h) (fun _ => ?_)
                refine AW.skip ?_
                refine AW.region (At.start ?_)
                refine At.auto 2 (by kernel_rfl) ?_
                refine At.say 26 (.int .i64 (IntKind.i64.wrap ((k : Int) + 1))) (.int .i64 ((k : Int) + 1)) (by kernel_rfl) (sayI _ (by omega)) ?_
                refine At.auto 1 (by kernel_rfl) ?_
                refine At.done rfl ?_
                exact ⟨k + 1, ⟨by omega, by rw [hR, dropCons he1, lastT_next he1]; exact logOk_step (by omega) (by omega) h5n.2.2 (by first | (rw [lastT_before (by assumption) he2]; omega) | (obtain rfl : k = 0 := (by omega); show (0 : Int) ≤ _; omega))⟩, (by omega), Sub.of [(101, 101)] [false, true, false, true] _ _ (by kernel_rfl) (by kernel_rfl) (by kernel_rfl)⟩
          · refine At.say 34 (.bool (!(entOk e1))) (.bool true) (by kernel_rfl) (sayNT (sayB (Bool.eq_false_iff.2 h5))) ?_
            replace h5 := Bool.eq_false_iff.2 h5
            refine At.auto 30 (by kernel_rfl) ?_
            refine At.done rfl ⟨by kernel_rfl, ?_⟩
            refine AW.cond true (by kernel_rfl) (fun _ => ?_) (fun h => by cases h)
            refine AW.seq ?_
            refine AW.region (At.start ?_)
            refine At.auto 1 (by kernel_rfl) ?_
            refine At.done rfl ?_
            refine AW.ret ?_
            refine ⟨_, Sub.refl _ _, ?_⟩
            refine KF.conv (fun w => .bool w) (fun w => []) (show (false) = (hardOk h) from by first | (refine hardBad (hR.trans ?_); rw [dropCons he1]; first | exact logOk_bad1 (by omega) (by assumption) | exact logOk_bad2 (by first | omega | (rw [lastT_before (by assumption) he2]; omega))) | (have q : logOk h.term 0 h.log = true := (by rw [hR, List.drop_of_length_le (by omega)]; rfl); have : h.log.length ≤ 80 := (by omega); simp only [hardOk, q, this, h1, h2, decide_true, Bool.and_self]) | (have : ¬ h.log.length ≤ 80 := (by omega); simp [hardOk, this]; done) | (simp [hardOk, *]; done)) ?_
            exact KF.mk (.inr rfl) [] [.bool false] (by kernel_rfl) (by kernel_rfl) (by kernel_rfl) (by kernel_rfl) (by kernel_rfl)
        · have h4 : ¬ ((k : Int) < (h.log.length : Int)) := by simpa using hb
          clear hb
          refine AW.exit ?_
          refine AW.seq ?_
          refine AW.region (At.start ?_)
          refine At.auto 1 (by kernel_rfl) ?_
          refine At.done rfl ?_
          refine AW.ret ?_
          refine ⟨_, Sub.refl _ _, ?_⟩
          refine KF.conv (fun w => .bool w) (fun w => []) (show (true) = (hardOk h) from by first | (refine hardBad (hR.trans ?_); rw [dropCons he1]; first | exact logOk_bad1 (by omega) (by assumption) | exact logOk_bad2 (by first | omega | (rw [lastT_before (by assumption) he2]; omega))) | (have q : logOk h.term 0 h.log = true := (by rw [hR, List.drop_of_length_le (by omega)]; rfl); have : h.log.length ≤ 80 := (by omega); simp only [hardOk, q, this, h1, h2, decide_true, Bool.and_self]) | (have : ¬ h.log.length ≤ 80 := (by omega); simp [hardOk, this]; done) | (simp [hardOk, *]; done)) ?_
          exact KF.mk (.inr rfl) [] [.bool true] (by kernel_rfl) (by kernel_rfl) (by kernel_rfl) (by kernel_rfl) (by kernel_rfl)
    · refine At.say 14 (.bool (!(inR h.vote 0 5))) (.bool true) (by kernel_rfl) (sayNT (sayB (Bool.eq_false_iff.2 h2))) ?_
      replace h2 := Bool.eq_false_iff.2 h2
      refine At.auto 5 (by kernel_rfl) ?_
      refine At.done rfl ?_
      refine AW.cond true (by kernel_rfl) (fun _ => ?_) (fun h => by cases h)
      refine AW.seq ?_
      refine AW.region (At.start ?_)
      refine At.auto 1 (by kernel_rfl) ?_
      refine At.done rfl ?_
      refine AW.ret ?_
      refine ⟨_, Sub.refl _ _, ?_⟩
      refine KF.conv (fun w => .bool w) (fun w => []) (show (false) = (hardOk h) from by first | (refine hardBad (hR.trans ?_); rw [dropCons he1]; first | exact logOk_bad1 (by omega) (by assumption) | exact logOk_bad2 (by first | omega | (rw [lastT_before (by assumption) he2]; omega))) | (have q : logOk h.term 0 h.log = true := (by rw [hR, List.drop_of_length_le (by omega)]; rfl); have : h.log.length ≤ 80 := (by omega); simp only [hardOk, q, this, h1, h2, decide_true, Bool.and_self]) | (have : ¬ h.log.length ≤ 80 := (by omega); simp [hardOk, this]; done) | (simp [hardOk, *]; done)) ?_
      exact KF.mk (.inr rfl) [] [.bool false] (by kernel_rfl) (by kernel_rfl) (by kernel_rfl) (by kernel_rfl) (by kernel_rfl)
  · refine At.say 8 (.bool (!(inR h.term 0 1000000000))) (.bool true) (by kernel_rfl) (sayNT (sayB (Bool.eq_false_iff.2 h1))) ?_
    replace h1 := Bool.eq_false_iff.2 h1
    refine At.auto 11 (by kernel_rfl) ?_
    refine At.done rfl ?_
    refine AW.cond true (by kernel_rfl) (fun _ => ?_) (fun h => by cases h)
    refine AW.seq ?_
    refine AW.region (At.start ?_)
    refine At.auto 1 (by kernel_rfl) ?_
    refine At.done rfl ?_
    refine AW.ret ?_
    refine ⟨_, Sub.refl _ _, ?_⟩
    refine KF.conv (fun w => .bool w) (fun w => []) (show (false) = (hardOk h) from by first | (refine hardBad (hR.trans ?_); rw [dropCons he1]; first | exact logOk_bad1 (by omega) (by assumption) | exact logOk_bad2 (by first | omega | (rw [lastT_before (by assumption) he2]; omega))) | (have q : logOk h.term 0 h.log = true := (by rw [hR, List.drop_of_length_le (by omega)]; rfl); have : h.log.length ≤ 80 := (by omega); simp only [hardOk, q, this, h1, h2, decide_true, Bool.and_self]) | (have : ¬ h.log.length ≤ 80 := (by omega); simp [hardOk, this]; done) | (simp [hardOk, *]; done)) ?_
    exact KF.mk (.inr rfl) [] [.bool false] (by kernel_rfl) (by kernel_rfl) (by kernel_rfl) (by kernel_rfl) (by kernel_rfl)
set_option maxRecDepth 100000 in
set_option maxHeartbeats 4000000 in
theorem spec_l10End_spec  (r : Raft) : FnSpec Try.prog 53 [.agg [.int .i64 r.id, .int .i64 r.of_, .int .i64 r.role, .int .i64 r.commit, .int .i64 r.hard.term, .int .i64 r.hard.vote, .sl false 6 (r.hard.log.map encEnt), .sl false 1 (r.yes.map encI), .sl false 1 (r.next.map encI), .sl false 1 (r.match_.map encI)]] [] (.int .i64 (r.hard.log.length : Int)) [] := by
  refine FnSpec.of 7 Try.func53 rfl Try.ntmps53 (by simp) (AW.weakK ?_)
  refine AW.seq ?_
  refine AW.region (At.start ?_)
  refine At.auto 2 (by kernel_rfl) ?_
  refine At.done rfl ?_
  refine AW.seq ?_
  refine AW.region (At.start ?_)
  refine At.auto 4 (by kernel_rfl) ?_
  refine At.say 6 (.int .i64 (((r.hard.log.map encEnt).length : Nat) : Int)) (.int .i64 (r.hard.log.length : Int)) (by kernel_rfl) (sayLen _ _) ?_
  refine At.auto 1 (by kernel_rfl) ?_
  refine At.done rfl ?_
  refine AW.ret ?_
  refine ⟨_, Sub.refl _ _, ?_⟩
  exact KF.mk (.inr rfl) [] [.int .i64 (r.hard.log.length : Int)] (by kernel_rfl) (by kernel_rfl) (by kernel_rfl) (by kernel_rfl) (by kernel_rfl)
set_option maxRecDepth 100000 in
set_option maxHeartbeats 4000000 in
theorem spec_l7Nodes_spec  (list : List Int) (of_ : Int) (hl : list.length ≤ 1048576) (ho : 0 ≤ of_ ∧ of_ ≤ 1000) : FnSpec Try.prog 80 [.sl false 1 (list.map encI), .int .i64 of_] [] (.bool (asc (of_ - 1) (-1) list)) [] := by
  refine FnSpec.of 36 Try.func80 rfl Try.ntmps80 (by simp) (AW.weakK ?_)
  refine AW.seq ?_
  refine AW.region (At.start ?_)
  refine At.auto 1 (by kernel_rfl) ?_
  refine At.done rfl ?_
  refine AW.seq ?_
  refine AW.seq ?_
  refine AW.region (At.start ?_)
  refine At.auto 1 (by kernel_rfl) ?_
  refine At.done rfl ?_
  refine AW.block ?_
  refine AW.loopW (fun (k : Nat) => Go.Sy.mk [.sl false 1 (list.map encI), .int .i64 of_, .un, .un, .un, .int .i64 (k : Int)] []) (fun (k : Nat) => k ≤ list.length ∧ ∃ p : Int, (k = 0 → p = -1) ∧ (∀ e, 0 < k → list[k - 1]? = some e → e = p) ∧ asc (of_ - 1) (-1) list = asc (of_ - 1) p (list.drop k)) (fun (k : Nat) => list.length - k) 0 ⟨by omega, -1, by omega, by omega, by rw [List.drop_zero]⟩ (Sub.of [] [true, true, false, false, false, true] _ _ (by kernel_rfl) (by kernel_rfl) (by kernel_rfl)) ?_
  rintro k ⟨hk, p, hp0, hp1, hR⟩
  refine AW.seq ?_
  refine AW.seq ?_
  refine AW.region (At.start ?_)
  refine At.auto 3 (by kernel_rfl) ?_
  refine At.say 8 (.int .i64 (((list.map encI).length : Nat) : Int)) (.int .i64 (list.length : Int)) (by kernel_rfl) (sayLen _ _) ?_
  refine At.auto 1 (by kernel_rfl) ?_
  refine At.done rfl ?_
  refine AW.cond (decide ((k : Int) < (list.length : Int))) (by kernel_rfl) (fun hb => ?_) (fun hb => ?_)
  · have h1 : (k : Int) < (list.length : Int) := by simpa using hb
    clear hb
    refine AW.skip ?_
    refine AW.seq ?_
    refine AW.block ?_
    refine AW.seq ?_
    refine AW.regionD Try_mix (At.start ?_)
    refine At.auto 2 (by kernel_rfl) ?_
    refine At.idxSl (t := 25) (d := 14) (x := .tmp 12) (y := .tmp 13) (p := false) (es := 1) (xs := (list.map encI)) (kd := .i64) (i := (k : Int)) (e := 3) (by kernel_rfl) (by kernel_rfl) (by kernel_rfl) (by kernel_rfl) (by omega) (by first | omega | (simp only [List.length_map, List.length_append, List.length_take, List.length_drop, List.length_replicate, List.length_set, List.length_cons, List.length_nil]; omega)) ?_
    refine Exists.elim (show ∃ e, list[k]? = some e from ⟨_, List.getElem?_eq_getElem (by first | omega | (simp only [List.length_map, List.length_append, List.length_take, List.length_drop, List.length_replicate, List.length_set, List.length_cons, List.length_nil]; omega))⟩) fun e1 he1 => ?_
    refine At.ldVp (t := 3) (d := 15) (x := .tmp 14) (p := false) (es := 1) (xs := (list.map encI)) (j := k) (off := 0) (b := false) (m := 1) (encI e1) (.int .i64 e1) (by kernel_rfl) (by kernel_rfl) (by kernel_rfl) (by kernel_rfl) (mapGet he1) (by kernel_rfl) ?_
    refine At.auto 2 (by kernel_rfl) ?_
    refine At.say 17 (.int .i64 (IntKind.i64.wrap (of_ - 1))) (.int .i64 (of_ - 1)) (by kernel_rfl) (sayI _ (by omega)) ?_
    refine At.call (spec_l1In_spec  e1 0 (of_ - 1) ) Try.call78 true [] [] [] (by kernel_rfl) (by kernel_rfl) (by kernel_rfl) (by kernel_rfl) (by kernel_rfl) trivial ?_
    refine At.auto 2 (by kernel_rfl) ?_
    by_cases h2 : (inR e1 0 (of_ - 1)) = true
    · refine At.say 20 (.bool (!(inR e1 0 (of_ - 1)))) (.bool false) (by kernel_rfl) (sayNF (sayB h2)) ?_
      have h2i := inR_iff.1 h2
      refine At.auto 3 (by kernel_rfl) ?_
      by_cases h3 : (k : Int) > 0
      · refine At.say 23 (.bool (decide ((k : Int) > 0))) (.bool true) (by kernel_rfl) (sayT h3) ?_
        refine At.auto 3 (by kernel_rfl) ?_
        refine At.say 26 (.int .i64 (IntKind.i64.wrap ((k : Int) - 1))) (.int .i64 ((k : Int) - 1)) (by kernel_rfl) (sayI _ (by omega)) ?_
        refine At.idxSl (t := 25) (d := 27) (x := .tmp 24) (y := .tmp 26) (p := false) (es := 1) (xs := (list.map encI)) (kd := .i64) (i := (k : Int) - 1) (e := 3) (by kernel_rfl) (by kernel_rfl) (by kernel_rfl) (by kernel_rfl) (by omega) (by first | omega | (simp only [List.length_map, List.length_append, List.length_take, List.length_drop, List.length_replicate, List.length_set, List.length_cons, List.length_nil]; omega)) ?_
        refine Exists.elim (show ∃ e, list[((k : Int) - 1).toNat]? = some e from ⟨_, List.getElem?_eq_getElem (by first | omega | (simp only [List.length_map, List.length_append, List.length_take, List.length_drop, List.length_replicate, List.length_set, List.length_cons, List.length_nil]; omega))⟩) fun e2 he2 => ?_
        have qe2 := hp1 e2 (by omega) (by rw [show k - 1 = ((k : Int) - 1).toNat from by omega]; exact he2)
        refine At.ldVp (t := 3) (d := 28) (x := .tmp 27) (p := false) (es := 1) (xs := (list.map encI)) (j := ((k : Int) - 1).toNat) (off := 0) (b := false) (m := 1) (encI e2) (.int .i64 e2) (by kernel_rfl) (by kernel_rfl) (by kernel_rfl) (by kernel_rfl) (mapGet he2) (by kernel_rfl) ?_
        refine At.auto 2 (by kernel_rfl) ?_
        refine At.idxSl (t := 25) (d := 31) (x := .tmp 29) (y := .tmp 30) (p := false) (es := 1) (xs := (list.map encI)) (kd := .i64) (i := (k : Int)) (e := 3) (by kernel_rfl) (by kernel_rfl) (by kernel_rfl) (by kernel_rfl) (by omega) (by first | omega | (simp only [List.length_map, List.length_append, List.length_take, List.length_drop, List.length_replicate, List.length_set, List.length_cons, List.length_nil]; omega)) ?_
        refine At.ldVp (t := 3) (d := 32) (x := .tmp 31) (p := false) (es := 1) (xs := (list.map encI)) (j := k) (off := 0) (b := false) (m := 1) (encI e1) (.int .i64 e1) (by kernel_rfl) (by kernel_rfl) (by kernel_rfl) (by kernel_rfl) (mapGet he1) (by kernel_rfl) ?_
        refine At.auto 3 (by kernel_rfl) ?_
        refine At.done rfl ⟨by kernel_rfl, ?_⟩
        refine AW.cond (decide (e2 ≥ e1)) (by kernel_rfl) (fun hb => ?_) (fun hb => ?_)
        · have h4 : e2 ≥ e1 := by simpa using hb
          clear hb
          refine AW.seq ?_
          refine AW.region (At.start ?_)
          refine At.auto 1 (by kernel_rfl) ?_
          refine At.done rfl ?_
          refine AW.ret ?_
          refine ⟨_, Sub.refl _ _, ?_⟩
          refine KF.conv (fun w => .bool w) (fun w => []) (show (false) = (asc (of_ - 1) (-1) list) from by first | (rw [hR, dropCons he1]; first | exact asc_bad1 (by assumption) | exact asc_bad2 (by omega)) | (rw [hR, List.drop_of_length_le (by omega)]; rfl)) ?_
          exact KF.mk (.inr rfl) [] [.bool false] (by kernel_rfl) (by kernel_rfl) (by kernel_rfl) (by kernel_rfl) (by kernel_rfl)
        · have h4 : ¬ (e2 ≥ e1) := by simpa using hb
          clear hb
          refine AW.skip ?_
          refine AW.region (At.start ?_)
          refine At.auto 2 (by kernel_rfl) ?_
          refine At.say 11 (.int .i64 (IntKind.i64.wrap ((k : Int) + 1))) (.int .i64 ((k : Int) + 1)) (by kernel_rfl) (sayI _ (by omega)) ?_
          refine At.auto 1 (by kernel_rfl) ?_
          refine At.done rfl ?_
          exact ⟨k + 1, ⟨by omega, e1, by omega, at_k he1, by have i1 := inR_iff.1 (show inR e1 0 (of_ - 1) = true by simpa using h2); rw [hR, dropCons he1]; exact asc_step (by simpa using h2) (by omega)⟩, (by omega), Sub.of [] [true, true, false, false, false, true] _ _ (by kernel_rfl) (by kernel_rfl) (by kernel_rfl)⟩
      · refine At.say 23 (.bool (decide ((k : Int) > 0))) (.bool false) (by kernel_rfl) (sayF h3) ?_
        refine At.auto 12 (by kernel_rfl) ?_
        refine At.done rfl ⟨by kernel_rfl, ?_⟩
        refine AW.cond false (by kernel_rfl) (fun h => by cases h) (fun _ => ?_)
        refine AW.skip ?_
        refine AW.region (At.start ?_)
        refine At.auto 2 (by kernel_rfl) ?_
        refine At.say 11 (.int .i64 (IntKind.i64.wrap ((k : Int) + 1))) (.int .i64 ((k : Int) + 1)) (by kernel_rfl) (sayI _ (by omega)) ?_
        refine At.auto 1 (by kernel_rfl) ?_
        refine At.done rfl ?_
        exact ⟨k + 1, ⟨by omega, e1, by omega, at_k he1, by have i1 := inR_iff.1 (show inR e1 0 (of_ - 1) = true by simpa using h2); rw [hR, dropCons he1]; exact asc_step (by simpa using h2) (by omega)⟩, (by omega), Sub.of [] [true, true, false, false, false, true] _ _ (by kernel_rfl) (by kernel_rfl) (by kernel_rfl)⟩
    · refine At.say 20 (.bool (!(inR e1 0 (of_ - 1)))) (.bool true) (by kernel_rfl) (sayNT (sayB (Bool.eq_false_iff.2 h2))) ?_
      replace h2 := Bool.eq_false_iff.2 h2
      refine At.auto 15 (by kernel_rfl) ?_
      refine At.done rfl ⟨by kernel_rfl, ?_⟩
      refine AW.cond true (by kernel_rfl) (fun _ => ?_) (fun h => by cases h)
      refine AW.seq ?_
      refine AW.region (At.start ?_)
      refine At.auto 1 (by kernel_rfl) ?_
      refine At.done rfl ?_
      refine AW.ret ?_
      refine ⟨_, Sub.refl _ _, ?_⟩
      refine KF.conv (fun w => .bool w) (fun w => []) (show (false) = (asc (of_ - 1) (-1) list) from by first | (rw [hR, dropCons he1]; first | exact asc_bad1 (by assumption) | exact asc_bad2 (by omega)) | (rw [hR, List.drop_of_length_le (by omega)]; rfl)) ?_
      exact KF.mk (.inr rfl) [] [.bool false] (by kernel_rfl) (by kernel_rfl) (by kernel_rfl) (by kernel_rfl) (by kernel_rfl)
  · have h1 : ¬ ((k : Int) < (list.length : Int)) := by simpa using hb
    clear hb
    refine AW.exit ?_
    refine AW.seq ?_
    refine AW.region (At.start ?_)
    refine At.auto 1 (by kernel_rfl) ?_
    refine At.done rfl ?_
    refine AW.ret ?_
    refine ⟨_, Sub.refl _ _, ?_⟩
    refine KF.conv (fun w => .bool w) (fun w => []) (show (true) = (asc (of_ - 1) (-1) list) from by first | (rw [hR, dropCons he1]; first | exact asc_bad1 (by assumption) | exact asc_bad2 (by omega)) | (rw [hR, List.drop_of_length_le (by omega)]; rfl)) ?_
    exact KF.mk (.inr rfl) [] [.bool true] (by kernel_rfl) (by kernel_rfl) (by kernel_rfl) (by kernel_rfl) (by kernel_rfl)
set_option maxRecDepth 100000 in
set_option maxHeartbeats 4000000 in
theorem spec_l7Has_spec  (list : List Int) (x : Int) (hl : list.length ≤ 1048576) : FnSpec Try.prog 81 [.sl false 1 (list.map encI), .int .i64 x] [] (.bool (hasI x list)) [] := by
  refine FnSpec.of 18 Try.func81 rfl Try.ntmps81 (by simp) (AW.weakK ?_)
  refine AW.seq ?_
  refine AW.region (At.start ?_)
  refine At.auto 1 (by kernel_rfl) ?_
  refine At.done rfl ?_
  refine AW.seq ?_
  refine AW.seq ?_
  refine AW.region (At.start ?_)
  refine At.auto 1 (by kernel_rfl) ?_
  refine At.done rfl ?_
  refine AW.block ?_
  refine AW.loopW (fun (k : Nat) => Go.Sy.mk [.sl false 1 (list.map encI), .int .i64 x, .un, .un, .un, .int .i64 (k : Int)] []) (fun (k : Nat) => k ≤ list.length ∧ hasI x list = hasI x (list.drop k)) (fun (k : Nat) => list.length - k) 0 ⟨by omega, by rw [List.drop_zero]⟩ (Sub.of [] [true, true, false, false, false, true] _ _ (by kernel_rfl) (by kernel_rfl) (by kernel_rfl)) ?_
  rintro k ⟨hk, hR⟩
  refine AW.seq ?_
  refine AW.seq ?_
  refine AW.region (At.start ?_)
  refine At.auto 3 (by kernel_rfl) ?_
  refine At.say 8 (.int .i64 (((list.map encI).length : Nat) : Int)) (.int .i64 (list.length : Int)) (by kernel_rfl) (sayLen _ _) ?_
  refine At.auto 1 (by kernel_rfl) ?_
  refine At.done rfl ?_
  refine AW.cond (decide ((k : Int) < (list.length : Int))) (by kernel_rfl) (fun hb => ?_) (fun hb => ?_)
  · have h1 : (k : Int) < (list.length : Int) := by simpa using hb
    clear hb
    refine AW.skip ?_
    refine AW.seq ?_
    refine AW.block ?_
    refine AW.seq ?_
    refine AW.region (At.start ?_)
    refine At.auto 2 (by kernel_rfl) ?_
    refine At.idxSl (t := 25) (d := 14) (x := .tmp 12) (y := .tmp 13) (p := false) (es := 1) (xs := (list.map encI)) (kd := .i64) (i := (k : Int)) (e := 3) (by kernel_rfl) (by kernel_rfl) (by kernel_rfl) (by kernel_rfl) (by omega) (by first | omega | (simp only [List.length_map, List.length_append, List.length_take, List.length_drop, List.length_replicate, List.length_set, List.length_cons, List.length_nil]; omega)) ?_
    refine Exists.elim (show ∃ e, list[k]? = some e from ⟨_, List.getElem?_eq_getElem (by first | omega | (simp only [List.length_map, List.length_append, List.length_take, List.length_drop, List.length_replicate, List.length_set, List.length_cons, List.length_nil]; omega))⟩) fun e1 he1 => ?_
    refine At.ldVp (t := 3) (d := 15) (x := .tmp 14) (p := false) (es := 1) (xs := (list.map encI)) (j := k) (off := 0) (b := false) (m := 1) (encI e1) (.int .i64 e1) (by kernel_rfl) (by kernel_rfl) (by kernel_rfl) (by kernel_rfl) (mapGet he1) (by kernel_rfl) ?_
    refine At.auto 2 (by kernel_rfl) ?_
    refine At.done rfl ?_
    refine AW.cond (e1 == x) (by kernel_rfl) (fun hb => ?_) (fun hb => ?_)
    · have h2 : e1 = x := by simpa using hb
      clear hb
      refine AW.seq ?_
      refine AW.region (At.start ?_)
      refine At.auto 1 (by kernel_rfl) ?_
      refine At.done rfl ?_
      refine AW.ret ?_
      refine ⟨_, Sub.refl _ _, ?_⟩
      refine KF.conv (fun w => .bool w) (fun w => []) (show (true) = (hasI x list) from by rw [hR]; first | (rw [List.drop_of_length_le (by omega)]; rfl) | (rw [dropCons ‹_›]; simp_all [hasI])) ?_
      exact KF.mk (.inr rfl) [] [.bool true] (by kernel_rfl) (by kernel_rfl) (by kernel_rfl) (by kernel_rfl) (by kernel_rfl)
    · have h2 : ¬ (e1 = x) := by simpa using hb
      clear hb
      refine AW.skip ?_
      refine AW.region (At.start ?_)
      refine At.auto 2 (by kernel_rfl) ?_
      refine At.say 11 (.int .i64 (IntKind.i64.wrap ((k : Int) + 1))) (.int .i64 ((k : Int) + 1)) (by kernel_rfl) (sayI _ (by omega)) ?_
      refine At.auto 1 (by kernel_rfl) ?_
      refine At.done rfl ?_
      exact ⟨k + 1, ⟨by omega, by rw [hR, dropCons ‹_›]; simp_all [hasI]⟩, by omega, Sub.of [] [true, true, false, false, false, true] _ _ (by kernel_rfl) (by kernel_rfl) (by kernel_rfl)⟩
  · have h1 : ¬ ((k : Int) < (list.length : Int)) := by simpa using hb
    clear hb
    refine AW.exit ?_
    refine AW.seq ?_
    refine AW.region (At.start ?_)
    refine At.auto 1 (by kernel_rfl) ?_
    refine At.done rfl ?_
    refine AW.ret ?_
    refine ⟨_, Sub.refl _ _, ?_⟩
    refine KF.conv (fun w => .bool w) (fun w => []) (show (false) = (hasI x list) from by rw [hR]; first | (rw [List.drop_of_length_le (by omega)]; rfl) | (rw [dropCons ‹_›]; simp_all [hasI])) ?_
    exact KF.mk (.inr rfl) [] [.bool false] (by kernel_rfl) (by kernel_rfl) (by kernel_rfl) (by kernel_rfl) (by kernel_rfl)
set_option maxRecDepth 100000 in
set_option maxHeartbeats 4000000 in
theorem spec_RaftOk_spec  (r : Raft) (hz : SmallR r) : FnSpec Try.prog 34 [.agg [.int .i64 r.id, .int .i64 r.of_, .int .i64 r.role, .int .i64 r.commit, .int .i64 r.hard.term, .int .i64 r.hard.vote, .sl false 6 (r.hard.log.map encEnt), .sl false 1 (r.yes.map encI), .sl false 1 (r.next.map encI), .sl false 1 (r.match_.map encI)]] [] (.bool (raftOk r)) [] := by
  obtain ⟨z1, z2, z3, z4⟩ := id hz
  refine FnSpec.of 143 Try.func34 rfl Try.ntmps34 (by simp) (AW.weakK ?_)
  refine AW.seq ?_
  refine AW.region (At.start ?_)
  refine At.auto 2 (by kernel_rfl) ?_
  refine At.done rfl ?_
  refine AW.seq ?_
  refine AW.seq ?_
  refine AW.cut [(101, 101)] [false, true] 59 (!(raftOk1 r)) ?_ ?_
  · skip
    refine AW.regionD Try_mix (At.start ?_)
    refine At.auto 2 (by kernel_rfl) ?_
    refine At.call (spec_l7Of_spec  r.of_ ) Try.call77 true [] [] [] (by kernel_rfl) (by kernel_rfl) (by kernel_rfl) (by kernel_rfl) (by kernel_rfl) trivial ?_
    refine At.auto 2 (by kernel_rfl) ?_
    by_cases h1 : (ofOk r.of_) = true
    · refine At.say 8 (.bool (!(ofOk r.of_))) (.bool false) (by kernel_rfl) (sayNF (sayB h1)) ?_
      have h1o := ofOk_iff.1 h1
      refine At.auto 5 (by kernel_rfl) ?_
      refine At.say 13 (.int .i64 (IntKind.i64.wrap (r.of_ - 1))) (.int .i64 (r.of_ - 1)) (by kernel_rfl) (sayI _ (by omega)) ?_
      refine At.call (spec_l1In_spec  r.id 0 (r.of_ - 1) ) Try.call78 true [] [] [] (by kernel_rfl) (by kernel_rfl) (by kernel_rfl) (by kernel_rfl) (by kernel_rfl) trivial ?_
      refine At.auto 3 (by kernel_rfl) ?_
      by_cases h2 : (inR r.id 0 (r.of_ - 1)) = true
      · refine At.say 17 (.bool (!(inR r.id 0 (r.of_ - 1)))) (.bool false) (by kernel_rfl) (sayNF (sayB h2)) ?_
        have h2i := inR_iff.1 h2
        refine At.auto 2 (by kernel_rfl) ?_
        refine At.call (spec_l1In_spec  r.role 1 3 ) Try.call78 true [] [] [] (by kernel_rfl) (by kernel_rfl) (by kernel_rfl) (by kernel_rfl) (by kernel_rfl) trivial ?_
        refine At.auto 3 (by kernel_rfl) ?_
        by_cases h3 : (inR r.role 1 3) = true
        · refine At.say 23 (.bool (!(inR r.role 1 3))) (.bool false) (by kernel_rfl) (sayNF (sayB h3)) ?_
          have h3i := inR_iff.1 h3
          refine At.auto 2 (by kernel_rfl) ?_
          refine At.call (spec_HardOk_spec  r.hard (by first | omega | (dsimp only; omega) | (simp only [List.length_map, List.length_append, List.length_take, List.length_drop, List.length_replicate, List.length_set, List.length_cons, List.length_nil]; omega))) Try.call79 true [] [] [] (by kernel_rfl) (by kernel_rfl) (by kernel_rfl) (by kernel_rfl) (by kernel_rfl) trivial ?_
          refine At.auto 3 (by kernel_rfl) ?_
          by_cases h4 : (hardOk r.hard) = true
          · refine At.say 29 (.bool (!(hardOk r.hard))) (.bool false) (by kernel_rfl) (sayNF (sayB h4)) ?_
            refine At.auto 3 (by kernel_rfl) ?_
            refine At.call (spec_l10End_spec  r ) Try.call53 true [] [] [] (by kernel_rfl) (by kernel_rfl) (by kernel_rfl) (by kernel_rfl) (by kernel_rfl) trivial ?_
            refine At.call (spec_l1In_spec  r.commit 0 (r.hard.log.length : Int) ) Try.call78 true [] [] [] (by kernel_rfl) (by kernel_rfl) (by kernel_rfl) (by kernel_rfl) (by kernel_rfl) trivial ?_
            refine At.auto 3 (by kernel_rfl) ?_
            by_cases h5 : (inR r.commit 0 (r.hard.log.length : Int)) = true
            · refine At.say 37 (.bool (!(inR r.commit 0 (r.hard.log.length : Int)))) (.bool false) (by kernel_rfl) (sayNF (sayB h5)) ?_
              have h5i := inR_iff.1 h5
              refine At.auto 3 (by kernel_rfl) ?_
              refine At.say 40 (.int .i64 (((r.yes.map encI).length : Nat) : Int)) (.int .i64 (r.yes.length : Int)) (by kernel_rfl) (sayLen _ _) ?_
              refine At.auto 5 (by kernel_rfl) ?_
              by_cases h6 : (r.yes.length : Int) > r.of_
              · refine At.say 45 (.bool (decide ((r.yes.length : Int) > r.of_))) (.bool true) (by kernel_rfl) (sayT h6) ?_
                refine At.auto 14 (by kernel_rfl) ?_
                refine At.say 59 (.bool true) (.bool (!(raftOk1 r))) (by kernel_rfl) (congrArg V.bool (by first | (simp [raftOk1, h1, h2, h3, h4, h5, h6]; done) | (have q : raftOk1 r = false := Bool.eq_false_iff.2 (fun h => by have := raftOk1_len h; omega); simp [q]))) ?_
                refine At.done rfl ⟨by kernel_rfl, rfl, ?_⟩
                exact Sub.cut [(101, 101)] [false, true] 59 _ (by kernel_rfl) (by kernel_rfl) (by kernel_rfl) (by kernel_rfl)
              · refine At.say 45 (.bool (decide ((r.yes.length : Int) > r.of_))) (.bool false) (by kernel_rfl) (sayF h6) ?_
                refine At.auto 4 (by kernel_rfl) ?_
                refine At.call (spec_l7Nodes_spec  r.yes r.of_ (by first | omega | (dsimp only; omega) | (simp only [List.length_map, List.length_append, List.length_take, List.length_drop, List.length_replicate, List.length_set, List.length_cons, List.length_nil]; omega)) (by first | omega | (dsimp only; omega) | (simp only [List.length_map, List.length_append, List.length_take, List.length_drop, List.length_replicate, List.length_set, List.length_cons, List.length_nil]; omega))) Try.call80 true [] [] [] (by kernel_rfl) (by kernel_rfl) (by kernel_rfl) (by kernel_rfl) (by kernel_rfl) trivial ?_
                refine At.auto 3 (by kernel_rfl) ?_
                by_cases h7 : (asc (r.of_ - 1) (-1) r.yes) = true
                · refine At.say 53 (.bool (!(asc (r.of_ - 1) (-1) r.yes))) (.bool false) (by kernel_rfl) (sayNF (sayB h7)) ?_
                  refine At.auto 4 (by kernel_rfl) ?_
                  refine At.call (spec_l7Has_spec  r.yes r.id (by first | omega | (dsimp only; omega) | (simp only [List.length_map, List.length_append, List.length_take, List.length_drop, List.length_replicate, List.length_set, List.length_cons, List.length_nil]; omega))) Try.call81 true [] [] [] (by kernel_rfl) (by kernel_rfl) (by kernel_rfl) (by kernel_rfl) (by kernel_rfl) trivial ?_
                  refine At.auto 1 (by kernel_rfl) ?_
                  refine At.say 59 (.bool (hasI r.id r.yes)) (.bool (!(raftOk1 r))) (by kernel_rfl) (congrArg V.bool (by first | (simp [raftOk1, h1, h2, h3, h4, h5, h6, h7]; done) | (have q : raftOk1 r = false := Bool.eq_false_iff.2 (fun h => by have := raftOk1_len h; omega); simp [q]))) ?_
                  refine At.done rfl ⟨by kernel_rfl, rfl, ?_⟩
                  exact Sub.cut [(101, 101)] [false, true] 59 _ (by kernel_rfl) (by kernel_rfl) (by kernel_rfl) (by kernel_rfl)
                · refine At.say 53 (.bool (!(asc (r.of_ - 1) (-1) r.yes))) (.bool true) (by kernel_rfl) (sayNT (sayB (Bool.eq_false_iff.2 h7))) ?_
                  replace h7 := Bool.eq_false_iff.2 h7
                  refine At.auto 6 (by kernel_rfl) ?_
                  refine At.say 59 (.bool true) (.bool (!(raftOk1 r))) (by kernel_rfl) (congrArg V.bool (by first | (simp [raftOk1, h1, h2, h3, h4, h5, h6, h7]; done) | (have q : raftOk1 r = false := Bool.eq_false_iff.2 (fun h => by have := raftOk1_len h; omega); simp [q]))) ?_
                  refine At.done rfl ⟨by kernel_rfl, rfl, ?_⟩
                  exact Sub.cut [(101, 101)] [false, true] 59 _ (by kernel_rfl) (by kernel_rfl) (by kernel_rfl) (by kernel_rfl)
            · refine At.say 37 (.bool (!(inR r.commit 0 (r.hard.log.length : Int)))) (.bool true) (by kernel_rfl) (sayNT (sayB (Bool.eq_false_iff.2 h5))) ?_
              replace h5 := Bool.eq_false_iff.2 h5
              refine At.auto 22 (by kernel_rfl) ?_
              refine At.say 59 (.bool true) (.bool (!(raftOk1 r))) (by kernel_rfl) (congrArg V.bool (by first | (simp [raftOk1, h1, h2, h3, h4, h5]; done) | (have q : raftOk1 r = false := Bool.eq_false_iff.2 (fun h => by have := raftOk1_len h; omega); simp [q]))) ?_
              refine At.done rfl ⟨by kernel_rfl, rfl, ?_⟩
              exact Sub.cut [(101, 101)] [false, true] 59 _ (by kernel_rfl) (by kernel_rfl) (by kernel_rfl) (by kernel_rfl)
          · refine At.say 29 (.bool (!(hardOk r.hard))) (.bool true) (by kernel_rfl) (sayNT (sayB (Bool.eq_false_iff.2 h4))) ?_
            replace h4 := Bool.eq_false_iff.2 h4
            refine At.auto 30 (by kernel_rfl) ?_
            refine At.say 59 (.bool true) (.bool (!(raftOk1 r))) (by kernel_rfl) (congrArg V.bool (by first | (simp [raftOk1, h1, h2, h3, h4]; done) | (have q : raftOk1 r = false := Bool.eq_false_iff.2 (fun h => by have := raftOk1_len h; omega); simp [q]))) ?_
            refine At.done rfl ⟨by kernel_rfl, rfl, ?_⟩
            exact Sub.cut [(101, 101)] [false, true] 59 _ (by kernel_rfl) (by kernel_rfl) (by kernel_rfl) (by kernel_rfl)
        · refine At.say 23 (.bool (!(inR r.role 1 3))) (.bool true) (by kernel_rfl) (sayNT (sayB (Bool.eq_false_iff.2 h3))) ?_
          replace h3 := Bool.eq_false_iff.2 h3
          refine At.auto 36 (by kernel_rfl) ?_
          refine At.say 59 (.bool true) (.bool (!(raftOk1 r))) (by kernel_rfl) (congrArg V.bool (by first | (simp [raftOk1, h1, h2, h3]; done) | (have q : raftOk1 r = false := Bool.eq_false_iff.2 (fun h => by have := raftOk1_len h; omega); simp [q]))) ?_
          refine At.done rfl ⟨by kernel_rfl, rfl, ?_⟩
          exact Sub.cut [(101, 101)] [false, true] 59 _ (by kernel_rfl) (by kernel_rfl) (by kernel_rfl) (by kernel_rfl)
      · refine At.say 17 (.bool (!(inR r.id 0 (r.of_ - 1)))) (.bool true) (by kernel_rfl) (sayNT (sayB (Bool.eq_false_iff.2 h2))) ?_
        replace h2 := Bool.eq_false_iff.2 h2
        refine At.auto 42 (by kernel_rfl) ?_
        refine At.say 59 (.bool true) (.bool (!(raftOk1 r))) (by kernel_rfl) (congrArg V.bool (by first | (simp [raftOk1, h1, h2]; done) | (have q : raftOk1 r = false := Bool.eq_false_iff.2 (fun h => by have := raftOk1_len h; omega); simp [q]))) ?_
        refine At.done rfl ⟨by kernel_rfl, rfl, ?_⟩
        exact Sub.cut [(101, 101)] [false, true] 59 _ (by kernel_rfl) (by kernel_rfl) (by kernel_rfl) (by kernel_rfl)
    · refine At.say 8 (.bool (!(ofOk r.of_))) (.bool true) (by kernel_rfl) (sayNT (sayB (Bool.eq_false_iff.2 h1))) ?_
      replace h1 := Bool.eq_false_iff.2 h1
      refine At.auto 51 (by kernel_rfl) ?_
      refine At.say 59 (.bool true) (.bool (!(raftOk1 r))) (by kernel_rfl) (congrArg V.bool (by first | (simp [raftOk1, h1]; done) | (have q : raftOk1 r = false := Bool.eq_false_iff.2 (fun h => by have := raftOk1_len h; omega); simp [q]))) ?_
      refine At.done rfl ⟨by kernel_rfl, rfl, ?_⟩
      exact Sub.cut [(101, 101)] [false, true] 59 _ (by kernel_rfl) (by kernel_rfl) (by kernel_rfl) (by kernel_rfl)
  refine AW.cond (!(raftOk1 r)) (by kernel_rfl) (fun hb => ?_) (fun hb => ?_)
  · have h8 : (raftOk1 r) = false := by simpa using hb
    clear hb
    refine AW.seq ?_
    refine AW.region (At.start ?_)
    refine At.auto 1 (by kernel_rfl) ?_
    refine At.done rfl ?_
    refine AW.ret ?_
    refine ⟨_, Sub.refl _ _, ?_⟩
    refine KF.conv (fun w => .bool w) (fun w => []) (show (false) = (raftOk r) from by first | (rw [dropCons he2] at hR2; grind [raftOk, raftOk3, allIn]) | (rw [dropCons he1] at hR1; grind [raftOk, raftOk3, allIn]) | (rw [List.drop_of_length_le (by omega)] at hR1 hR2; grind [raftOk, raftOk3, allIn]) | grind [raftOk, raftOk3]) ?_
    exact KF.mk (.inr rfl) [] [.bool false] (by kernel_rfl) (by kernel_rfl) (by kernel_rfl) (by kernel_rfl) (by kernel_rfl)
  · have h8 : (raftOk1 r) = true := by simpa using hb
    clear hb
    have h8n := raftOk1_nums h8
    refine AW.skip ?_
    refine AW.seq ?_
    refine AW.seq ?_
    refine AW.cut [(101, 101)] [false, true] 88 (!(raftOk2 r)) ?_ ?_
    · skip
      refine AW.region (At.start ?_)
      refine At.auto 4 (by kernel_rfl) ?_
      by_cases h9 : r.role = 2
      · refine At.say 63 (.bool (r.role != 2)) (.bool false) (by kernel_rfl) (sayUF h9) ?_
        refine At.auto 10 (by kernel_rfl) ?_
        by_cases h10 : r.role = 1
        · refine At.say 73 (.bool (r.role != 1)) (.bool false) (by kernel_rfl) (sayUF h10) ?_
          refine At.auto 15 (by kernel_rfl) ?_
          refine At.say 88 (.bool false) (.bool (!(raftOk2 r))) (by kernel_rfl) (congrArg V.bool (by grind [raftOk2])) ?_
          refine At.done rfl ⟨rfl, ?_⟩
          exact Sub.cut [(101, 101)] [false, true] 88 _ (by kernel_rfl) (by kernel_rfl) (by kernel_rfl) (by kernel_rfl)
        · refine At.say 73 (.bool (r.role != 1)) (.bool true) (by kernel_rfl) (sayUT h10) ?_
          refine At.auto 5 (by kernel_rfl) ?_
          by_cases h11 : r.hard.term < 1
          · refine At.say 78 (.bool (decide (r.hard.term < 1))) (.bool true) (by kernel_rfl) (sayT h11) ?_
            refine At.auto 10 (by kernel_rfl) ?_
            refine At.say 88 (.bool true) (.bool (!(raftOk2 r))) (by kernel_rfl) (congrArg V.bool (by grind [raftOk2])) ?_
            refine At.done rfl ⟨rfl, ?_⟩
            exact Sub.cut [(101, 101)] [false, true] 88 _ (by kernel_rfl) (by kernel_rfl) (by kernel_rfl) (by kernel_rfl)
          · refine At.say 78 (.bool (decide (r.hard.term < 1))) (.bool false) (by kernel_rfl) (sayF h11) ?_
            refine At.auto 6 (by kernel_rfl) ?_
            refine At.say 84 (.int .i64 (IntKind.i64.wrap (r.id + 1))) (.int .i64 (r.id + 1)) (by kernel_rfl) (sayI _ (by omega)) ?_
            refine At.auto 4 (by kernel_rfl) ?_
            refine At.say 88 (.bool (r.hard.vote != (r.id + 1))) (.bool (!(raftOk2 r))) (by kernel_rfl) (congrArg V.bool (by grind [raftOk2])) ?_
            refine At.done rfl ⟨rfl, ?_⟩
            exact Sub.cut [(101, 101)] [false, true] 88 _ (by kernel_rfl) (by kernel_rfl) (by kernel_rfl) (by kernel_rfl)
      · refine At.say 63 (.bool (r.role != 2)) (.bool true) (by kernel_rfl) (sayUT h9) ?_
        refine At.auto 3 (by kernel_rfl) ?_
        refine At.say 66 (.int .i64 (((r.yes.map encI).length : Nat) : Int)) (.int .i64 (r.yes.length : Int)) (by kernel_rfl) (sayLen _ _) ?_
        refine At.auto 3 (by kernel_rfl) ?_
        by_cases h12 : (r.yes.length : Int) > 0
        · refine At.say 69 (.bool (decide ((r.yes.length : Int) > 0))) (.bool true) (by kernel_rfl) (sayT h12) ?_
          refine At.auto 19 (by kernel_rfl) ?_
          refine At.say 88 (.bool true) (.bool (!(raftOk2 r))) (by kernel_rfl) (congrArg V.bool (by grind [raftOk2])) ?_
          refine At.done rfl ⟨rfl, ?_⟩
          exact Sub.cut [(101, 101)] [false, true] 88 _ (by kernel_rfl) (by kernel_rfl) (by kernel_rfl) (by kernel_rfl)
        · refine At.say 69 (.bool (decide ((r.yes.length : Int) > 0))) (.bool false) (by kernel_rfl) (sayF h12) ?_
          refine At.auto 4 (by kernel_rfl) ?_
          by_cases h13 : r.role = 1
          · refine At.say 73 (.bool (r.role != 1)) (.bool false) (by kernel_rfl) (sayUF h13) ?_
            refine At.auto 15 (by kernel_rfl) ?_
            refine At.say 88 (.bool false) (.bool (!(raftOk2 r))) (by kernel_rfl) (congrArg V.bool (by grind [raftOk2])) ?_
            refine At.done rfl ⟨rfl, ?_⟩
            exact Sub.cut [(101, 101)] [false, true] 88 _ (by kernel_rfl) (by kernel_rfl) (by kernel_rfl) (by kernel_rfl)
          · refine At.say 73 (.bool (r.role != 1)) (.bool true) (by kernel_rfl) (sayUT h13) ?_
            refine At.auto 5 (by kernel_rfl) ?_
            by_cases h14 : r.hard.term < 1
            · refine At.say 78 (.bool (decide (r.hard.term < 1))) (.bool true) (by kernel_rfl) (sayT h14) ?_
              refine At.auto 10 (by kernel_rfl) ?_
              refine At.say 88 (.bool true) (.bool (!(raftOk2 r))) (by kernel_rfl) (congrArg V.bool (by grind [raftOk2])) ?_
              refine At.done rfl ⟨rfl, ?_⟩
              exact Sub.cut [(101, 101)] [false, true] 88 _ (by kernel_rfl) (by kernel_rfl) (by kernel_rfl) (by kernel_rfl)
            · refine At.say 78 (.bool (decide (r.hard.term < 1))) (.bool false) (by kernel_rfl) (sayF h14) ?_
              refine At.auto 6 (by kernel_rfl) ?_
              refine At.say 84 (.int .i64 (IntKind.i64.wrap (r.id + 1))) (.int .i64 (r.id + 1)) (by kernel_rfl) (sayI _ (by omega)) ?_
              refine At.auto 4 (by kernel_rfl) ?_
              refine At.say 88 (.bool (r.hard.vote != (r.id + 1))) (.bool (!(raftOk2 r))) (by kernel_rfl) (congrArg V.bool (by grind [raftOk2])) ?_
              refine At.done rfl ⟨rfl, ?_⟩
              exact Sub.cut [(101, 101)] [false, true] 88 _ (by kernel_rfl) (by kernel_rfl) (by kernel_rfl) (by kernel_rfl)
    refine AW.cond (!(raftOk2 r)) (by kernel_rfl) (fun hb => ?_) (fun hb => ?_)
    · have h15 : (raftOk2 r) = false := by simpa using hb
      clear hb
      refine AW.seq ?_
      refine AW.region (At.start ?_)
      refine At.auto 1 (by kernel_rfl) ?_
      refine At.done rfl ?_
      refine AW.ret ?_
      refine ⟨_, Sub.refl _ _, ?_⟩
      refine KF.conv (fun w => .bool w) (fun w => []) (show (false) = (raftOk r) from by first | (rw [dropCons he2] at hR2; grind [raftOk, raftOk3, allIn]) | (rw [dropCons he1] at hR1; grind [raftOk, raftOk3, allIn]) | (rw [List.drop_of_length_le (by omega)] at hR1 hR2; grind [raftOk, raftOk3, allIn]) | grind [raftOk, raftOk3]) ?_
      exact KF.mk (.inr rfl) [] [.bool false] (by kernel_rfl) (by kernel_rfl) (by kernel_rfl) (by kernel_rfl) (by kernel_rfl)
    · have h15 : (raftOk2 r) = true := by simpa using hb
      clear hb
      refine AW.skip ?_
      refine AW.seq ?_
      refine AW.seq ?_
      refine AW.region (At.start ?_)
      refine At.auto 3 (by kernel_rfl) ?_
      refine At.done rfl ?_
      refine AW.cond (r.role != 3) (by kernel_rfl) (fun hb => ?_) (fun hb => ?_)
      · have h16 : ¬ (r.role = 3) := by simpa using hb
        clear hb
        refine AW.seq ?_
        refine AW.region (At.start ?_)
        refine At.auto 3 (by kernel_rfl) ?_
        refine At.say 94 (.int .i64 (((r.next.map encI).length : Nat) : Int)) (.int .i64 (r.next.length : Int)) (by kernel_rfl) (sayLen _ _) ?_
        refine At.auto 2 (by kernel_rfl) ?_
        by_cases h17 : (r.next.length : Int) = 0
        · refine At.say 96 (.bool ((r.next.length : Int) == 0)) (.bool true) (by kernel_rfl) (sayET h17) ?_
          refine At.auto 3 (by kernel_rfl) ?_
          refine At.say 99 (.int .i64 (((r.match_.map encI).length : Nat) : Int)) (.int .i64 (r.match_.length : Int)) (by kernel_rfl) (sayLen _ _) ?_
          refine At.auto 3 (by kernel_rfl) ?_
          refine At.done rfl ?_
          refine AW.ret ?_
          refine ⟨_, Sub.refl _ _, ?_⟩
          refine KF.conv (fun w => .bool w) (fun w => []) (show ((r.match_.length : Int) == 0) = (raftOk r) from by first | (rw [dropCons he2] at hR2; grind [raftOk, raftOk3, allIn]) | (rw [dropCons he1] at hR1; grind [raftOk, raftOk3, allIn]) | (rw [List.drop_of_length_le (by omega)] at hR1 hR2; grind [raftOk, raftOk3, allIn]) | grind [raftOk, raftOk3]) ?_
          exact KF.mk (.inr rfl) [] [.bool ((r.match_.length : Int) == 0)] (by kernel_rfl) (by kernel_rfl) (by kernel_rfl) (by kernel_rfl) (by kernel_rfl)
        · refine At.say 96 (.bool ((r.next.length : Int) == 0)) (.bool false) (by kernel_rfl) (sayEF h17) ?_
          refine At.auto 6 (by kernel_rfl) ?_
          refine At.done rfl ?_
          refine AW.ret ?_
          refine ⟨_, Sub.refl _ _, ?_⟩
          refine KF.conv (fun w => .bool w) (fun w => []) (show (false) = (raftOk r) from by first | (rw [dropCons he2] at hR2; grind [raftOk, raftOk3, allIn]) | (rw [dropCons he1] at hR1; grind [raftOk, raftOk3, allIn]) | (rw [List.drop_of_length_le (by omega)] at hR1 hR2; grind [raftOk, raftOk3, allIn]) | grind [raftOk, raftOk3]) ?_
          exact KF.mk (.inr rfl) [] [.bool false] (by kernel_rfl) (by kernel_rfl) (by kernel_rfl) (by kernel_rfl) (by kernel_rfl)
      · have h16 : r.role = 3 := by simpa using hb
        clear hb
        refine AW.skip ?_
        refine AW.seq ?_
        refine AW.seq ?_
        refine AW.region (At.start ?_)
        refine At.auto 3 (by kernel_rfl) ?_
        refine At.say 104 (.int .i64 (((r.next.map encI).length : Nat) : Int)) (.int .i64 (r.next.length : Int)) (by kernel_rfl) (sayLen _ _) ?_
        refine At.auto 4 (by kernel_rfl) ?_
        by_cases h18 : (r.next.length : Int) = r.of_
        · refine At.say 108 (.bool ((r.next.length : Int) != r.of_)) (.bool false) (by kernel_rfl) (sayUF h18) ?_
          refine At.auto 3 (by kernel_rfl) ?_
          refine At.say 111 (.int .i64 (((r.match_.map encI).length : Nat) : Int)) (.int .i64 (r.match_.length : Int)) (by kernel_rfl) (sayLen _ _) ?_
          refine At.auto 4 (by kernel_rfl) ?_
          refine At.done rfl ?_
          refine AW.cond ((r.match_.length : Int) != r.of_) (by kernel_rfl) (fun hb => ?_) (fun hb => ?_)
          · have h19 : ¬ ((r.match_.length : Int) = r.of_) := by simpa using hb
            clear hb
            refine AW.seq ?_
            refine AW.region (At.start ?_)
            refine At.auto 1 (by kernel_rfl) ?_
            refine At.done rfl ?_
            refine AW.ret ?_
            refine ⟨_, Sub.refl _ _, ?_⟩
            refine KF.conv (fun w => .bool w) (fun w => []) (show (false) = (raftOk r) from by first | (rw [dropCons he2] at hR2; grind [raftOk, raftOk3, allIn]) | (rw [dropCons he1] at hR1; grind [raftOk, raftOk3, allIn]) | (rw [List.drop_of_length_le (by omega)] at hR1 hR2; grind [raftOk, raftOk3, allIn]) | grind [raftOk, raftOk3]) ?_
            exact KF.mk (.inr rfl) [] [.bool false] (by kernel_rfl) (by kernel_rfl) (by kernel_rfl) (by kernel_rfl) (by kernel_rfl)
          · have h19 : (r.match_.length : Int) = r.of_ := by simpa using hb
            clear hb
            refine AW.skip ?_
            refine AW.seq ?_
            refine AW.seq ?_
            refine AW.region (At.start ?_)
            refine At.auto 1 (by kernel_rfl) ?_
            refine At.done rfl ?_
            refine AW.block ?_
            refine AW.loopW (fun (k : Nat) => Go.Sy.mk [.un, .ptr 101 0 0, .un, .int .i64 (k : Int)] [(101, .box 35 [.int .i64 r.id, .int .i64 r.of_, .int .i64 r.role, .int .i64 r.commit, .int .i64 r.hard.term, .int .i64 r.hard.vote, .sl false 6 (r.hard.log.map encEnt), .sl false 1 (r.yes.map encI), .sl false 1 (r.next.map encI), .sl false 1 (r.match_.map encI)])]) (fun (k : Nat) => (k : Int) ≤ r.of_ ∧ allIn 1 (r.hard.log.length + 1) r.next = allIn 1 (r.hard.log.length + 1) (r.next.drop k) ∧ allIn 0 r.hard.log.length r.match_ = allIn 0 r.hard.log.length (r.match_.drop k)) (fun (k : Nat) => r.of_.toNat - k) 0 ⟨by omega, by rw [List.drop_zero], by rw [List.drop_zero]⟩ (Sub.of [(101, 101)] [false, true, false, true] _ _ (by kernel_rfl) (by kernel_rfl) (by kernel_rfl)) ?_
            rintro k ⟨hk, hR1, hR2⟩
            refine AW.seq ?_
            refine AW.seq ?_
            refine AW.region (At.start ?_)
            refine At.auto 4 (by kernel_rfl) ?_
            refine At.done rfl ?_
            refine AW.cond (decide ((k : Int) < r.of_)) (by kernel_rfl) (fun hb => ?_) (fun hb => ?_)
            · have h20 : (k : Int) < r.of_ := by simpa using hb
              clear hb
              refine AW.skip ?_
              refine AW.seq ?_
              refine AW.block ?_
              refine AW.seq ?_
              refine AW.regionD Try_mix (At.start ?_)
              refine At.auto 3 (by kernel_rfl) ?_
              refine At.idxSl (t := 25) (d := 125) (x := .tmp 123) (y := .tmp 124) (p := false) (es := 1) (xs := (r.next.map encI)) (kd := .i64) (i := (k : Int)) (e := 3) (by kernel_rfl) (by kernel_rfl) (by kernel_rfl) (by kernel_rfl) (by omega) (by first | omega | (simp only [List.length_map, List.length_append, List.length_take, List.length_drop, List.length_replicate, List.length_set, List.length_cons, List.length_nil]; omega)) ?_
              refine Exists.elim (show ∃ e, r.next[k]? = some e from ⟨_, List.getElem?_eq_getElem (by first | omega | (simp only [List.length_map, List.length_append, List.length_take, List.length_drop, List.length_replicate, List.length_set, List.length_cons, List.length_nil]; omega))⟩) fun e1 he1 => ?_
              refine At.ldVp (t := 3) (d := 126) (x := .tmp 125) (p := false) (es := 1) (xs := (r.next.map encI)) (j := k) (off := 0) (b := false) (m := 1) (encI e1) (.int .i64 e1) (by kernel_rfl) (by kernel_rfl) (by kernel_rfl) (by kernel_rfl) (mapGet he1) (by kernel_rfl) ?_
              refine At.auto 1 (by kernel_rfl) ?_
              refine At.call (spec_l10End_spec  r ) Try.call53 true [] [] [] (by kernel_rfl) (by kernel_rfl) (by kernel_rfl) (by kernel_rfl) (by kernel_rfl) trivial ?_
              refine At.auto 1 (by kernel_rfl) ?_
              refine At.say 129 (.int .i64 (IntKind.i64.wrap ((r.hard.log.length : Int) + 1))) (.int .i64 ((r.hard.log.length : Int) + 1)) (by kernel_rfl) (sayI _ (by omega)) ?_
              refine At.call (spec_l1In_spec  e1 1 ((r.hard.log.length : Int) + 1) ) Try.call78 true [] [] [] (by kernel_rfl) (by kernel_rfl) (by kernel_rfl) (by kernel_rfl) (by kernel_rfl) trivial ?_
              refine At.auto 2 (by kernel_rfl) ?_
              by_cases h21 : (inR e1 1 ((r.hard.log.length : Int) + 1)) = true
              · refine At.say 132 (.bool (!(inR e1 1 ((r.hard.log.length : Int) + 1)))) (.bool false) (by kernel_rfl) (sayNF (sayB h21)) ?_
                have h21i := inR_iff.1 h21
                refine At.auto 3 (by kernel_rfl) ?_
                refine At.idxSl (t := 25) (d := 136) (x := .tmp 134) (y := .tmp 135) (p := false) (es := 1) (xs := (r.match_.map encI)) (kd := .i64) (i := (k : Int)) (e := 3) (by kernel_rfl) (by kernel_rfl) (by kernel_rfl) (by kernel_rfl) (by omega) (by first | omega | (simp only [List.length_map, List.length_append, List.length_take, List.length_drop, List.length_replicate, List.length_set, List.length_cons, List.length_nil]; omega)) ?_
                refine Exists.elim (show ∃ e, r.match_[k]? = some e from ⟨_, List.getElem?_eq_getElem (by first | omega | (simp only [List.length_map, List.length_append, List.length_take, List.length_drop, List.length_replicate, List.length_set, List.length_cons, List.length_nil]; omega))⟩) fun e2 he2 => ?_
                refine At.ldVp (t := 3) (d := 137) (x := .tmp 136) (p := false) (es := 1) (xs := (r.match_.map encI)) (j := k) (off := 0) (b := false) (m := 1) (encI e2) (.int .i64 e2) (by kernel_rfl) (by kernel_rfl) (by kernel_rfl) (by kernel_rfl) (mapGet he2) (by kernel_rfl) ?_
                refine At.auto 1 (by kernel_rfl) ?_
                refine At.call (spec_l10End_spec  r ) Try.call53 true [] [] [] (by kernel_rfl) (by kernel_rfl) (by kernel_rfl) (by kernel_rfl) (by kernel_rfl) trivial ?_
                refine At.call (spec_l1In_spec  e2 0 (r.hard.log.length : Int) ) Try.call78 true [] [] [] (by kernel_rfl) (by kernel_rfl) (by kernel_rfl) (by kernel_rfl) (by kernel_rfl) trivial ?_
                refine At.auto 2 (by kernel_rfl) ?_
                refine At.done rfl ⟨by kernel_rfl, ?_⟩
                refine AW.cond (!(inR e2 0 (r.hard.log.length : Int))) (by kernel_rfl) (fun hb => ?_) (fun hb => ?_)
                · have h22 : (inR e2 0 (r.hard.log.length : Int)) = false := by simpa using hb
                  clear hb
                  refine AW.seq ?_
                  refine AW.region (At.start ?_)
                  refine At.auto 1 (by kernel_rfl) ?_
                  refine At.done rfl ?_
                  refine AW.ret ?_
                  refine ⟨_, Sub.refl _ _, ?_⟩
                  refine KF.conv (fun w => .bool w) (fun w => []) (show (false) = (raftOk r) from by first | (rw [dropCons he2] at hR2; grind [raftOk, raftOk3, allIn]) | (rw [dropCons he1] at hR1; grind [raftOk, raftOk3, allIn]) | (rw [List.drop_of_length_le (by omega)] at hR1 hR2; grind [raftOk, raftOk3, allIn]) | grind [raftOk, raftOk3]) ?_
                  exact KF.mk (.inr rfl) [] [.bool false] (by kernel_rfl) (by kernel_rfl) (by kernel_rfl) (by kernel_rfl) (by kernel_rfl)
                · have h22 : (inR e2 0 (r.hard.log.length : Int)) = true := by simpa using hb
                  clear hb
                  have h22i := inR_iff.1 h22
                  refine AW.skip ?_
                  refine AW.region (At.start ?_)
                  refine At.auto 2 (by kernel_rfl) ?_
                  refine At.say 121 (.int .i64 (IntKind.i64.wrap ((k : Int) + 1))) (.int .i64 ((k : Int) + 1)) (by kernel_rfl) (sayI _ (by omega)) ?_
                  refine At.auto 1 (by kernel_rfl) ?_
                  refine At.done rfl ?_
                  exact ⟨k + 1, ⟨by omega, by rw [hR1, dropCons he1, allIn]; simp only [*, Bool.true_and], by rw [hR2, dropCons he2, allIn]; simp only [*, Bool.true_and]⟩, (by omega), Sub.of [(101, 101)] [false, true, false, true] _ _ (by kernel_rfl) (by kernel_rfl) (by kernel_rfl)⟩
              · refine At.say 132 (.bool (!(inR e1 1 ((r.hard.log.length : Int) + 1)))) (.bool true) (by kernel_rfl) (sayNT (sayB (Bool.eq_false_iff.2 h21))) ?_
                replace h21 := Bool.eq_false_iff.2 h21
                refine At.auto 10 (by kernel_rfl) ?_
                refine At.done rfl ⟨by kernel_rfl, ?_⟩
                refine AW.cond true (by kernel_rfl) (fun _ => ?_) (fun h => by cases h)
                refine AW.seq ?_
                refine AW.region (At.start ?_)
                refine At.auto 1 (by kernel_rfl) ?_
                refine At.done rfl ?_
                refine AW.ret ?_
                refine ⟨_, Sub.refl _ _, ?_⟩
                refine KF.conv (fun w => .bool w) (fun w => []) (show (false) = (raftOk r) from by first | (rw [dropCons he2] at hR2; grind [raftOk, raftOk3, allIn]) | (rw [dropCons he1] at hR1; grind [raftOk, raftOk3, allIn]) | (rw [List.drop_of_length_le (by omega)] at hR1 hR2; grind [raftOk, raftOk3, allIn]) | grind [raftOk, raftOk3]) ?_
                exact KF.mk (.inr rfl) [] [.bool false] (by kernel_rfl) (by kernel_rfl) (by kernel_rfl) (by kernel_rfl) (by kernel_rfl)
            · have h20 : ¬ ((k : Int) < r.of_) := by simpa using hb
              clear hb
              refine AW.exit ?_
              refine AW.seq ?_
              refine AW.region (At.start ?_)
              refine At.auto 1 (by kernel_rfl) ?_
              refine At.done rfl ?_
              refine AW.ret ?_
              refine ⟨_, Sub.refl _ _, ?_⟩
              refine KF.conv (fun w => .bool w) (fun w => []) (show (true) = (raftOk r) from by first | (rw [dropCons he2] at hR2; grind [raftOk, raftOk3, allIn]) | (rw [dropCons he1] at hR1; grind [raftOk, raftOk3, allIn]) | (rw [List.drop_of_length_le (by omega)] at hR1 hR2; grind [raftOk, raftOk3, allIn]) | grind [raftOk, raftOk3]) ?_
              exact KF.mk (.inr rfl) [] [.bool true] (by kernel_rfl) (by kernel_rfl) (by kernel_rfl) (by kernel_rfl) (by kernel_rfl)
        · refine At.say 108 (.bool ((r.next.length : Int) != r.of_)) (.bool true) (by kernel_rfl) (sayUT h18) ?_
          refine At.auto 7 (by kernel_rfl) ?_
          refine At.done rfl ?_
          refine AW.cond true (by kernel_rfl) (fun _ => ?_) (fun h => by cases h)
          refine AW.seq ?_
          refine AW.region (At.start ?_)
          refine At.auto 1 (by kernel_rfl) ?_
          refine At.done rfl ?_
          refine AW.ret ?_
          refine ⟨_, Sub.refl _ _, ?_⟩
          refine KF.conv (fun w => .bool w) (fun w => []) (show (false) = (raftOk r) from by first | (rw [dropCons he2] at hR2; grind [raftOk, raftOk3, allIn]) | (rw [dropCons he1] at hR1; grind [raftOk, raftOk3, allIn]) | (rw [List.drop_of_length_le (by omega)] at hR1 hR2; grind [raftOk, raftOk3, allIn]) | grind [raftOk, raftOk3]) ?_
          exact KF.mk (.inr rfl) [] [.bool false] (by kernel_rfl) (by kernel_rfl) (by kernel_rfl) (by kernel_rfl) (by kernel_rfl)
set_option maxRecDepth 100000 in
set_option maxHeartbeats 4000000 in
theorem spec_l6Copy_spec  (h : Hard) (hl : h.log.length ≤ 1048576) : FnSpec Try.prog 112 [.agg [.int .i64 h.term, .int .i64 h.vote, .sl false 6 (h.log.map encEnt)]] [] (.agg [.int .i64 h.term, .int .i64 h.vote, .ref 0]) [.arr 88 6 (h.log.map encEnt)] := by
  refine FnSpec.of 12 Try.func112 rfl Try.ntmps112 (by simp) (AW.weakK ?_)
  refine AW.seq ?_
  refine AW.region (At.start ?_)
  refine At.auto 2 (by kernel_rfl) ?_
  refine At.done rfl ?_
  refine AW.seq ?_
  refine AW.weak (Sub.nils [⟨true, 102, some 2, 5001, 88, 6⟩] (by kernel_rfl)) ?_
  refine AW.regionD Try_mix (At.start ?_)
  refine At.auto 4 (by kernel_rfl) ?_
  refine At.lit0 (t := 31) (d := 7) (e := 88) (es := 6) (bytes := 56) 107 (by kernel_rfl) (by kernel_rfl) (by kernel_rfl) (by kernel_rfl) ?_
  refine At.auto 2 (by kernel_rfl) ?_
  refine At.append (t := 31) (d := 10) (e := 88) (es := 6) (bytes := 56) (s := .tmp 7) (x := .tmp 9) (S := .ref 107) (T := .sl false 6 (h.log.map encEnt)) (xs := []) (ys := (h.log.map encEnt)) 110 [107] [] (h.log.map encEnt) (by kernel_rfl) (by kernel_rfl) (by kernel_rfl) (by kernel_rfl) ⟨by kernel_rfl, rfl⟩ ⟨rfl, rfl, (allP_encEnt _), rfl⟩ (by kernel_rfl) (by kernel_rfl) (by simp) (by first | omega | (simp only [List.length_map, List.length_append, List.length_take, List.length_drop, List.length_replicate, List.length_set, List.length_cons, List.length_nil]; omega)) (by first | omega | (simp only [List.length_map, List.length_append, List.length_take, List.length_drop, List.length_replicate, List.length_set, List.length_cons, List.length_nil]; omega)) ?_
  refine At.auto 2 (by kernel_rfl) ?_
  refine At.done rfl ⟨by kernel_rfl, ?_⟩
  refine AW.ret ?_
  refine ⟨_, Sub.refl _ _, ?_⟩
  exact KF.mk (.inr rfl) [(110, 0)] [.agg [.int .i64 h.term, .int .i64 h.vote, .ref 110]] (by kernel_rfl) (by kernel_rfl) (by kernel_rfl) (by kernel_rfl) (by kernel_rfl)
set_option maxRecDepth 100000 in
set_option maxHeartbeats 4000000 in
theorem spec_l10Copy_spec  (r : Raft) (hz : SmallR r) : FnSpec Try.prog 91 [.agg [.int .i64 r.id, .int .i64 r.of_, .int .i64 r.role, .int .i64 r.commit, .int .i64 r.hard.term, .int .i64 r.hard.vote, .sl false 6 (r.hard.log.map encEnt), .sl false 1 (r.yes.map encI), .sl false 1 (r.next.map encI), .sl false 1 (r.match_.map encI)]] [] (.agg [.int .i64 r.id, .int .i64 r.of_, .int .i64 r.role, .int .i64 r.commit, .int .i64 r.hard.term, .int .i64 r.hard.vote, .ref 0, .ref 1, .ref 2, .ref 3]) [.arr 88 6 (r.hard.log.map encEnt), .arr 3 1 (r.yes.map encI), .arr 3 1 (r.next.map encI), .arr 3 1 (r.match_.map encI)] := by
  obtain ⟨z1, z2, z3, z4⟩ := id hz
  refine FnSpec.of 25 Try.func91 rfl Try.ntmps91 (by simp) (AW.weakK ?_)
  refine AW.seq ?_
  refine AW.region (At.start ?_)
  refine At.auto 2 (by kernel_rfl) ?_
  refine At.done rfl ?_
  refine AW.seq ?_
  refine AW.weak (Sub.nils [⟨true, 102, some 6, 5001, 88, 6⟩, ⟨true, 102, some 7, 5002, 3, 1⟩, ⟨true, 102, some 8, 5003, 3, 1⟩, ⟨true, 102, some 9, 5004, 3, 1⟩] (by kernel_rfl)) ?_
  refine AW.region (At.start ?_)
  refine At.auto 3 (by kernel_rfl) ?_
  refine At.done rfl ?_
  refine AW.seq ?_
  refine AW.region (At.start ?_)
  refine At.auto 2 (by kernel_rfl) ?_
  refine At.call (spec_l6Copy_spec  r.hard (by first | omega | (dsimp only; omega) | (simp only [List.length_map, List.length_append, List.length_take, List.length_drop, List.length_replicate, List.length_set, List.length_cons, List.length_nil]; omega))) Try.call112 true [] [(1140, 0)] [] (by kernel_rfl) (by kernel_rfl) (by kernel_rfl) (by kernel_rfl) (by kernel_rfl) trivial ?_
  refine At.auto 2 (by kernel_rfl) ?_
  refine At.done rfl ?_
  refine AW.seq ?_
  refine AW.region (At.start ?_)
  refine At.lit0 (t := 25) (d := 9) (e := 3) (es := 1) (bytes := 8) 109 (by kernel_rfl) (by kernel_rfl) (by kernel_rfl) (by kernel_rfl) ?_
  refine At.auto 2 (by kernel_rfl) ?_
  refine At.append (t := 25) (d := 12) (e := 3) (es := 1) (bytes := 8) (s := .tmp 9) (x := .tmp 11) (S := .ref 109) (T := .sl false 1 (r.yes.map encI)) (xs := []) (ys := (r.yes.map encI)) 112 [109] [] (r.yes.map encI) (by kernel_rfl) (by kernel_rfl) (by kernel_rfl) (by kernel_rfl) ⟨by kernel_rfl, rfl⟩ ⟨rfl, rfl, (allP_encI _), rfl⟩ (by kernel_rfl) (by kernel_rfl) (by simp) (by first | omega | (simp only [List.length_map, List.length_append, List.length_take, List.length_drop, List.length_replicate, List.length_set, List.length_cons, List.length_nil]; omega)) (by first | omega | (simp only [List.length_map, List.length_append, List.length_take, List.length_drop, List.length_replicate, List.length_set, List.length_cons, List.length_nil]; omega)) ?_
  refine At.auto 2 (by kernel_rfl) ?_
  refine At.done rfl ?_
  refine AW.seq ?_
  refine AW.region (At.start ?_)
  refine At.lit0 (t := 25) (d := 14) (e := 3) (es := 1) (bytes := 8) 114 (by kernel_rfl) (by kernel_rfl) (by kernel_rfl) (by kernel_rfl) ?_
  refine At.auto 2 (by kernel_rfl) ?_
  refine At.append (t := 25) (d := 17) (e := 3) (es := 1) (bytes := 8) (s := .tmp 14) (x := .tmp 16) (S := .ref 114) (T := .sl false 1 (r.next.map encI)) (xs := []) (ys := (r.next.map encI)) 117 [114] [] (r.next.map encI) (by kernel_rfl) (by kernel_rfl) (by kernel_rfl) (by kernel_rfl) ⟨by kernel_rfl, rfl⟩ ⟨rfl, rfl, (allP_encI _), rfl⟩ (by kernel_rfl) (by kernel_rfl) (by simp) (by first | omega | (simp only [List.length_map, List.length_append, List.length_take, List.length_drop, List.length_replicate, List.length_set, List.length_cons, List.length_nil]; omega)) (by first | omega | (simp only [List.length_map, List.length_append, List.length_take, List.length_drop, List.length_replicate, List.length_set, List.length_cons, List.length_nil]; omega)) ?_
  refine At.auto 2 (by kernel_rfl) ?_
  refine At.done rfl ?_
  refine AW.seq ?_
  refine AW.region (At.start ?_)
  refine At.lit0 (t := 25) (d := 19) (e := 3) (es := 1) (bytes := 8) 119 (by kernel_rfl) (by kernel_rfl) (by kernel_rfl) (by kernel_rfl) ?_
  refine At.auto 2 (by kernel_rfl) ?_
  refine At.append (t := 25) (d := 22) (e := 3) (es := 1) (bytes := 8) (s := .tmp 19) (x := .tmp 21) (S := .ref 119) (T := .sl false 1 (r.match_.map encI)) (xs := []) (ys := (r.match_.map encI)) 122 [119] [] (r.match_.map encI) (by kernel_rfl) (by kernel_rfl) (by kernel_rfl) (by kernel_rfl) ⟨by kernel_rfl, rfl⟩ ⟨rfl, rfl, (allP_encI _), rfl⟩ (by kernel_rfl) (by kernel_rfl) (by simp) (by first | omega | (simp only [List.length_map, List.length_append, List.length_take, List.length_drop, List.length_replicate, List.length_set, List.length_cons, List.length_nil]; omega)) (by first | omega | (simp only [List.length_map, List.length_append, List.length_take, List.length_drop, List.length_replicate, List.length_set, List.length_cons, List.length_nil]; omega)) ?_
  refine At.auto 2 (by kernel_rfl) ?_
  refine At.done rfl ?_
  refine AW.seq ?_
  refine AW.region (At.start ?_)
  refine At.auto 2 (by kernel_rfl) ?_
  refine At.done rfl ?_
  refine AW.ret ?_
  refine ⟨_, Sub.refl _ _, ?_⟩
  exact KF.mk (.inr rfl) [(1140, 0), (112, 1), (117, 2), (122, 3)] [.agg [.int .i64 r.id, .int .i64 r.of_, .int .i64 r.role, .int .i64 r.commit, .int .i64 r.hard.term, .int .i64 r.hard.vote, .ref 1140, .ref 112, .ref 117, .ref 122]] (by kernel_rfl) (by kernel_rfl) (by kernel_rfl) (by kernel_rfl) (by kernel_rfl)
set_option maxRecDepth 100000 in
set_option maxHeartbeats 4000000 in
theorem spec_l10Same_spec  (r : Raft) (hz : SmallR r) : FnSpec Try.prog 51 [.agg [.int .i64 r.id, .int .i64 r.of_, .int .i64 r.role, .int .i64 r.commit, .int .i64 r.hard.term, .int .i64 r.hard.vote, .sl false 6 (r.hard.log.map encEnt), .sl false 1 (r.yes.map encI), .sl false 1 (r.next.map encI), .sl false 1 (r.match_.map encI)]] [] (.agg [.int .i64 ((same r).id), .int .i64 ((same r).of_), .int .i64 ((same r).role), .int .i64 ((same r).commit), .int .i64 ((same r).hard.term), .int .i64 ((same r).hard.vote), .ref 0, .ref 1, .ref 2, .ref 3]) [.arr 88 6 (((same r).hard.log).map encEnt), .arr 3 1 (((same r).yes).map encI), .arr 3 1 (((same r).next).map encI), .arr 3 1 (((same r).match_).map encI)] := by
  obtain ⟨z1, z2, z3, z4⟩ := id hz
  refine FnSpec.of 9 Try.func51 rfl Try.ntmps51 (by simp) (AW.weakK ?_)
  refine AW.seq ?_
  refine AW.region (At.start ?_)
  refine At.auto 2 (by kernel_rfl) ?_
  refine At.done rfl ?_
  refine AW.seq ?_
  refine AW.seq ?_
  refine AW.weak (Sub.nils [⟨true, 102, some 6, 5001, 88, 6⟩, ⟨true, 102, some 7, 5002, 3, 1⟩, ⟨true, 102, some 8, 5003, 3, 1⟩, ⟨true, 102, some 9, 5004, 3, 1⟩] (by kernel_rfl)) ?_
  refine AW.region (At.start ?_)
  refine At.auto 1 (by kernel_rfl) ?_
  refine At.call (spec_RaftOk_spec  r hz) Try.call34 true [] [] [] (by kernel_rfl) (by kernel_rfl) (by kernel_rfl) (by kernel_rfl) (by kernel_rfl) trivial ?_
  refine At.auto 1 (by kernel_rfl) ?_
  refine At.done rfl ?_
  refine AW.cond (!(raftOk r)) (by kernel_rfl) (fun hb => ?_) (fun hb => ?_)
  · have h1 : (raftOk r) = false := by simpa using hb
    clear hb
    refine AW.seq ?_
    refine AW.region (At.start ?_)
    refine At.auto 2 (by kernel_rfl) ?_
    refine At.done rfl ?_
    refine AW.ret ?_
    refine ⟨_, Sub.nils [⟨true, 102, some 6, 5005, 88, 6⟩, ⟨true, 102, some 7, 5006, 3, 1⟩, ⟨true, 102, some 8, 5007, 3, 1⟩, ⟨true, 102, some 9, 5008, 3, 1⟩] (by kernel_rfl), ?_⟩
    refine KF.conv (fun w => .agg [.int .i64 w.id, .int .i64 w.of_, .int .i64 w.role, .int .i64 w.commit, .int .i64 w.hard.term, .int .i64 w.hard.vote, .ref 0, .ref 1, .ref 2, .ref 3]) (fun w => [.arr 88 6 (w.hard.log.map encEnt), .arr 3 1 (w.yes.map encI), .arr 3 1 (w.next.map encI), .arr 3 1 (w.match_.map encI)]) (show ((⟨0, 0, 0, 0, ⟨0, 0, []⟩, [], [], []⟩ : Raft)) = (same r) from by simp only [same, h1, if_true] <;> rfl) ?_
    exact KF.mk (.inr rfl) [(5005, 0), (5006, 1), (5007, 2), (5008, 3)] [.agg [.int .i64 0, .int .i64 0, .int .i64 0, .int .i64 0, .int .i64 0, .int .i64 0, .ref 5005, .ref 5006, .ref 5007, .ref 5008]] (by kernel_rfl) (by kernel_rfl) (by kernel_rfl) (by kernel_rfl) (by kernel_rfl)
  · have h1 : (raftOk r) = true := by simpa using hb
    clear hb
    have h1n := raftOk1_nums (raftOk_1 h1)
    refine AW.skip ?_
    refine AW.seq ?_
    refine AW.region (At.start ?_)
    refine At.auto 1 (by kernel_rfl) ?_
    refine At.call (spec_l10Copy_spec  r hz) Try.call91 true [] [(1160, 0), (1161, 1), (1162, 2), (1163, 3)] [] (by kernel_rfl) (by kernel_rfl) (by kernel_rfl) (by kernel_rfl) (by kernel_rfl) trivial ?_
    refine At.auto 1 (by kernel_rfl) ?_
    refine At.done rfl ?_
    refine AW.ret ?_
    refine ⟨_, Sub.refl _ _, ?_⟩
    refine KF.conv (fun w => .agg [.int .i64 w.id, .int .i64 w.of_, .int .i64 w.role, .int .i64 w.commit, .int .i64 w.hard.term, .int .i64 w.hard.vote, .ref 0, .ref 1, .ref 2, .ref 3]) (fun w => [.arr 88 6 (w.hard.log.map encEnt), .arr 3 1 (w.yes.map encI), .arr 3 1 (w.next.map encI), .arr 3 1 (w.match_.map encI)]) (show (r) = (same r) from by simp only [same, h1, if_true] <;> rfl) ?_
    exact KF.mk (.inr rfl) [(1160, 0), (1161, 1), (1162, 2), (1163, 3)] [.agg [.int .i64 r.id, .int .i64 r.of_, .int .i64 r.role, .int .i64 r.commit, .int .i64 r.hard.term, .int .i64 r.hard.vote, .ref 1160, .ref 1161, .ref 1162, .ref 1163]] (by kernel_rfl) (by kernel_rfl) (by kernel_rfl) (by kernel_rfl) (by kernel_rfl)
set_option maxRecDepth 100000 in
set_option maxHeartbeats 4000000 in
theorem spec_l10Same_T_spec  (r : Raft) (hz : SmallR r) (hok : raftOk r = true) : FnSpec Try.prog 51 [.agg [.int .i64 r.id, .int .i64 r.of_, .int .i64 r.role, .int .i64 r.commit, .int .i64 r.hard.term, .int .i64 r.hard.vote, .sl false 6 (r.hard.log.map encEnt), .sl false 1 (r.yes.map encI), .sl false 1 (r.next.map encI), .sl false 1 (r.match_.map encI)]] [] (.agg [.int .i64 r.id, .int .i64 r.of_, .int .i64 r.role, .int .i64 r.commit, .int .i64 r.hard.term, .int .i64 r.hard.vote, .ref 0, .ref 1, .ref 2, .ref 3]) [.arr 88 6 (r.hard.log.map encEnt), .arr 3 1 (r.yes.map encI), .arr 3 1 (r.next.map encI), .arr 3 1 (r.match_.map encI)] := by have := spec_l10Same_spec r hz; rw [show same r = r from if_pos hok] at this; exact this
set_option maxRecDepth 100000 in
set_option maxHeartbeats 4000000 in
theorem spec_l10Same_F_spec  (r : Raft) (hz : SmallR r) (hok : ¬ raftOk r = true) : FnSpec Try.prog 51 [.agg [.int .i64 r.id, .int .i64 r.of_, .int .i64 r.role, .int .i64 r.commit, .int .i64 r.hard.term, .int .i64 r.hard.vote, .sl false 6 (r.hard.log.map encEnt), .sl false 1 (r.yes.map encI), .sl false 1 (r.next.map encI), .sl false 1 (r.match_.map encI)]] [] (.agg [.int .i64 0, .int .i64 0, .int .i64 0, .int .i64 0, .int .i64 0, .int .i64 0, .ref 0, .ref 1, .ref 2, .ref 3]) [.arr 88 6 [], .arr 3 1 [], .arr 3 1 [], .arr 3 1 []] := by have := spec_l10Same_spec r hz; rw [show same r = zRaft from if_neg hok] at this; exact this
end Go.Proofs.Ytlmadhahghiedaa
